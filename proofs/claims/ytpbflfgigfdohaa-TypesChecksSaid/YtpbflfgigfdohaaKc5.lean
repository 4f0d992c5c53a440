/-
  Walks and lemmas. Written by program out of specs of mine.
-/
import Derived.WalkKit
import Derived.WalkSpells
import Derived.WalkLawsBesides
import Derived.Deep.Quiet
import Derived.StillTail
import Derived.StringKeys
import Derived.Laws.StructEq
import Derived.Laws.Externs
import Derived.Laws.Tables
import Derived.Scope
import Derived.Test.YtpbflfgigfdohaaProg
import Derived.Laws.AppendOwn
import Derived.Maps.AppendAt
import Derived.Recover
import Derived.Lib.Bytealg
import Derived.SizedLaws
import Derived.ChangeArms
import Derived.ChangeSlices
import Derived.Maps.OwnSet
import Derived.Test.YtpbflfgigfdohaaRows
import Derived.ProofKit
import Derived.OpenShut
import Derived.ShutString
import Derived.ChangeOld
import Derived.Below
import Derived.Test.YtpbflfgigfdohaaKc4
set_option linter.unusedSimpArgs false
set_option linter.unusedVariables false
set_option maxRecDepth 100000
set_option linter.unusedSimpArgs false
set_option linter.unusedVariables false
set_option maxRecDepth 100000
namespace Go.Proofs.Ytpbflfgigfdohaa
open Go Go.Vc Go.RowKit Go.Proofs

def digN (n : Nat) : List UInt8 := if h : n < 10 then [UInt8.ofNat (48 + n)] else digN (n / 10) ++ [UInt8.ofNat (48 + n % 10)]
termination_by n
decreasing_by omega
def valN (l : List UInt8) : Nat := l.foldl (fun a c => 10 * a + (c.toNat - 48)) 0
theorem valN_snoc (l : List UInt8) (c : UInt8) : valN (l ++ [c]) = 10 * valN l + (c.toNat - 48) := by unfold valN; rw [List.foldl_append]; rfl
theorem digit_nat {m : Nat} (h : m < 10) : (UInt8.ofNat (48 + m)).toNat = 48 + m := by
  rw [UInt8.toNat_ofNat']
  omega
theorem val_dig (n : Nat) : valN (digN n) = n := by
  induction n using Nat.strongRecOn with
  | _ n ih =>
    rw [digN]
    split
    · rename_i h
      show 10 * 0 + ((UInt8.ofNat (48 + n)).toNat - 48) = n
      rw [digit_nat h]; omega
    rename_i h
    rw [valN_snoc, ih (n / 10) (by omega), digit_nat (by omega)]
    omega
theorem digN_inj {a b : Nat} (h : digN a = digN b) : a = b := by rw [← val_dig a, h, val_dig]
/-- the new name number k -/
def zqN (k : Nat) : List UInt8 := [122, 113] ++ digN k
theorem zqN_inj {a b : Nat} (h : zqN a = zqN b) : a = b := digN_inj (List.append_cancel_left h)
theorem idx_inj {L : List (List UInt8)} {s u : List UInt8} (h : s ∈ L) (he : L.idxOf s = L.idxOf u) (hu : u ∈ L) : s = u := by
  have h1 := List.getElem_idxOf (List.idxOf_lt_length_iff.2 h)
  have h2 := List.getElem_idxOf (List.idxOf_lt_length_iff.2 hu)
  simp only [he] at h1
  rw [← h1, h2]
/-- a name, or a label, turned -/
def rnS (L : List (List UInt8)) (s : List UInt8) : List UInt8 := if s = [] then [] else zqN (L.idxOf s)
def rnE (A B : List (List UInt8)) (x : Ex) : Ex := { x with name := rnS A x.name, label := rnS B x.label }
def inE (A B : List (List UInt8)) (x : Ex) : Prop := (x.name = [] ∨ x.name ∈ A) ∧ (x.label = [] ∨ x.label ∈ B)
def inD (A B : List (List UInt8)) (d : Df) : Prop := d.name ∈ A ∧ ∀ x ∈ d.ty, inE A B x
theorem zq_ne (k : Nat) : ¬ zqN k = [] := fun h => by cases h
theorem rnS_inj {L : List (List UInt8)} {s u : List UInt8} (hs : s = [] ∨ s ∈ L) (hu : u = [] ∨ u ∈ L) (h : rnS L s = rnS L u) : s = u := by
  unfold rnS at h
  by_cases h1 : s = []
  · by_cases h2 : u = []
    · rw [h1, h2]
    rw [if_pos h1, if_neg h2] at h; exact absurd h.symm (zq_ne _)
  by_cases h2 : u = []
  · rw [if_neg h1, if_pos h2] at h; exact absurd h (zq_ne _)
  rw [if_neg h1, if_neg h2] at h
  exact idx_inj (hs.resolve_left h1) (zqN_inj h) (hu.resolve_left h2)
mutual
theorem tr_right : ∀ {T : Tr} {a : Int} {d : Nat}, T.wf a d → ∀ x ∈ T.flat, ∃ above, rightB x above = true
  | .node y ks, a, d, h, x, hx => by
    rcases List.mem_cons.1 hx with rfl | hx
    · exact ⟨a, h.2.2.1⟩
    exact trs_right h.2.2.2.2 x hx
theorem trs_right : ∀ {T : Trs} {a : Int} {d : Nat}, T.wf a d → ∀ x ∈ T.flat, ∃ above, rightB x above = true
  | .nil, _, _, _, x, hx => by cases hx
  | .cons t ts, a, d, h, x, hx => by
    rcases List.mem_append.1 hx with hx | hx
    · exact tr_right h.1 x hx
    exact trs_right h.2 x hx
end
def SR (A B : List (List UInt8)) (x x' : Ex) : Prop := Sx x x' ∧ x' = rnE A B x ∧ inE A B x
theorem SR.lab {A B : List (List UInt8)} : LabS (SR A B) := fun x x' y y' h1 h2 => by
  rw [h1.2.1, h2.2.1]
  show _ ↔ rnS B x.label = rnS B y.label
  exact ⟨fun h => by rw [h], fun h => rnS_inj h1.2.2.2 h2.2.2.2 h⟩
section
variable {D : List Df} {A B : List (List UInt8)} (hck : (chkS D).2.2 = 0) (hin : ∀ d ∈ D, inD A B d)
include hck hin
end

end Go.Proofs.Ytpbflfgigfdohaa

set_option linter.unusedSimpArgs false
set_option linter.unusedVariables false
set_option maxRecDepth 100000
namespace Go.Proofs.Ytpbflfgigfdohaa
open Go Go.Vc Go.RowKit Go.Proofs

mutual
theorem depT_sim {S : Ex → Ex → Prop} (hS : ∀ x x', S x x' → Sx x x') {wh wh' : List UInt8 → Nat} {dp dq : Nat → Nat} : ∀ (t u : Tr), TSim S t u → (∀ x ∈ t.flat, ∀ x', S x x' → x.kind = 9 → dq (wh' x'.name) = dp (wh x.name)) → depT wh' dq u = depT wh dp t
  | .node y ks, .node z ls, h, hn => by
    unfold TSim at h
    unfold depT
    rw [(hS _ _ h.1).kind]
    by_cases h9 : y.kind = 9
    · rw [if_pos h9, if_pos h9]
      exact hn y (List.mem_cons_self ..) z h.1 h9
    rw [if_neg h9, if_neg h9, depK_sim hS ks ls 0 h.2 (fun x hx => hn x (List.mem_cons_of_mem _ hx))]
theorem depK_sim {S : Ex → Ex → Prop} (hS : ∀ x x', S x x' → Sx x x') {wh wh' : List UInt8 → Nat} {dp dq : Nat → Nat} : ∀ (t u : Trs) (m : Nat), TsSim S t u → (∀ x ∈ t.flat, ∀ x', S x x' → x.kind = 9 → dq (wh' x'.name) = dp (wh x.name)) → depK wh' dq u m = depK wh dp t m
  | .nil, .nil, _, _, _ => rfl
  | .nil, .cons t ts, _, h, _ => by unfold TsSim at h; exact h.elim
  | .cons t ts, .nil, _, h, _ => by unfold TsSim at h; exact h.elim
  | .cons t ts, .cons u us, m, h, hn => by
    unfold TsSim at h
    unfold depK
    rw [depT_sim hS t u h.1 (fun x hx => hn x (List.mem_append_left _ hx)), depK_sim hS ts us _ h.2 (fun x hx => hn x (List.mem_append_right _ hx))]
end
section
variable {D : List Df} {A B : List (List UInt8)} (hck : (chkS D).2.2 = 0) (hin : ∀ d ∈ D, inD A B d)
include hck hin
end
section
variable {D : List Df} {A B : List (List UInt8)} (hck : (chkS D).2.2 = 0) (hin : ∀ d ∈ D, inD A B d) (hA : A.length < 10 ^ 30) (hB : B.length < 10 ^ 30)
include hck hin hA hB
end
end Go.Proofs.Ytpbflfgigfdohaa

set_option linter.unusedSimpArgs false
set_option linter.unusedVariables false
set_option maxRecDepth 100000
namespace Go.Proofs.Ytpbflfgigfdohaa
open Go Go.Vc Go.RowKit Go.Proofs
structure Sxb (x x' : Ex) : Prop where
  kind : x'.kind = x.kind
  tag : x'.tag = x.tag
  kids : x'.kids = x.kids
  rt : ∀ above, rightB x above = true → rightB x' above = true
mutual
theorem tsim_ofB {S : Ex → Ex → Prop} (hS : ∀ x x', S x x' → Sxb x x') : ∀ (t u : Tr) (r s : List Ex) (a b : Int) (d e : Nat), t.wf a d → u.wf b e → F2 S (t.flat ++ r) (u.flat ++ s) → TSim S t u ∧ F2 S r s
  | .node y ks, .node z ls, r, s, a, b, d, e, h1, h2, h => by
    simp only [Tr.flat, List.cons_append] at h
    cases h with
    | cons hs h =>
      obtain ⟨-, -, -, hk1, hw1⟩ := h1
      obtain ⟨-, -, -, hk2, hw2⟩ := h2
      have hkk := (hS _ _ hs).kids
      obtain ⟨g1, g2⟩ := tssim_ofB hS ks ls r s _ _ _ _ hw1 hw2 (by omega) h
      exact ⟨by unfold TSim; exact ⟨hs, g1⟩, g2⟩
theorem tssim_ofB {S : Ex → Ex → Prop} (hS : ∀ x x', S x x' → Sxb x x') : ∀ (t u : Trs) (r s : List Ex) (a b : Int) (d e : Nat), t.wf a d → u.wf b e → t.len = u.len → F2 S (t.flat ++ r) (u.flat ++ s) → TsSim S t u ∧ F2 S r s
  | .nil, .nil, r, s, _, _, _, _, _, _, _, h => ⟨by unfold TsSim; trivial, h⟩
  | .nil, .cons t ts, _, _, _, _, _, _, _, _, hl, _ => by simp [Trs.len] at hl
  | .cons t ts, .nil, _, _, _, _, _, _, _, _, hl, _ => by simp [Trs.len] at hl
  | .cons t ts, .cons u us, r, s, a, b, d, e, h1, h2, hl, h => by
    simp only [Trs.flat, List.append_assoc] at h
    obtain ⟨g1, g2⟩ := tsim_ofB hS t u _ _ _ _ _ _ h1.1 h2.1 h
    obtain ⟨g3, g4⟩ := tssim_ofB hS ts us r s _ _ _ _ h1.2 h2.2 (by simp [Trs.len] at hl; omega) g2
    exact ⟨by unfold TsSim; exact ⟨g1, g3⟩, g4⟩
end
theorem dupB_simB {S : Ex → Ex → Prop} (hS : ∀ x x', S x x' → Sxb x x') (hl : LabS S) {kind : Int} {seen seen' : List Ex} (h : F2 S seen seen') {x x' : Ex} (hx : S x x') : dupB kind seen x = dupB kind seen' x' := by
  unfold dupB
  have h8 : seen.any (fun y => decide (y.label = x.label)) = seen'.any (fun y => decide (y.label = x'.label)) := by
    induction h with
    | nil => rfl
    | cons hs _ ih =>
      rw [List.any_cons, List.any_cons, ih]
      congr 1
      exact decide_eq_decide.2 (hl _ _ _ _ hs hx)
  have h7 : seen.any (fun y => decide (y.tag = x.tag)) = seen'.any (fun y => decide (y.tag = x'.tag)) := by
    clear h8
    induction h with
    | nil => rfl
    | cons hs _ ih =>
      rw [List.any_cons, List.any_cons, ih]
      congr 1
      rw [(hS _ _ hs).tag, (hS _ _ hx).tag]
  rw [h8, h7]
mutual
theorem dupT_simB {S : Ex → Ex → Prop} (hS : ∀ x x', S x x' → Sxb x x') (hl : LabS S) : ∀ (t u : Tr) (a : Nat), TSim S t u → dupT t a = dupT u a
  | .node y ks, .node z ls, a, h => by
    unfold TSim at h
    unfold dupT
    rw [(hS _ _ h.1).kind]
    exact dupK_simB hS hl y.kind ks ls (a + 1) [] [] h.2 .nil
theorem dupK_simB {S : Ex → Ex → Prop} (hS : ∀ x x', S x x' → Sxb x x') (hl : LabS S) (kind : Int) : ∀ (t u : Trs) (a : Nat) (seen seen' : List Ex), TsSim S t u → F2 S seen seen' → dupK kind t a seen = dupK kind u a seen'
  | .nil, .nil, _, _, _, _, _ => rfl
  | .nil, .cons t ts, _, _, _, h, _ => by unfold TsSim at h; exact h.elim
  | .cons t ts, .nil, _, _, _, h, _ => by unfold TsSim at h; exact h.elim
  | .cons t ts, .cons u us, a, seen, seen', h, hs => by
    unfold TsSim at h
    unfold dupK
    have ht := tsim_top h.1
    rw [dupB_simB hS hl hs ht, dupT_simB hS hl t u a h.1, tsim_len t u h.1, dupK_simB hS hl kind ts us _ _ _ h.2 (hs.snoc ht)]
end
mutual
theorem depT_simB {S : Ex → Ex → Prop} (hS : ∀ x x', S x x' → Sxb x x') {wh wh' : List UInt8 → Nat} {dp dq : Nat → Nat} : ∀ (t u : Tr), TSim S t u → (∀ x ∈ t.flat, ∀ x', S x x' → x.kind = 9 → dq (wh' x'.name) = dp (wh x.name)) → depT wh' dq u = depT wh dp t
  | .node y ks, .node z ls, h, hn => by
    unfold TSim at h
    unfold depT
    rw [(hS _ _ h.1).kind]
    by_cases h9 : y.kind = 9
    · rw [if_pos h9, if_pos h9]
      exact hn y (List.mem_cons_self ..) z h.1 h9
    rw [if_neg h9, if_neg h9, depK_simB hS ks ls 0 h.2 (fun x hx => hn x (List.mem_cons_of_mem _ hx))]
theorem depK_simB {S : Ex → Ex → Prop} (hS : ∀ x x', S x x' → Sxb x x') {wh wh' : List UInt8 → Nat} {dp dq : Nat → Nat} : ∀ (t u : Trs) (m : Nat), TsSim S t u → (∀ x ∈ t.flat, ∀ x', S x x' → x.kind = 9 → dq (wh' x'.name) = dp (wh x.name)) → depK wh' dq u m = depK wh dp t m
  | .nil, .nil, _, _, _ => rfl
  | .nil, .cons t ts, _, h, _ => by unfold TsSim at h; exact h.elim
  | .cons t ts, .nil, _, h, _ => by unfold TsSim at h; exact h.elim
  | .cons t ts, .cons u us, m, h, hn => by
    unfold TsSim at h
    unfold depK
    rw [depT_simB hS t u h.1 (fun x hx => hn x (List.mem_append_left _ hx)), depK_simB hS ts us _ h.2 (fun x hx => hn x (List.mem_append_right _ hx))]
end

theorem bareE_if2 {a b : Ex} : bareE a = bareE b ↔ a.kind = b.kind ∧ a.n = b.n ∧ a.name = b.name ∧ a.label = b.label ∧ a.tag = b.tag ∧ a.kids = b.kids := by simp [bareE]
/-- alike but for places -/
def SB (x x' : Ex) : Prop := bareE x = bareE x'
theorem SB.lab : LabS SB := fun x x' y y' h k => by
  obtain ⟨-, -, -, h4, -, -⟩ := bareE_if2.1 h
  obtain ⟨-, -, -, k4, -, -⟩ := bareE_if2.1 k
  rw [h4, k4]
/-- two sources alike but for places -/
def Like0 (D D' : List Df) : Prop := D.map bareD = D'.map bareD
section
variable {D D' : List Df} (h : Like0 D D')
include h
end
theorem Like0.symm {D D' : List Df} (h : Like0 D D') : Like0 D' D := Eq.symm h
mutual
theorem mkT_sim {rt rt' : List UInt8 → Int} (hrt : rt' = rt) : ∀ (t u : Tr) (L : List Tp), TSim SB t u → mkT rt' u L = mkT rt t L
  | .node y ks, .node z ls, L, h => by
    obtain ⟨h1, h2, h3, -, -, -⟩ := bareE_if2.1 h.1
    rw [mkT, mkT, ← h1, ← h2, ← h3, mkK_sim hrt y.kind ks ls L 0 [] h.2, hrt]
theorem mkK_sim {rt rt' : List UInt8 → Int} (hrt : rt' = rt) (kind : Int) : ∀ (t u : Trs) (L : List Tp) (el : Int) (ps : List Pa), TsSim SB t u → mkK rt' kind u L el ps = mkK rt kind t L el ps
  | .nil, .nil, L, el, ps, _ => rfl
  | .nil, .cons _ _, _, _, _, h => h.elim
  | .cons _ _, .nil, _, _, _, h => h.elim
  | .cons t ts, .cons u us, L, el, ps, h => by
    obtain ⟨-, -, -, h4, h5, -⟩ := bareE_if2.1 (tsim_top h.1)
    rw [mkK, mkK, mkT_sim hrt t u L h.1, ← h4, ← h5]
    split
    · exact mkK_sim hrt kind ts us _ _ _ h.2
    exact mkK_sim hrt kind ts us _ _ _ h.2
end
theorem bldF_none {D : List Df} : bldF D = none ↔ (chkS D).2.2 = 0 ∧ fA D = none ∧ bndF D = none := by
  unfold bldF
  by_cases hc : (chkS D).2.2 = 0
  · rw [if_pos hc]
    cases h : fA D with
    | none => simp [hc]
    | some v => simp
  rw [if_neg hc]; simp [hc]
end Go.Proofs.Ytpbflfgigfdohaa

set_option linter.unusedSimpArgs false
set_option linter.unusedVariables false
set_option maxRecDepth 100000
namespace Go.Proofs.Ytpbflfgigfdohaa
open Go Go.Vc Go.RowKit Go.Proofs

def updI (f : Nat → Int) (i : Nat) (v : Int) : Nat → Int := fun j => if j = i then v else f j
def k78 (e : KE) : Prop := e.kind = 8 ∨ e.kind = 7
/-- what parents has told so far is a parent's place -/
def Snd (t : Tr) (n : Nat) (f : Nat → Int) : Prop := ∀ j, j < n → f j = -1 ∨ ∃ e ∈ kidT t 0, e.p = j ∧ k78 e ∧ f j = (e.i : Int)
/-- the kids of the places below i are told -/
def Cmp (t : Tr) (i : Nat) (f : Nat → Int) : Prop := ∀ e ∈ kidT t 0, k78 e → e.i < i → f e.p = (e.i : Int)
theorem Snd.set {t : Tr} {n : Nat} {f : Nat → Int} (h : Snd t n f) {e : KE} (he : e ∈ kidT t 0) (hk : k78 e) : Snd t n (updI f e.p (e.i : Int)) := by
  intro j hj
  unfold updI
  by_cases hp : j = e.p
  · rw [if_pos hp]; exact .inr ⟨e, he, hp.symm, hk, rfl⟩
  rw [if_neg hp]; exact h j hj
theorem Cmp.set {t : Tr} {i : Nat} {f : Nat → Int} (h : Cmp t i f) {e : KE} (he : e ∈ kidT t 0) : Cmp t i (updI f e.p (e.i : Int)) := by
  intro q hq hk hi
  unfold updI
  by_cases hp : q.p = e.p
  · rw [if_pos hp, kid_uniq hq he hp]
  rw [if_neg hp]; exact h q hq hk hi
def k8 (k : Int) : Prop := k = 8 ∨ k = 7
theorem Cmp.next {t : Tr} {i : Nat} {f : Nat → Int} (h : Cmp t i f) {y : Ex} {ks : Trs} {r : List Ex} {a2 aa : Int} {d2 dd : Nat} (hw0 : t.wf aa dd) (hw : (Tr.node y ks).wf a2 d2) (hd : t.flat.drop i = (Tr.node y ks).flat ++ r) (hall : k8 y.kind → ∀ e ∈ topK i y.kind ks (i + 1) [], f e.p = (i : Int)) : Cmp t (i + 1) f := by
  intro e he hk hi
  by_cases hlt : e.i < i
  · exact h e he hk hlt
  have hei : e.i = i := by omega
  obtain ⟨y2, ks2, r2, a3, d3, g1, -, -, g4, g5⟩ := kid_sub t 0 _ _ e hw0 he
  rw [Nat.sub_zero, hei] at g4
  rw [hei] at g5
  have hu := tr_uniq _ _ _ _ _ _ _ _ g1 hw (g4.symm.trans hd)
  have he1 := hu.1
  simp only [Tr.node.injEq] at he1
  obtain ⟨rfl, rfl⟩ := he1
  rw [hei]
  refine hall ?_ e g5
  have := (topK_kind g5).1
  unfold k8
  rw [← this]; exact hk

end Go.Proofs.Ytpbflfgigfdohaa

set_option linter.unusedSimpArgs false
set_option linter.unusedVariables false
set_option maxRecDepth 100000
namespace Go.Proofs.Ytpbflfgigfdohaa
open Go Go.Vc Go.RowKit Go.Proofs

theorem Snd.dup {t : Tr} {n : Nat} {f : Nat → Int} (hc : Cmp t n f) (hn : t.flat.length = n) {aa : Int} {dd : Nat} (hw : t.wf aa dd) {i : Nat} (hf : f i = -1) : ¬ i ∈ dupT t 0 := by
  intro hd
  obtain ⟨e, he, hp, hb⟩ := (dup_kid t 0 i).1 hd
  have hk : k78 e := by
    unfold dupB at hb
    unfold k78
    split at hb
    · rename_i h; exact .inl h
    split at hb
    · rename_i h; exact .inr h
    cases hb
  obtain ⟨-, -, -, -, -, -, -, h3, -, -⟩ := kid_sub t 0 _ _ e hw he
  have := hc e he hk (by omega)
  rw [hp, hf] at this
  omega
end Go.Proofs.Ytpbflfgigfdohaa

set_option linter.unusedSimpArgs false
set_option linter.unusedVariables false
set_option maxRecDepth 100000
namespace Go.Proofs.Ytpbflfgigfdohaa
open Go Go.Vc Go.RowKit Go.Proofs

theorem leaf_no {y : Ex} {ks : Trs} {a : Int} {d : Nat} (h : (Tr.node y ks).wf a d) (hk : y.kind = 1 ∨ y.kind = 2 ∨ y.kind = 3 ∨ y.kind = 9) : ks = .nil := by
  obtain ⟨-, -, hr, hk2, -⟩ := h
  obtain ⟨hok, -, -, -⟩ := rightB_iff hr
  have hk0 : y.kids = 0 := by rcases okB_cases hok with g | g | g | g | g <;> omega
  exact trs_nil (by omega)
end Go.Proofs.Ytpbflfgigfdohaa

set_option linter.unusedSimpArgs false
set_option linter.unusedVariables false
set_option maxRecDepth 100000
namespace Go.Proofs.Ytpbflfgigfdohaa
open Go Go.Vc Go.RowKit Go.Proofs

theorem blk_lt3 {w : World} {c : Nat} {cs : Array Value} {T : TypeId} {fr : Nat × Nat} (h : w.heap[c]? = some (.cells cs T fr)) : c < w.heap.size := (Array.getElem?_eq_some_iff.1 h).1
theorem blk_ne3 {w : World} {c d : Nat} {cs ds : Array Value} {T U : TypeId} {fr gr : Nat × Nat} (h : w.heap[c]? = some (.cells cs T fr)) (k : w.heap[d]? = some (.cells ds U gr)) (hne : ¬ T = U) : ¬ c = d := fun e => by
  rw [e, k] at h
  simp only [Option.some.injEq, Obj.cells.injEq] at h
  exact hne h.2.1.symm
theorem Many.snocD {w : World} {H0 : Nat} {el : TypeId} {s N m : Nat} {V : Nat → Value} {n : Nat → Nat} {X : Nat → List Value} {v : Value} {xs : List Value} (h : Many w H0 el s N V n X) (hr : w.ownsRow H0 el s v m xs) (hd : ∀ j, j < N → Dj v (V j)) (hn : n N = m) (hX : X N = xs) : Many w H0 el s (N + 1) (fun j => if j = N then v else V j) n X := by
  refine ⟨fun j hj => ?_, fun i j hi hj hij k hk => ?_⟩
  · by_cases e : j = N
    · simp only [if_pos e]; rw [e, hn, hX]; exact hr
    simp only [if_neg e]; exact h.row j (by omega)
  by_cases e : i = N
  · have e2 : j ≠ N := by omega
    simp only [if_pos e, if_neg e2] at hk ⊢
    exact hd j (by omega) k hk
  by_cases e2 : j = N
  · simp only [if_neg e, if_pos e2] at hk ⊢
    exact fun hk2 => hd i (by omega) k hk2 hk
  simp only [if_neg e, if_neg e2] at hk ⊢
  exact h.off i j (by omega) (by omega) hij k hk
theorem Typs.snocD {w : World} {H : Nat} {D : List Tp} {d : Tp} {V : Nat → Value} {dv v : Value} (hr : w.ownsRow H 50 4 dv (D.length + 1) (trows D V ++ tcell d v)) (ht : Many w H 52 3 D.length V (fun j => (pasT D j).length) (fun j => pas (pasT D j)))
    (hf : w.ownsRow H 52 3 v d.parts.length (pas d.parts)) (hd : ∀ j, j < D.length → Dj v (V j)) : Typs w H (D ++ [d]) dv (fun j => if j = D.length then v else V j) := by
  have e1 : ∀ j, j < D.length → pasT (D ++ [d]) j = pasT D j := fun j hj => by simp [pasT, List.getD_eq_getElem?_getD, List.getElem?_append_left hj]
  have e2 : pasT (D ++ [d]) D.length = d.parts := by simp [pasT, List.getD_eq_getElem?_getD]
  refine ⟨by rw [List.length_append, List.length_singleton, trows_snoc]; exact hr, ?_⟩
  rw [List.length_append, List.length_singleton]
  exact Many.snocD (ht.congr (fun _ _ => rfl) (fun j hj => by rw [e1 j hj]) (fun j hj => by rw [e1 j hj])) hf hd (by rw [e2]) (by rw [e2])
def zvs (n : Nat) (f : Nat → Int) : List Value := (List.range n).map (fun i => Value.int .i64 (f i))
theorem zvs_at {n k : Nat} {f : Nat → Int} (hk : k < n) : (zvs n f)[k]? = some (.int .i64 (f k)) := by
  unfold zvs
  rw [List.getElem?_map, List.getElem?_range hk]
  rfl
/-- what a builder holds; wB: the world that Build began in -/
structure BS (wB w : World) (pb : Nat) (dv rv : Value) (n : Nat) (f : Nat → Int) (L : List Tp) (tv : Value) (U : Nat → Value) (lv : Value) (left : List Ex) : Prop where
  cell : w.heap[pb]? = some (.cells #[dv, tv, rv, lv] 85 (0, 0))
  ty : Typs w wB.heap.size L tv U
  ro : w.ownsRow wB.heap.size 3 1 rv n (zvs n f)
  lf : Sl wB 7 lv left.length (exs left)
  ex : Ext wB w
  pH : wB.heap.size ≤ pb
theorem BS.ext {wB w w' : World} {pb n : Nat} {dv rv : Value} {f : Nat → Int} {L : List Tp} {tv : Value} {U : Nat → Value} {lv : Value} {left : List Ex} (h : BS wB w pb dv rv n f L tv U lv left) (ho : Ext w w') : BS wB w' pb dv rv n f L tv U lv left :=
  ⟨ho.blk h.cell (fun h => h), h.ty.ext ho, own_ext h.ro ho, h.lf, h.ex.tr ho, h.pH⟩
/-- what is none of the builder's is written -/
theorem BS.only {wB w w' : World} {pb n : Nat} {dv rv : Value} {f : Nat → Int} {L : List Tp} {tv : Value} {U : Nat → Value} {lv : Value} {left : List Ex} {F : Nat → Prop} (h : BS wB w pb dv rv n f L tv U lv left) (ho : Only F w w') (h1 : ¬ F pb) (h2 : ∀ k, tv.ownBlock = some k → ¬ F k) (h3 : ∀ j, j < L.length → ∀ k, (U j).ownBlock = some k → ¬ F k) (h4 : ∀ k, rv.ownBlock = some k → ¬ F k) (hz : ∀ k, F k → wB.heap.size ≤ k) : BS wB w' pb dv rv n f L tv U lv left :=
  ⟨ho.blk h.cell h1, h.ty.only ho (fun k hk => by
      rcases hk with hk | ⟨j, hj, hk⟩
      · exact h2 k hk
      exact h3 j hj k hk), own_only h.ro ho h4, h.lf, h.ex.trans' ho (fun _ h => h) (fun k hk e => by have := hz k e; omega), h.pH⟩
theorem BS.off {wB w : World} {pb n c : Nat} {dv rv : Value} {f : Nat → Int} {L : List Tp} {tv : Value} {U : Nat → Value} {lv : Value} {left : List Ex} {cs : Array Value} {T : TypeId} {fr : Nat × Nat} (h : BS wB w pb dv rv n f L tv U lv left) (hc : w.heap[c]? = some (.cells cs T fr)) (h1 : ¬ 85 = T) (h3 : 52 ≠ T) (h4 : 3 ≠ T) : ¬ pb = c ∧ (∀ j, j < L.length → ∀ k, (U j).ownBlock = some k → ¬ k = c) ∧ (∀ k, rv.ownBlock = some k → ¬ k = c) :=
  ⟨fun e => by
    have h5 := h.cell
    rw [e, hc] at h5
    simp only [Option.some.injEq, Obj.cells.injEq] at h5
    exact h1 h5.2.1.symm, fun j hj k hk e => by subst e; exact own_off (h.ty.tys.row j hj) hc h3 hk, fun k hk e => by subst e; exact own_off h.ro hc h4 hk⟩
/-- what is left is another list -/
theorem BS.left {wB w w' : World} {pb n : Nat} {dv rv : Value} {f : Nat → Int} {L : List Tp} {tv : Value} {U : Nat → Value} {lv lv1 : Value} {left left1 : List Ex} (h : BS wB w pb dv rv n f L tv U lv left) (hB : w'.heap[pb]? = some (.cells #[dv, tv, rv, lv1] 85 (0, 0))) (ho : Only (fun k => k = pb) w w') (hl : Sl wB 7 lv1 left1.length (exs left1)) : BS wB w' pb dv rv n f L tv U lv1 left1 :=
  ⟨hB, h.ty.only ho (fun k hk e => by
      subst e
      rcases hk with hk | ⟨j, hj, hk⟩
      · exact own_off h.ty.row h.cell (by decide) hk
      exact own_off (h.ty.tys.row j hj) h.cell (by decide) hk), own_only h.ro ho (fun k hk e => by subst e; exact own_off h.ro h.cell (by decide) hk), hl, h.ex.trans' ho (fun _ h => h) (fun k hk e => by have := h.pH; omega), h.pH⟩
theorem sl_cap {w : World} {s n c : Nat} {a : Option Addr} {xs : List Value} (h : Sl w s (.slice a n c) n xs) : n ≤ c := by
  rcases h.val with ⟨rfl, _⟩ | ⟨b, off, c', hv, hnc, _⟩
  · omega
  simp only [Value.slice.injEq] at hv; omega
/-- the blocks of parts: old ones, or new -/
def NewU (w0 : World) (L L' : List Tp) (U U' : Nat → Value) : Prop := ∀ j, j < L'.length → ∀ k, (U' j).ownBlock = some k → (∃ i, i < L.length ∧ (U i).ownBlock = some k) ∨ w0.heap.size ≤ k
def NewV (w0 : World) (tv tv' : Value) : Prop := ∀ k, tv'.ownBlock = some k → tv.ownBlock = some k ∨ w0.heap.size ≤ k
/-- what a call changes -/
def PT (pb : Nat) (tv : Value) : Nat → Prop := fun k => k = pb ∨ tv.ownBlock = some k
theorem NewU.refl (w0 : World) (L : List Tp) (U : Nat → Value) : NewU w0 L L U U := fun j hj k hk => .inl ⟨j, hj, hk⟩
theorem NewV.refl (w0 : World) (tv : Value) : NewV w0 tv tv := fun k hk => .inl hk
theorem NewU.trans {w0 w1 : World} {L L1 L2 : List Tp} {U U1 U2 : Nat → Value} (h : NewU w0 L L1 U U1) (h2 : NewU w1 L1 L2 U1 U2) (hs : w0.heap.size ≤ w1.heap.size) : NewU w0 L L2 U U2 := fun j hj k hk => by
  rcases h2 j hj k hk with ⟨i, hi, h3⟩ | h3
  · exact h i hi k h3
  exact .inr (by omega)
theorem NewV.trans {w0 w1 : World} {tv t1 t2 : Value} (h : NewV w0 tv t1) (h2 : NewV w1 t1 t2) (hs : w0.heap.size ≤ w1.heap.size) : NewV w0 tv t2 := fun k hk => by
  rcases h2 k hk with h3 | h3
  · exact h k h3
  exact .inr (by omega)
theorem PT.trans {w0 w1 w2 : World} {pb : Nat} {tv t1 : Value} (h1 : Only (PT pb tv) w0 w1) (hv : NewV w0 tv t1) (h2 : Only (PT pb t1) w1 w2) : Only (PT pb tv) w0 w2 :=
  h1.trans' h2 (fun _ h => h) (fun k hk h => by
    rcases h with h | h
    · exact .inl h
    rcases hv k h with h | h
    · exact .inr h
    omega)
/-- what an expression's call does -/
def SEx (wB : World) (pb : Nat) (D : List Df) (dv rv : Value) (f : Nat → Int) (N : Nat) (t : Tr) : Prop := ∀ (rest : List Ex) (L : List Tp) (tv : Value) (U : Nat → Value) (lv : Value) (a : Int) (d : Nat) (w0 : World), t.wf a d → BS wB w0 pb dv rv D.length f L tv U lv (t.flat ++ rest) → (∀ x ∈ t.flat, x.kind = 9 → ∃ i, whereN D x.name = some i) → (∀ x ∈ t.flat, x.name.length ≤ 9223372036854775807 ∧ x.label.length ≤ 9223372036854775807) → L.length + t.flat.length ≤ N → (t.flat ++ rest).length * 72 ≤ 140737488351232 →
  Ca Try.prog 31 #[.pointer (some ⟨pb, 0, none⟩)] w0 (fun u w' => ∃ tv' U' lv', u = .int .i64 (mkT (fun nm => f (whD D nm)) t L).1 ∧ BS wB w' pb dv rv D.length f (mkT (fun nm => f (whD D nm)) t L).2 tv' U' lv' rest ∧ Only (PT pb tv) w0 w' ∧ NewV w0 tv tv' ∧ NewU w0 L (mkT (fun nm => f (whD D nm)) t L).2 U U')
theorem mkK_cons7 {rt : List UInt8 → Int} {kind : Int} {t : Tr} {ts : Trs} {L : List Tp} {el : Int} {ps : List Pa} (h : kind = 8 ∨ kind = 7) : mkK rt kind (.cons t ts) L el ps = mkK rt kind ts (mkT rt t L).2 el (ps ++ [⟨t.top.label, t.top.tag, (mkT rt t L).1⟩]) := by rw [mkK, if_pos (by unfold many7; omega)]
theorem mkK_consE {rt : List UInt8 → Int} {kind : Int} {t : Tr} {ts : Trs} {L : List Tp} {el : Int} {ps : List Pa} (h : ¬ (kind = 8 ∨ kind = 7)) : mkK rt kind (.cons t ts) L el ps = mkK rt kind ts (mkT rt t L).2 (mkT rt t L).1 ps := by rw [mkK, if_neg (by unfold many7; omega)]
theorem flat_top (t : Tr) : ∃ r, t.flat = t.top :: r := by cases t; exact ⟨_, rfl⟩
theorem pre1 {w : World} {b : Nat} {x y z u : Value} {T : TypeId} {fr : Nat × Nat} (h : w.heap[b]? = some (.cells #[x, y, z, u] T fr)) : Cells w b 0 [x] := fun i v hv => by
  cases i with
  | zero => simp at hv; subst hv; exact cell_of h rfl
  | succ i => simp at hv
theorem tcell_all {t : Tp} {v : Value} (h : v.oneCell' = true) : ∀ a ∈ tcell t v, a.oneCell' = true := by
  intro a ha
  simp only [tcell, List.mem_cons, List.mem_nil_iff, or_false] at ha
  rcases ha with rfl | rfl | rfl | rfl
  · rfl
  · rfl
  · rfl
  exact h
theorem sl_tail {w : World} {a : Option Addr} {c : Nat} {y : Ex} {r : List Ex} (h : Sl w 7 (.slice a (y :: r).length c) (y :: r).length (exs (y :: r))) : Sl w 7 (sliced a 1 (y :: r).length c 7) r.length (exs r) := by
  have h1 := h.sliced 1 (y :: r).length (by simp) (Nat.le_refl _)
  have e1 : (y :: r).length - 1 = r.length := by simp
  have e2 : ((exs (y :: r)).drop (1 * 7)).take (((y :: r).length - 1) * 7) = exs r := by
    rw [e1, show exs (y :: r) = exV y ++ exs r from rfl, Nat.one_mul, List.drop_left' (show (exV y).length = 7 from rfl)]
    exact List.take_of_length_le (by rw [exs_len]; omega)
  rw [e2, e1] at h1
  exact h1

set_option maxHeartbeats 8000000 in
theorem bexpr_step (wB : World) (pb : Nat) (D : List Df) (dv rv : Value) (V : Nat → Value) (f : Nat → Int) (N : Nat) (hDB : DefR wB D dv V) (hlen : D.length * 48 ≤ 140737488351232) (hN : N ≤ 2932031007402) (y : Ex) (ks : Trs) (IH : ∀ t : Tr, t.flat.length < (Tr.node y ks).flat.length → SEx wB pb D dv rv f N t) (rest : List Ex) (L : List Tp) (tv : Value) (U : Nat → Value) (lv : Value) (a : Int) (d : Nat) (w0 : World) (hw : (Tr.node y ks).wf a d) (hS : BS wB w0 pb dv rv D.length f L tv U lv ((Tr.node y ks).flat ++ rest)) (hkn : ∀ x ∈ (Tr.node y ks).flat, x.kind = 9 → ∃ i, whereN D x.name = some i) (hnl : ∀ x ∈ (Tr.node y ks).flat, x.name.length ≤ 9223372036854775807 ∧ x.label.length ≤ 9223372036854775807) (hLN : L.length + (Tr.node y ks).flat.length ≤ N) (hsz : ((Tr.node y ks).flat ++ rest).length * 72 ≤ 140737488351232) : Ca Try.prog 31 #[.pointer (some ⟨pb, 0, none⟩)] w0 (fun u w' => ∃ tv' U' lv', u = .int .i64 (mkT (fun nm => f (whD D nm)) (Tr.node y ks) L).1 ∧ BS wB w' pb dv rv D.length f (mkT (fun nm => f (whD D nm)) (Tr.node y ks) L).2 tv' U' lv' rest ∧ Only (PT pb tv) w0 w' ∧ NewV w0 tv tv' ∧ NewU w0 L (mkT (fun nm => f (whD D nm)) (Tr.node y ks) L).2 U U') := by
  have hfl : (Tr.node y ks).flat.length = ks.flat.length + 1 := rfl
  have hkk : y.kids = (ks.len : Int) := hw.2.2.2.1.symm
  have hlk := trs_len_le ks
  obtain ⟨hyn, hyl⟩ := hnl y (List.mem_cons_self ..)
  obtain ⟨r1, hr1⟩ : ∃ r, r = ks.flat ++ rest := ⟨_, rfl⟩
  replace hS : BS wB w0 pb dv rv D.length f L tv U lv (y :: r1) := by rw [hr1]; exact hS
  have hr1l : (y :: r1).length * 72 ≤ 140737488351232 := by rw [hr1]; exact hsz
  obtain ⟨ub, uo, uc, rfl, huc⟩ := Sl.exq hS.lf (k := 0) (by simp)
  have hnc := sl_cap hS.lf
  have htv0 : ∀ k, tv.ownBlock = some k → k < w0.heap.size := fun k hk => (hS.ty.row.lt k hk).2
  have hB0 : wB.heap.size ≤ w0.heap.size := hS.ex.size
  refine Ca.of Try.func31 Try.ntmps31 rfl rfl ?_
  refine W.seq ?_
  refine W.region ?_
  refine WL.c rfl (o_ash (show _ = Value.int _ _ from rfl) ?_)
  refine WL.nil ?_
  refine W.seq ?_
  refine W.region ?_
  refine WL.c rfl (o_mvh (by first | exact (show _ = Value.pointer _ from rfl) | exact rfl) ?_)
  refine WL.c rfl (o_nil rfl ?_)
  refine WL.c rfl (o_fa 3 TI85 rfl TI37 rfl rfl ?_)
  refine WL.c rfl (o_ld TI37 rfl rfl (cell_of hS.cell rfl) ?_)
  refine WL.c rfl (o_ixB (i := 0) TI37 TI41 (show _ = Value.slice (some ⟨ub, uo, none⟩) (y :: r1).length uc from rfl) rfl (by simp) ?_)
  refine WL.c rfl (o_ldA TI41 rfl rfl (Cells.only huc hS.ex (fun h => h)) rfl ?_)
  refine WL.c rfl (o_alB TI41 ?_)
  intro wa hCa hxa hsa
  refine WL.u (o_stA TI41 rfl (show _ = Value.agg (exV y).toArray from rfl) rfl rfl hCa rfl ?_)
  intro wb3 hC3 hob hsb
  have hxb := Ext.own hxa (Nat.le_refl _) hob
  obtain ⟨b3, hb3⟩ : ∃ b, b = w0.heap.size := ⟨_, rfl⟩
  rw [← hb3] at hC3 ⊢
  clear hCa hxa hsa hob hsb
  replace hS := hS.ext hxb
  have hC3q := hC3
  have ho : Only (PT pb tv) w0 _ := hxb.mono (fun _ _ h => h.elim)
  have hz3 : w0.heap.size ≤ b3 := by omega
  clear hxb
  refine WL.nil ?_
  refine W.seq ?_
  refine W.region ?_
  refine WL.c rfl (o_mvh (by first | exact (show _ = Value.pointer _ from rfl) | exact rfl) ?_)
  refine WL.c rfl (o_mvh (by first | exact (show _ = Value.pointer _ from rfl) | exact rfl) ?_)
  refine WL.c rfl (o_nil rfl ?_)
  refine WL.c rfl (o_fa 3 TI85 rfl TI37 rfl rfl ?_)
  refine WL.c rfl (o_ld TI37 rfl rfl (cell_of hS.cell rfl) ?_)
  refine WL.c rfl (o_slv TI37 TI41 rfl (Lo.s (l := 1) rfl) Hi.n (by simp) hnc ?_)
  obtain ⟨lv1, hlv1⟩ : ∃ v, v = sliced (some ⟨ub, uo, none⟩) 1 (y :: r1).length uc 7 := ⟨_, rfl⟩
  rw [← hlv1]
  have hlf1 : Sl wB 7 lv1 r1.length (exs r1) := by rw [hlv1]; exact sl_tail hS.lf
  refine WL.c rfl (o_nil rfl ?_)
  refine WL.c rfl (o_fa 3 TI85 rfl TI37 rfl rfl ?_)
  refine WL.u (o_stB TI37 rfl (show _ = lv1 from rfl) (sl_one1 hlf1) hS.cell (show 3 < 4 by decide) ?_)
  intro w22 hB22 ho22 hs22
  replace hC3 := ho22.blk hC3 (fun e => (hS.off hC3 (by decide) (by decide) (by decide)).1 e.symm)
  replace hS : BS wB w22 pb dv rv D.length f L tv U lv1 r1 := hS.left hB22 ho22 hlf1
  replace ho := ho.trans (ho22.mono (fun k _ e => .inl e))
  refine WL.nil ?_
  refine W.seq ?_
  refine W.seq ?_
  refine W.region ?_
  refine WL.c rfl (o_fa 0 TI41 rfl TI3 rfl rfl ?_)
  refine WL.c rfl (o_ld TI3 rfl rfl (cell_of hC3 rfl) ?_)
  refine WL.c rfl (o_eq rfl rfl ?_)
  refine WL.nil ?_
  refine W.cond rfl (fun c25 => ?_) (fun c25 => ?_)
  · try simp only [cs8] at c25
    have hk9 : y.kind = 9 := by simpa using c25
    have hnil := leaf_no hw (by omega)
    subst hnil
    obtain ⟨wi, hwi⟩ := hkn y (List.mem_cons_self ..) hk9
    obtain ⟨hwl, -⟩ := whereN_some hwi
    obtain ⟨rb, rc, hrv, hrb⟩ := own_some hS.ro (by omega)
    refine W.seq ?_
    obtain ⟨wd, hwd⟩ : ∃ wd, wd = w22.drew := ⟨_, rfl⟩
    have hxd : Ext w22 wd := hwd ▸ Only.drew w22
    replace hS := hS.ext hxd
    replace ho := ho.ext hxd
    replace hC3 := hxd.blk hC3 (fun h => h)
    refine W.draw (Ext) [(0, fun v _ => v = _), (3, fun v _ => v = _)] rfl (by kernel_rfl) (Only.refl No) (fun _ _ _ h k => h.trans k) ⟨Mono.eq, Mono.eq, trivial⟩ ⟨rfl, rfl, trivial⟩ ?_
    refine WD.p rfl (fun e w hR hh => by obtain ⟨h0, -⟩ := hh; exact SG.n (o_mvh h0 ⟨rfl, Only.refl No _⟩)) ?_
    refine WD.p rfl (fun e w hR hh => by obtain ⟨h27, -⟩ := hh; exact SG.n (o_nil h27 ⟨rfl, Only.refl No _⟩)) ?_
    refine WD.p rfl (fun e w hR hh => by obtain ⟨h28, -⟩ := hh; exact SG.n (o_fa 0 TI85 rfl TI25 rfl h28 ⟨rfl, Only.refl No _⟩)) ?_
    refine WD.p rfl (fun e w hR hh => by obtain ⟨h29, -⟩ := hh; rw [← hwd] at hR; exact SG.n (o_ldA TI25 rfl h29 (pre1 (hS.ext hR).cell) rfl ⟨rfl, Only.refl No _⟩)) ?_
    refine WD.p rfl (fun e w hR hh => by obtain ⟨h3, -⟩ := hh; exact SG.n (o_fa 2 TI41 rfl TI9 rfl h3 ⟨rfl, Only.refl No _⟩)) ?_
    refine WD.p rfl (fun e w hR hh => by obtain ⟨h31, -⟩ := hh; rw [← hwd] at hR; exact SG.n (o_ld TI9 rfl h31 (cell_of (hR.blk hC3 (fun h => h)) rfl) ⟨rfl, Only.refl No _⟩)) ?_
    refine WD.p rfl (fun e w hR hh => by obtain ⟨h32, h30, -⟩ := hh; rw [← hwd] at hR; exact SG.n (o_call Try.call57 (lc h30 (lc h32 ln)) ((find_call D dv V y.name _ (hDB.ext (hS.ext hR).ex) hlen hwi).mono (fun v w' ⟨h1, h2⟩ => ⟨h1, h2⟩)))) ?_
    refine WD.p rfl (fun e w hR hh => by obtain ⟨h33, -⟩ := hh; exact SG.n (o_mvh h33 ⟨rfl, Only.refl No _⟩)) ?_
    refine WD.p rfl (fun e w hR hh => by obtain ⟨h26, -⟩ := hh; exact SG.n (o_ext h26 rfl ⟨rfl, Only.refl No _⟩)) ?_
    refine WD.p rfl (fun e w hR hh => by obtain ⟨h26, -⟩ := hh; exact SG.n (o_ext h26 rfl ⟨rfl, Only.refl No _⟩)) ?_
    refine WD.p rfl (fun e w hR hh => by obtain ⟨h34, -⟩ := hh; exact SG.n (o_ash h34 ⟨rfl, Only.refl No _⟩)) ?_
    refine WD.p rfl (fun e w hR hh => by obtain ⟨h35, -⟩ := hh; exact SG.n (o_ash h35 ⟨rfl, Only.refl No _⟩)) ?_
    rintro e w hR ⟨h5, h4, h35, h34, h26, h33, h32, h31, h30, h29, h28, h27, h0, h3, -⟩
    rw [← hwd] at hR
    replace hS := hS.ext hR
    replace ho := ho.ext hR
    have hcr := hS.cell
    rw [hrv] at hcr
    refine W.seq ?_
    refine W.region ?_
    refine WL.c rfl (o_mvh h0 ?_)
    refine WL.c rfl (o_nil rfl ?_)
    refine WL.c rfl (o_fa 2 TI85 rfl TI79 rfl rfl ?_)
    refine WL.c rfl (o_ld TI79 rfl rfl (cell_of hcr rfl) ?_)
    refine WL.c rfl (o_mvh h4 ?_)
    refine WL.c rfl (o_ixB (i := wi) TI79 TI3 (show _ = Value.slice (some ⟨rb, 0, none⟩) D.length rc from rfl) (show _ = Value.int .i64 (wi : Int) from rfl) (by omega) ?_)
    refine WL.c rfl (o_ld TI3 rfl rfl (show World.cell? _ ⟨rb, 0 + wi * 1, none⟩ = some (.int .i64 (f wi)) from by rw [Nat.zero_add, Nat.mul_one]; exact own_cell (hrv ▸ hS.ro) (zvs_at hwl)) ?_)
    refine WL.c rfl (o_ash (show _ = Value.int _ _ from rfl) ?_)
    refine WL.nil ?_
    refine W.ret ?_
    refine ret1v rfl (show _ = Value.int _ _ from rfl) ?_
    have hm : mkT (fun nm => f (whD D nm)) (Tr.node y .nil) L = (f wi, L) := by rw [mkT, if_pos hk9]; show (f (whD D y.name), L) = _; rw [whD, hwi]; rfl
    rw [hm]
    exact ⟨tv, U, lv1, rfl, by rw [hr1] at hS; exact hS, ho, NewV.refl _ _, NewU.refl _ _ _⟩
  try simp only [cs8] at c25
  have hk9 : ¬ y.kind = 9 := by simpa using c25
  refine W.skip ?_
  refine W.seq ?_
  refine W.region ?_
  refine WL.c rfl (o_fa 0 TI41 rfl TI3 rfl rfl ?_)
  refine WL.c rfl (o_ld TI3 rfl rfl (cell_of hC3 rfl) ?_)
  refine WL.c rfl (o_fa 1 TI41 rfl TI3 rfl rfl ?_)
  refine WL.c rfl (o_ld TI3 rfl rfl (cell_of hC3 rfl) ?_)
  refine WL.c rfl (o_bldC (cs := [_, _, (.int .i64 0), (.slice none 0 0)]) TI50 (Sizes.cons TI3 (Sizes.cons TI3 (Sizes.cons TI3 (Sizes.cons TI48 Sizes.nil)))) rfl (lcp (show _ = Value.int _ _ from rfl) (lcp (show _ = Value.int _ _ from rfl) lnp)) rfl rfl ?_)
  refine WL.c rfl (o_alB TI50 ?_)
  intro wa hCa hxa hsa
  refine WL.u (o_stA TI50 rfl (show _ = Value.agg (tcell ⟨y.kind, y.n, 0, []⟩ (.slice none 0 0)).toArray from rfl) rfl rfl hCa rfl ?_)
  intro wb6 hC6 hob hsb
  have hxb := Ext.own hxa (Nat.le_refl _) hob
  obtain ⟨b6, hb6⟩ : ∃ b, b = w22.heap.size := ⟨_, rfl⟩
  rw [← hb6] at hC6 ⊢
  clear hCa hxa hsa hob hsb
  have hq22 := ho.size
  replace hS := hS.ext hxb
  replace ho := ho.ext hxb
  replace hC3 := hxb.blk hC3 (fun h => h)
  have hz6 : w0.heap.size ≤ b6 := by rw [hb6]; exact hq22
  clear hxb
  refine WL.nil ?_
  refine W.seq ?_
  refine W.seq ?_
  refine W.region ?_
  refine WL.c rfl (o_fa 5 TI41 rfl TI3 rfl rfl ?_)
  refine WL.c rfl (o_ld TI3 rfl rfl (cell_of hC3 rfl) ?_)
  refine WL.c rfl (o_mvh (show _ = Value.int _ _ from rfl) ?_)
  refine WL.nil ?_
  refine W.block ?_
  refine W.loop (fun e w => ∃ (k : Nat) (el : Int) (ps : List Pa) (pv : Value) (L1 : List Tp) (tv1 : Value) (U1 : Nat → Value) (lv2 : Value) (ts : Trs), ks.len = k + ts.len ∧ e 0 = .pointer (some ⟨pb, 0, none⟩) ∧ e 3 = .pointer (some ⟨b3, 0, none⟩) ∧ e 6 = .pointer (some ⟨b6, 0, none⟩) ∧ e 49 = .int .i64 (ks.len : Int) ∧ e 50 = .int .i64 (k : Int) ∧ BS wB w pb dv rv D.length f L1 tv1 U1 lv2 (ts.flat ++ rest) ∧ w.heap[b3]? = some (.cells (exV y).toArray 41 (0, 0)) ∧ w.heap[b6]? = some (.cells #[.int .i64 y.kind, .int .i64 y.n, .int .i64 el, pv] 50 (0, 0)) ∧ w.ownsRow w0.heap.size 52 3 pv ps.length (pas ps) ∧ (∀ j, j < L1.length → Dj pv (U1 j)) ∧ mkK (fun nm => f (whD D nm)) y.kind ts L1 el ps = mkK (fun nm => f (whD D nm)) y.kind ks L 0 [] ∧ ts.wf y.kind (d + 1) ∧ ps.length ≤ k ∧ L1.length + ts.flat.length + 1 ≤ N ∧ (∀ x ∈ ts.flat, x ∈ (Tr.node y ks).flat) ∧ ts.flat.length ≤ ks.flat.length ∧ (ts.flat ++ rest).length ≤ r1.length ∧ ¬ tv1.ownBlock = some b6 ∧ Only (PT pb tv) w0 w ∧ NewV w0 tv tv1 ∧ NewU w0 L L1 U U1 ∧ b6 < w.heap.size) (fun e w => ks.len - (intOf (e 50)).toNat) ?_ ?_
  · exact ⟨0, 0, [], .slice none 0 0, L, tv, U, lv1, ks, by omega, rfl, rfl, rfl, congrArg (Value.int .i64) hkk, rfl, by rw [hr1] at hS; exact hS, hC3, hC6, World.ownsRow_nil _ _ _ _, fun j hj => Dj.none, rfl, hw.2.2.2.2, Nat.zero_le _, by omega, fun x hx => List.mem_cons_of_mem _ hx, Nat.le_refl _, by rw [hr1]; exact Nat.le_refl _, fun e => by have := htv0 _ e; omega, ho, NewV.refl _ _, NewU.refl _ _ _, blk_lt3 hC6⟩
  rintro e w ⟨k, el, ps, pv, L1, tv1, U1, lv2, ts, hks, h0, h3, h6, h49, h50, hS, hC3, hC6, hpv, hdj, hmk, hwt, hpk, hLN1, hmem, htl, hrl, hn6, ho, hnv, hnu, hs6⟩
  have hm50 := h50
  have hB0w := hS.ex.size
  have hos := ho.size
  refine W.seq ?_
  refine W.region ?_
  refine WL.c rfl (o_lt h50 h49 ?_)
  refine WL.nil ?_
  refine W.seq ?_
  refine W.cond rfl (fun c51 => ?_) (fun c51 => ?_)
  · try simp only [cs8] at c51
    have hk1 : k < ks.len := by omega
    obtain ⟨t, ts2, rfl⟩ := Trs.split hks hk1
    simp only [Trs.len] at hks
    have hfl2 : (Trs.cons t ts2).flat.length = t.flat.length + ts2.flat.length := by simp [Trs.flat]
    have htp := tr_pos t
    rw [hfl2] at hLN1 htl
    replace hS : BS wB w pb dv rv D.length f L1 tv1 U1 lv2 (t.flat ++ (ts2.flat ++ rest)) := by
      have e : (Trs.cons t ts2).flat ++ rest = t.flat ++ (ts2.flat ++ rest) := by simp [Trs.flat]
      rw [← e]; exact hS
    obtain ⟨tr, htr⟩ := flat_top t
    have hrl1 : (t.flat ++ (ts2.flat ++ rest)).length ≤ r1.length := by simp [Trs.flat] at hrl ⊢; omega
    have htopm : t.top ∈ (Trs.cons t ts2).flat := List.mem_append_left _ (by rw [htr]; exact List.mem_cons_self ..)
    obtain ⟨htn, htlb⟩ := hnl _ (hmem _ htopm)
    have hlf0 : Sl wB 7 lv2 (t.top :: (tr ++ (ts2.flat ++ rest))).length (exs (t.top :: (tr ++ (ts2.flat ++ rest)))) := by
      have h := hS.lf
      rw [htr] at h
      exact h
    obtain ⟨vb, vo, vc, hlv2, hvc⟩ := Sl.exq hlf0 (k := 0) (by simp)
    have hcl := hS.cell
    rw [hlv2] at hcl
    refine W.skip ?_
    refine W.seq ?_
    refine W.block ?_
    refine W.seq ?_
    refine W.region ?_
    refine WL.c rfl (o_mvh h0 ?_)
    refine WL.c rfl (o_nil rfl ?_)
    refine WL.c rfl (o_fa 3 TI85 rfl TI37 rfl rfl ?_)
    refine WL.c rfl (o_ld TI37 rfl rfl (cell_of hcl rfl) ?_)
    refine WL.c rfl (o_ixB (i := 0) TI37 TI41 (show _ = Value.slice (some ⟨vb, vo, none⟩) (t.top :: (tr ++ (ts2.flat ++ rest))).length vc from rfl) rfl (by simp) ?_)
    refine WL.c rfl (o_ldA TI41 rfl rfl (Cells.only hvc hS.ex (fun h => h)) rfl ?_)
    refine WL.c rfl (o_alB TI41 ?_)
    intro wa hCa hxa hsa
    refine WL.u (o_stA TI41 rfl (show _ = Value.agg (exV t.top).toArray from rfl) rfl rfl hCa rfl ?_)
    intro wb7 hC7 hob hsb
    have hxb := Ext.own hxa (Nat.le_refl _) hob
    obtain ⟨b7, hb7⟩ : ∃ b, b = w.heap.size := ⟨_, rfl⟩
    rw [← hb7] at hC7 ⊢
    clear hCa hxa hsa hob hsb
    replace hS := hS.ext hxb
    replace ho := ho.ext hxb
    replace hC3 := hxb.blk hC3 (fun h => h)
    replace hC6 := hxb.blk hC6 (fun h => h)
    replace hpv := own_ext hpv hxb
    clear hxb
    refine WL.nil ?_
    refine W.seq ?_
    refine W.region ?_
    refine WL.c rfl (o_mvh h0 ?_)
    refine WL.c rfl (o_call Try.call31 (lc rfl ln) ((IH t (by rw [hfl]; omega) (ts2.flat ++ rest) L1 tv1 U1 lv2 _ _ _ hwt.1 hS (fun x hx => hkn x (hmem x (List.mem_append_left _ hx))) (fun x hx => hnl x (hmem x (List.mem_append_left _ hx))) (by omega) (by simp only [List.length_cons] at hr1l; omega)).mono ?_))
    have hs6b := blk_lt3 hC6
    have hos := ho.size
    rintro v59 w59 ⟨tv2, U2, lv3, rfl, hS2, ho59, hv59, hu59⟩
    obtain ⟨M59, hM59, hMl⟩ := mkT_pre (fun nm => f (whD D nm)) t L1 (wf_leafy t _ _ hwt.1)
    have hcn : cntN t.flat ≤ t.flat.length := List.length_filter_le _ _
    obtain ⟨r, hr⟩ : ∃ r, r = mkT (fun nm => f (whD D nm)) t L1 := ⟨_, rfl⟩
    rw [← hr] at hS2 hu59 hM59 ⊢
    have hrlen : r.2.length ≤ L1.length + t.flat.length := by rw [hM59, List.length_append]; omega
    have n3 := (hS.off hC3 (by decide) (by decide) (by decide)).1
    have n6 := (hS.off hC6 (by decide) (by decide) (by decide)).1
    have n7 := (hS.off hC7 (by decide) (by decide) (by decide)).1
    replace hC3 := ho59.blk hC3 (fun h => by rcases h with h | h; exact n3 h.symm; exact own_off hS.ty.row hC3 (by decide) h)
    replace hC6 := ho59.blk hC6 (fun h => by rcases h with h | h; exact n6 h.symm; exact hn6 h)
    replace hC7 := ho59.blk hC7 (fun h => by rcases h with h | h; exact n7 h.symm; exact own_off hS.ty.row hC7 (by decide) h)
    have hpvl := hpv.lt
    have hpv2 := own_only hpv ho59 (fun k hk h => by
      rcases h with h | h
      · subst h; exact own_off hpv hS.cell (by decide) hk
      exact own_row_off hS.ty.row hpv (by decide) k hk h)
    have hdj2 : ∀ j, j < r.2.length → Dj pv (U2 j) := fun j hj k hk hk2 => by
      rcases hu59 j hj k hk2 with ⟨i, hi, h⟩ | h
      · exact hdj i hi k hk h
      have := (hpvl k hk).2; omega
    have hn62 : ¬ tv2.ownBlock = some b6 := fun e => by
      rcases hv59 b6 e with h | h
      · exact hn6 h
      omega
    replace ho := PT.trans ho hnv ho59
    replace hnv := hnv.trans hv59 hos
    replace hnu := hnu.trans hu59 hos
    replace hpv := hpv2
    replace hdj := hdj2
    replace hn6 := hn62
    replace hS := hS2
    clear hpv2 hdj2 hn62 hS2 ho59 hpvl
    refine WL.c rfl (o_ash (show _ = Value.int _ _ from rfl) ?_)
    refine WL.nil ?_
    refine W.seq ?_
    by_cases h8 : y.kind = 8
    rotate_left
    by_cases h7 : y.kind = 7
    · skip
      have hkd : y.kind = 8 ∨ y.kind = 7 := .inr h7
      refine W.region ?_
      refine WL.c rfl (o_fa 0 TI41 rfl TI3 rfl h3 ?_)
      refine WL.c rfl (o_ld TI3 rfl rfl (cell_of hC3 rfl) ?_)
      refine WL.c rfl (o_eq rfl rfl ?_)
      refine WL.c rfl (o_mvh (show _ = Value.bool _ from rfl) ?_)
      refine WL.g rfl (by simp [h8]) rfl (o_fa 0 TI41 rfl TI3 rfl h3 ?_)
      refine WL.g rfl (by simp [h8]) rfl (o_ld TI3 rfl rfl (cell_of hC3 rfl) ?_)
      refine WL.g rfl (by simp [h8]) rfl (o_eq rfl rfl ?_)
      refine WL.c rfl (o_pickO rfl rfl ?_)
      refine WL.nil ?_
      refine W.condT' rfl (by simp [h7]) ?_
      refine W.region ?_
      refine WL.c rfl (o_fa 3 TI50 rfl TI48 rfl h6 ?_)
      refine WL.c rfl (o_ld TI48 rfl rfl (cell_of hC6 rfl) ?_)
      refine WL.c rfl (o_fa 3 TI41 rfl TI9 rfl rfl ?_)
      refine WL.c rfl (o_ld TI9 rfl rfl (cell_of hC7 rfl) ?_)
      refine WL.c rfl (o_fa 4 TI41 rfl TI3 rfl rfl ?_)
      refine WL.c rfl (o_ld TI3 rfl rfl (cell_of hC7 rfl) ?_)
      refine WL.c rfl (o_mvh (show _ = Value.int _ _ from rfl) ?_)
      refine WL.c rfl (o_bldC (cs := [_, _, _]) TI52 (Sizes.cons TI9 (Sizes.cons TI3 (Sizes.cons TI3 Sizes.nil))) rfl (lcp (show _ = Value.string _ from rfl) (lcp (show _ = Value.int _ _ from rfl) (lcp (show _ = Value.int _ _ from rfl) lnp))) rfl rfl ?_)
      refine WL.apO (w0.heap.size) rfl rfl TI48 TI52 (show _ = Value.agg (paV ⟨t.top.label, t.top.tag, r.1⟩).toArray from rfl) rfl hpv (by decide) (by decide) rfl (fun a ha => List.all_eq_true.1 (show List.all _ (fun a => a.oneCell') = true from rfl) a ha) rfl (by rw [maxLen_eq]; omega) (by omega) (by have := ho.size; omega) ?_
      intro pv2 w77 hpv2 ho77 hb77 _
      obtain ⟨ps2, hps2⟩ : ∃ l, l = ps ++ [(⟨t.top.label, t.top.tag, r.1⟩ : Pa)] := ⟨_, rfl⟩
      replace hpv2 : w77.ownsRow w0.heap.size 52 3 pv2 ps2.length (pas ps2) := by rw [hps2, pas_snoc, List.length_append, List.length_singleton]; exact hpv2
      have hpl : ∀ k, pv.ownBlock = some k → w0.heap.size ≤ k := fun k hk => (hpv.lt k hk).1
      have hdj' : ∀ j, j < r.2.length → Dj pv2 (U2 j) := fun j hj => Dj.step (hdj j hj) hb77 (fun k hk => by have := (hS.ty.tys.lt hj hk).2; omega)
      replace hS := hS.only ho77 (fun e => own_off hpv hS.cell (by decide) e) (own_row_off hpv hS.ty.row (by decide)) (fun j hj k hk e => hdj j hj k e hk) (own_row_off hpv hS.ro (by decide)) (fun k e => by have := hpl k e; omega)
      replace hC3 := ho77.blk hC3 (fun e => own_off hpv hC3 (by decide) e)
      replace hC6 := ho77.blk hC6 (fun e => own_off hpv hC6 (by decide) e)
      replace ho := ho.trans' ho77 (fun _ h => h) (fun k hk e => by have := hpl k e; omega)
      clear hpv
      refine WL.c rfl (o_fa 3 TI50 rfl TI48 rfl h6 ?_)
      refine WL.u (o_stB TI48 rfl (show _ = pv2 from rfl) (own_one hpv2) hC6 (show 3 < 4 by decide) ?_)
      intro w78 hC6n ho78 hs78
      replace hC6n : w78.heap[b6]? = some (.cells #[.int .i64 y.kind, .int .i64 y.n, .int .i64 el, pv2] 50 (0, 0)) := hC6n
      have hof := hS.off hC6 (by decide) (by decide) (by decide)
      replace hS := hS.only ho78 hof.1 (fun k hk e => hn6 (e ▸ hk)) hof.2.1 hof.2.2 (fun k e => by omega)
      replace hC3 := ho78.blk hC3 (blk_ne3 hC3 hC6 (by decide))
      have hpv := own_only hpv2 ho78 (fun k hk e => by subst e; exact own_off hpv2 hC6 (by decide) hk)
      replace hdj := hdj'
      replace ho := ho.trans' ho78 (fun _ h => h) (fun k hk e => by omega)
      replace hC6 := hC6n
      have hpk2 : ps2.length ≤ k + 1 := by rw [hps2]; simp; omega
      have hmk2 : mkK (fun nm => f (whD D nm)) y.kind ts2 r.2 el ps2 = mkK (fun nm => f (whD D nm)) y.kind (.cons t ts2) L1 el ps := by rw [mkK_cons7 hkd, hps2, hr]
      refine WL.nil ?_
      refine W.region ?_
      refine WL.c rfl (o_addi h50 rfl (by omega) ?_)
      refine WL.c rfl (o_mvh (show _ = Value.int _ _ from rfl) ?_)
      refine WL.nil ?_
      refine ⟨⟨k + 1, _, _, _, r.2, tv2, U2, lv3, ts2, by omega, h0, h3, h6, h49, rfl, hS, hC3, hC6, hpv, hdj, hmk2.trans hmk, hwt.2, hpk2, by omega, fun x hx => hmem x (List.mem_append_right _ hx), by omega, by simp at hrl ⊢; omega, hn6, ho, hnv, hnu, blk_lt3 hC6⟩, ?_⟩
      show ks.len - ((k : Int) + 1).toNat < _
      rw [hm50]; simp [intOf]; omega
    · skip
      have hkd : ¬ (y.kind = 8 ∨ y.kind = 7) := by omega
      refine W.region ?_
      refine WL.c rfl (o_fa 0 TI41 rfl TI3 rfl h3 ?_)
      refine WL.c rfl (o_ld TI3 rfl rfl (cell_of hC3 rfl) ?_)
      refine WL.c rfl (o_eq rfl rfl ?_)
      refine WL.c rfl (o_mvh (show _ = Value.bool _ from rfl) ?_)
      refine WL.g rfl (by simp [h8]) rfl (o_fa 0 TI41 rfl TI3 rfl h3 ?_)
      refine WL.g rfl (by simp [h8]) rfl (o_ld TI3 rfl rfl (cell_of hC3 rfl) ?_)
      refine WL.g rfl (by simp [h8]) rfl (o_eq rfl rfl ?_)
      refine WL.c rfl (o_pickO rfl rfl ?_)
      refine WL.nil ?_
      refine W.condF' rfl (by simp [h7, h8]) ?_
      refine W.region ?_
      refine WL.c rfl (o_mvh (show _ = Value.int _ _ from rfl) ?_)
      refine WL.c rfl (o_fa 2 TI50 rfl TI3 rfl h6 ?_)
      refine WL.u (o_stB TI3 rfl (show _ = Value.int .i64 r.1 from rfl) rfl hC6 (show 2 < 4 by decide) ?_)
      intro w80 hC6n ho80 hs80
      replace hC6n : w80.heap[b6]? = some (.cells #[.int .i64 y.kind, .int .i64 y.n, .int .i64 r.1, pv] 50 (0, 0)) := hC6n
      have hof := hS.off hC6 (by decide) (by decide) (by decide)
      replace hS := hS.only ho80 hof.1 (fun k hk e => hn6 (e ▸ hk)) hof.2.1 hof.2.2 (fun k e => by omega)
      replace hC3 := ho80.blk hC3 (blk_ne3 hC3 hC6 (by decide))
      replace hpv := own_only hpv ho80 (fun k hk e => by subst e; exact own_off hpv hC6 (by decide) hk)
      replace ho := ho.trans' ho80 (fun _ h => h) (fun k hk e => by omega)
      replace hC6 := hC6n
      have hpk2 : ps.length ≤ k + 1 := by omega
      have hmk2 : mkK (fun nm => f (whD D nm)) y.kind ts2 r.2 r.1 ps = mkK (fun nm => f (whD D nm)) y.kind (.cons t ts2) L1 el ps := by rw [mkK_consE hkd, hr]
      refine WL.nil ?_
      refine W.region ?_
      refine WL.c rfl (o_addi h50 rfl (by omega) ?_)
      refine WL.c rfl (o_mvh (show _ = Value.int _ _ from rfl) ?_)
      refine WL.nil ?_
      refine ⟨⟨k + 1, _, _, _, r.2, tv2, U2, lv3, ts2, by omega, h0, h3, h6, h49, rfl, hS, hC3, hC6, hpv, hdj, hmk2.trans hmk, hwt.2, hpk2, by omega, fun x hx => hmem x (List.mem_append_right _ hx), by omega, by simp at hrl ⊢; omega, hn6, ho, hnv, hnu, blk_lt3 hC6⟩, ?_⟩
      show ks.len - ((k : Int) + 1).toNat < _
      rw [hm50]; simp [intOf]; omega
    skip
    have hkd : y.kind = 8 ∨ y.kind = 7 := .inl h8
    refine W.region ?_
    refine WL.c rfl (o_fa 0 TI41 rfl TI3 rfl h3 ?_)
    refine WL.c rfl (o_ld TI3 rfl rfl (cell_of hC3 rfl) ?_)
    refine WL.c rfl (o_eq rfl rfl ?_)
    refine WL.c rfl (o_mvh (show _ = Value.bool _ from rfl) ?_)
    refine WL.s rfl (by simp [h8]) rfl ?_
    refine WL.s rfl (by simp [h8]) rfl ?_
    refine WL.s rfl (by simp [h8]) rfl ?_
    refine WL.c rfl (o_pickT rfl (by simp [h8]) ?_)
    refine WL.nil ?_
    refine W.condT' rfl (rfl) ?_
    refine W.region ?_
    refine WL.c rfl (o_fa 3 TI50 rfl TI48 rfl h6 ?_)
    refine WL.c rfl (o_ld TI48 rfl rfl (cell_of hC6 rfl) ?_)
    refine WL.c rfl (o_fa 3 TI41 rfl TI9 rfl rfl ?_)
    refine WL.c rfl (o_ld TI9 rfl rfl (cell_of hC7 rfl) ?_)
    refine WL.c rfl (o_fa 4 TI41 rfl TI3 rfl rfl ?_)
    refine WL.c rfl (o_ld TI3 rfl rfl (cell_of hC7 rfl) ?_)
    refine WL.c rfl (o_mvh (show _ = Value.int _ _ from rfl) ?_)
    refine WL.c rfl (o_bldC (cs := [_, _, _]) TI52 (Sizes.cons TI9 (Sizes.cons TI3 (Sizes.cons TI3 Sizes.nil))) rfl (lcp (show _ = Value.string _ from rfl) (lcp (show _ = Value.int _ _ from rfl) (lcp (show _ = Value.int _ _ from rfl) lnp))) rfl rfl ?_)
    refine WL.apO (w0.heap.size) rfl rfl TI48 TI52 (show _ = Value.agg (paV ⟨t.top.label, t.top.tag, r.1⟩).toArray from rfl) rfl hpv (by decide) (by decide) rfl (fun a ha => List.all_eq_true.1 (show List.all _ (fun a => a.oneCell') = true from rfl) a ha) rfl (by rw [maxLen_eq]; omega) (by omega) (by have := ho.size; omega) ?_
    intro pv2 w77 hpv2 ho77 hb77 _
    obtain ⟨ps2, hps2⟩ : ∃ l, l = ps ++ [(⟨t.top.label, t.top.tag, r.1⟩ : Pa)] := ⟨_, rfl⟩
    replace hpv2 : w77.ownsRow w0.heap.size 52 3 pv2 ps2.length (pas ps2) := by rw [hps2, pas_snoc, List.length_append, List.length_singleton]; exact hpv2
    have hpl : ∀ k, pv.ownBlock = some k → w0.heap.size ≤ k := fun k hk => (hpv.lt k hk).1
    have hdj' : ∀ j, j < r.2.length → Dj pv2 (U2 j) := fun j hj => Dj.step (hdj j hj) hb77 (fun k hk => by have := (hS.ty.tys.lt hj hk).2; omega)
    replace hS := hS.only ho77 (fun e => own_off hpv hS.cell (by decide) e) (own_row_off hpv hS.ty.row (by decide)) (fun j hj k hk e => hdj j hj k e hk) (own_row_off hpv hS.ro (by decide)) (fun k e => by have := hpl k e; omega)
    replace hC3 := ho77.blk hC3 (fun e => own_off hpv hC3 (by decide) e)
    replace hC6 := ho77.blk hC6 (fun e => own_off hpv hC6 (by decide) e)
    replace ho := ho.trans' ho77 (fun _ h => h) (fun k hk e => by have := hpl k e; omega)
    clear hpv
    refine WL.c rfl (o_fa 3 TI50 rfl TI48 rfl h6 ?_)
    refine WL.u (o_stB TI48 rfl (show _ = pv2 from rfl) (own_one hpv2) hC6 (show 3 < 4 by decide) ?_)
    intro w78 hC6n ho78 hs78
    replace hC6n : w78.heap[b6]? = some (.cells #[.int .i64 y.kind, .int .i64 y.n, .int .i64 el, pv2] 50 (0, 0)) := hC6n
    have hof := hS.off hC6 (by decide) (by decide) (by decide)
    replace hS := hS.only ho78 hof.1 (fun k hk e => hn6 (e ▸ hk)) hof.2.1 hof.2.2 (fun k e => by omega)
    replace hC3 := ho78.blk hC3 (blk_ne3 hC3 hC6 (by decide))
    have hpv := own_only hpv2 ho78 (fun k hk e => by subst e; exact own_off hpv2 hC6 (by decide) hk)
    replace hdj := hdj'
    replace ho := ho.trans' ho78 (fun _ h => h) (fun k hk e => by omega)
    replace hC6 := hC6n
    have hpk2 : ps2.length ≤ k + 1 := by rw [hps2]; simp; omega
    have hmk2 : mkK (fun nm => f (whD D nm)) y.kind ts2 r.2 el ps2 = mkK (fun nm => f (whD D nm)) y.kind (.cons t ts2) L1 el ps := by rw [mkK_cons7 hkd, hps2, hr]
    refine WL.nil ?_
    refine W.region ?_
    refine WL.c rfl (o_addi h50 rfl (by omega) ?_)
    refine WL.c rfl (o_mvh (show _ = Value.int _ _ from rfl) ?_)
    refine WL.nil ?_
    refine ⟨⟨k + 1, _, _, _, r.2, tv2, U2, lv3, ts2, by omega, h0, h3, h6, h49, rfl, hS, hC3, hC6, hpv, hdj, hmk2.trans hmk, hwt.2, hpk2, by omega, fun x hx => hmem x (List.mem_append_right _ hx), by omega, by simp at hrl ⊢; omega, hn6, ho, hnv, hnu, blk_lt3 hC6⟩, ?_⟩
    show ks.len - ((k : Int) + 1).toNat < _
    rw [hm50]; simp [intOf]; omega
  try simp only [cs8] at c51
  have hk1 : k = ks.len := by omega
  have hnil := Trs.none hks hk1
  subst hnil
  replace hmk : (el, ps, L1) = mkK (fun nm => f (whD D nm)) y.kind ks L 0 [] := hmk
  have hLc : L1.length + 1 ≤ N := by simp [Trs.flat] at hLN1; omega
  refine W.exit ?_
  refine W.seq ?_
  obtain ⟨TT, hTT⟩ : ∃ q : Tp, q = ⟨y.kind, y.n, el, ps⟩ := ⟨_, rfl⟩
  obtain ⟨wd, hwd⟩ : ∃ wd, wd = w.drew := ⟨_, rfl⟩
  have hxd : Ext w wd := hwd ▸ Only.drew w
  replace hS := hS.ext hxd
  replace ho := ho.ext hxd
  replace hpv := own_ext hpv hxd
  replace hC6 : wd.heap[b6]? = some (.cells (tcell TT pv).toArray 50 (0, 0)) := by rw [hTT]; exact hxd.blk hC6 (fun h => h)
  have hlt : ∀ k, tv1.ownBlock = some k → k < wd.heap.size := fun k hk => (hS.ty.row.lt k hk).2
  have hge : ∀ k, tv1.ownBlock = some k → wB.heap.size ≤ k := fun k hk => (hS.ty.row.lt k hk).1
  have hls : ¬ tv1.ownBlock = some pb := fun e => own_off hS.ty.row hS.cell (by decide) e
  have hwB := hS.ex.size
  refine W.drawF 8 [7] [fun k => tv1.ownBlock = some k] [(0, fun v _ => v = _), (6, fun v _ => v = _)] rfl (by kernel_rfl) (by kernel_rfl) ⟨Mono.eq, Mono.eq, trivial⟩ ⟨h0, h6, trivial⟩ ?_
  refine WDS.p rfl (by decide) (fun e w hR hh => by obtain ⟨h0, -⟩ := hh; exact SG.n (o_mvh h0 ⟨rfl, Only.refl No _⟩)) ?_
  refine WDS.p rfl (by decide) (fun e w hR hh => by obtain ⟨h0, -⟩ := hh; exact SG.n (o_mvh h0 ⟨rfl, Only.refl No _⟩)) ?_
  refine WDS.p rfl (by decide) (fun e w hR hh => by obtain ⟨h83, -⟩ := hh; exact SG.n (o_nil h83 ⟨rfl, Only.refl No _⟩)) ?_
  refine WDS.p rfl (by decide) (fun e w hR hh => by obtain ⟨h84, -⟩ := hh; exact SG.n (o_fa 1 TI85 rfl TI31 rfl h84 ⟨rfl, Only.refl No _⟩)) ?_
  refine WDS.p rfl (by decide) (fun e w hR hh => by obtain ⟨h85, -⟩ := hh; rw [← hwd] at hR; have hc := hR.blk hS.cell (fun hF => by rcases hF with hF | hF <;> first | exact hls hF | exact hF); exact SG.n (o_ld TI31 rfl h85 (cell_of hc rfl) ⟨rfl, Only.refl No _⟩)) ?_
  refine WDS.p rfl (by decide) (fun e w hR hh => by obtain ⟨h6, -⟩ := hh; rw [← hwd] at hR; exact SG.n (o_ldA TI50 rfl h6 (show Cells w b6 0 (tcell TT pv) from Cells.of (hR.blk hC6 (fun hF => by rcases hF with hF | hF <;> first | exact hF | exact hn6 hF)) 0 _ (by simp)) rfl ⟨rfl, Only.refl No _⟩)) ?_
  refine WDS.q 0 (fun v w => w.ownsRow wd.heap.size 50 4 v 1 (tcell TT pv)) (fun v w w2 hR hh => own_only hh hR (fun k hk hF => by rcases hF with hF | hF <;> first | exact hF | (have := hlt k hF; have := (hh.lt k hk).1; omega))) (by kernel_rfl) rfl (by decide) (fun e w hR hh => by obtain ⟨h87, -⟩ := hh; rw [← hwd] at hR; exact SG.n (o_bs1 TI31 TI50 (show _ = Value.agg (tcell TT pv).toArray from h87) (by decide) (by decide) rfl ⟨own_mono (own_new1 rfl) hR.size, Only.alloc w _⟩)) ?_
  refine WDS.mf 0 1 (fun v w => w.ownsRow wB.heap.size 50 4 v (L1.length + 1) (trows L1 U1 ++ tcell TT pv) ∧ ∀ k, v.ownBlock = some k → tv1.ownBlock = some k ∨ wd.heap.size ≤ k) (fun v w w2 hR hh => ⟨own_ext hh.1 hR, hh.2⟩) (by kernel_rfl) rfl rfl rfl (fun e w hR hW hh => by obtain ⟨h88, h86, -⟩ := hh; rw [← hwd] at hR hW; have hW2 : Ext wd w := hW.mono (fun _ _ h => h); have hw2 := hR.size; exact SGX.n (OP.x (o_apO wB.heap.size TI31 TI50 h86 rfl (own_ext hS.ty.row hW2) (Sl.own h88) rfl (by decide) (tcell_all (own_one hpv)) (by rw [maxLen_eq]; omega) (by omega) (by omega) (fun v' w' h1 h2 h3 _ => ⟨⟨h1, fun k hk => by rcases h3 with h3 | h3; exact .inl (h3.symm.trans hk); exact .inr (by have h5 := h3.symm.trans hk; rw [Option.some.injEq] at h5; have := hR.size; omega)⟩, h2⟩)))) ?_
  rintro e w hR ⟨h89, h88, h87, h86, h85, h84, h83, h82, h0, h6, -⟩
  rw [← hwd] at hR
  obtain ⟨v89, hv89⟩ : ∃ v, v = e 89 := ⟨_, rfl⟩
  rw [← hv89] at h89
  obtain ⟨h89, h89b⟩ := h89
  have hc5 := hR.blk hS.cell (fun hF => by rcases hF with hF | hF <;> first | exact hls hF | exact hF)
  have hty5 : Typs w wB.heap.size (L1 ++ [TT]) v89 (fun j => if j = L1.length then pv else U1 j) := Typs.snocD h89 (hS.ty.tys.only hR (fun j hj k hk hF => by rcases hF with hF | hF <;> first | exact hF | exact own_row_off hS.ty.row (hS.ty.tys.row j hj) (by decide) k hk hF))
    (by rw [hTT]; exact own_mono (own_only hpv hR (fun k hk hF => by rcases hF with hF | hF <;> first | exact hF | exact own_row_off hS.ty.row hpv (by decide) k hk hF)) hB0) hdj
  have hro5 := own_only hS.ro hR (fun k hk hF => by rcases hF with hF | hF <;> first | exact hF | exact own_row_off hS.ty.row hS.ro (by decide) k hk hF)
  have hex5 := hS.ex.trans' hR (fun _ h => h) (fun k hk hF => by rcases hF with hF | hF; have := hge k hF; omega; exact hF.elim)
  have ho5 := ho.trans' hR (fun _ h => h) (fun k hk hF => by
    rcases hF with hF | hF
    · rcases hnv k hF with h | h
      · exact .inr h
      omega
    exact hF.elim)
  refine WL.c rfl (o_nil h82 ?_)
  refine WL.c rfl (o_fa 1 TI85 rfl TI31 rfl rfl ?_)
  refine WL.u (o_stB TI31 rfl (show _ = v89 from hv89.symm) (own_one h89) hc5 (show 1 < 4 by decide) ?_)
  intro w91 hB91 ho91 hs91
  replace hB91 : w91.heap[pb]? = some (.cells #[dv, v89, rv, lv2] 85 (0, 0)) := hB91
  have hty6 := hty5.only ho91 (fun k hk e => by
    subst e
    rcases hk with hk | ⟨j, hj, hk⟩
    · exact own_off hty5.row hc5 (by decide) hk
    exact own_off (hty5.tys.row j hj) hc5 (by decide) hk)
  have hS6 : BS wB w91 pb dv rv D.length f (L1 ++ [TT]) v89 (fun j => if j = L1.length then pv else U1 j) lv2 rest := ⟨hB91, hty6, own_only hro5 ho91 (fun k hk e => by subst e; exact own_off hro5 hc5 (by decide) hk), hS.lf, hex5.trans' ho91 (fun _ h => h) (fun k hk e => by have := hS.pH; omega), hS.pH⟩
  have ho6 := ho5.trans (ho91.mono (fun k _ e => .inl e))
  have hnv6 : NewV w0 tv v89 := fun k hk => by
    rcases h89b k hk with h | h
    · exact hnv k h
    right; have := ho.size; omega
  have hnu6 : NewU w0 L (L1 ++ [TT]) U (fun j => if j = L1.length then pv else U1 j) := fun j hj k hk => by
    by_cases e : j = L1.length
    · have hk' : (if j = L1.length then pv else U1 j).ownBlock = some k := hk
      rw [if_pos e] at hk'
      exact .inr (hpv.lt k hk').1
    have hk' : (if j = L1.length then pv else U1 j).ownBlock = some k := hk
    rw [if_neg e] at hk'
    exact hnu j (by simp at hj; omega) k hk'
  refine WL.nil ?_
  refine W.seq ?_
  refine W.region ?_
  refine WL.c rfl (o_mvh h0 ?_)
  refine WL.c rfl (o_nil rfl ?_)
  refine WL.c rfl (o_fa 1 TI85 rfl TI31 rfl rfl ?_)
  refine WL.c rfl (o_ld TI31 rfl rfl (cell_of hB91 rfl) ?_)
  refine WL.c rfl (o_lenR TI31 rfl (Sl.own hty6.row) ?_)
  refine WL.c rfl (o_subi (a := (((L1 ++ [TT]).length : Nat) : Int)) (b := 1) rfl rfl (by simp; omega) ?_)
  refine WL.c rfl (o_ash (show _ = Value.int _ _ from rfl) ?_)
  refine WL.nil ?_
  refine W.ret ?_
  refine ret1v rfl (show _ = Value.int _ _ from rfl) ?_
  have hm : mkT (fun nm => f (whD D nm)) (Tr.node y ks) L = ((L1.length : Int), L1 ++ [TT]) := by rw [mkT, if_neg hk9, ← hmk, hTT]
  rw [hm]
  exact ⟨v89, _, lv2, congrArg (Value.int .i64) (by simp), hS6, ho6, hnv6, hnu6⟩
end Go.Proofs.Ytpbflfgigfdohaa

set_option linter.unusedSimpArgs false
set_option linter.unusedVariables false
set_option maxRecDepth 100000
namespace Go.Proofs.Ytpbflfgigfdohaa
open Go Go.Vc Go.RowKit Go.Proofs

theorem bexpr_all (wB : World) (pb : Nat) (D : List Df) (dv rv : Value) (V : Nat → Value) (f : Nat → Int) (N : Nat) (hDB : DefR wB D dv V) (hlen : D.length * 48 ≤ 140737488351232) (hN : N ≤ 2932031007402) : ∀ (m : Nat) (t : Tr), t.flat.length ≤ m → SEx wB pb D dv rv f N t
  | 0, .node y ks, h => by simp [Tr.flat] at h
  | m + 1, .node y ks, h => fun rest L tv U lv a d w0 h1 h2 h3 h4 h5 h6 => bexpr_step wB pb D dv rv V f N hDB hlen hN y ks (fun t ht => bexpr_all wB pb D dv rv V f N hDB hlen hN m t (by omega)) rest L tv U lv a d w0 h1 h2 h3 h4 h5 h6
theorem bnd_hit {D : List Df} {i q : Nat} (hi : i < D.length) (hq : q < D[i].ty.length) (ho : outB D[i].ty[q] = true) (h1 : ∀ j, j < i → bndD D j = none) (h2 : ∀ j, j < q → bndN D[i].ty j = none) : bndF D = some (90, D[i].ty[q].at_) := by
  refine firstN_hit hi ?_ h1
  unfold bndD
  rw [tyD_at hi]
  refine firstN_hit hq ?_ h2
  unfold bndN
  rw [List.getD_eq_getElem?_getD, List.getElem?_eq_getElem hq]
  simp only [Option.getD_some]
  rw [if_pos ho]
theorem bndN_no {L : List Ex} {q : Nat} (hq : q < L.length) (ho : outB L[q] = false) : bndN L q = none := by
  unfold bndN
  rw [List.getD_eq_getElem?_getD, List.getElem?_eq_getElem hq]
  simp only [Option.getD_some]
  rw [if_neg (by rw [ho]; simp)]
theorem bndD_no {D : List Df} {i : Nat} (hi : i < D.length) (h : ∀ j, j < D[i].ty.length → bndN D[i].ty j = none) : bndD D i = none := by
  unfold bndD
  rw [tyD_at hi]
  exact firstN_miss h
def bndV (D : List Df) : Int × Int := (bndF D).getD (0, 0)

set_option maxHeartbeats 4000000 in
theorem bounds_spec (D : List Df) (dv : Value) (V : Nat → Value) (w0 : World) (hD : DefR w0 D dv V) (hlim : DOk D) : Ca Try.prog 30 #[.agg #[dv]] w0 (fun v w' => v = .agg #[.int .i64 (bndV D).1, .int .i64 (bndV D).2] ∧ Ext w0 w') := by
  have hlen := hlim.len
  refine Ca.of Try.func30 Try.ntmps30 rfl rfl ?_
  refine W.seq ?_
  refine W.region ?_
  refine WL.c rfl (o_boxB rfl ?_)
  intro w1 hC1 hx1 hs1
  obtain ⟨b1, hb1⟩ : ∃ b, b = w0.heap.size := ⟨_, rfl⟩
  rw [← hb1] at hC1 ⊢
  replace hC1 : w1.heap[b1]? = some (.cells ([dv]).toArray 25 (0, 0)) := hC1
  have hx := hx1
  replace hD := hD.ext hx1
  refine WL.c rfl (o_alB TI28 ?_)
  have hxq := hx
  intro wb hC2 hxb hsb
  replace hx := hx.tr hxb
  replace hD := hD.ext hxb
  replace hC1 := hxb.blk hC1 (fun h => h)
  obtain ⟨c2, hc2⟩ : ∃ c, c = w1.heap.size := ⟨_, rfl⟩
  rw [← hc2] at hC2 ⊢
  replace hC2 : wb.heap[c2]? = some (.cells #[.int .i64 0, .int .i64 0] 28 (0, 0)) := hC2
  have hz2 : w0.heap.size ≤ c2 := by rw [hc2]; exact hxq.size
  clear hxq hxb
  refine WL.nil ?_
  refine W.seq ?_
  refine W.seq ?_
  refine W.region ?_
  refine WL.c rfl (o_fa 0 TI25 rfl TI23 rfl rfl ?_)
  refine WL.c rfl (o_ld TI23 rfl rfl (cell_of hC1 rfl) ?_)
  refine WL.c rfl (o_lenR TI23 rfl hD.row ?_)
  refine WL.c rfl (o_mvh (show _ = Value.int _ _ from rfl) ?_)
  refine WL.nil ?_
  refine W.block ?_
  refine W.loop (fun e w => ∃ i : Nat, i ≤ D.length ∧ e 2 = .pointer (some ⟨c2, 0, none⟩) ∧ e 9 = dv ∧ e 10 = .int .i64 (D.length : Int) ∧ e 11 = .int .i64 (i : Int) ∧ (∀ j, j < i → bndD D j = none) ∧ DefR w D dv V ∧ w.heap[c2]? = some (.cells #[.int .i64 0, .int .i64 0] 28 (0, 0)) ∧ Ext w0 w) (fun e w => D.length - (intOf (e 11)).toNat) ?_ ?_
  · exact ⟨0, Nat.zero_le _, rfl, rfl, rfl, rfl, fun j hj => by omega, hD, hC2, hx⟩
  rintro e w ⟨i, hi, h2, h9, h10, h11, hno, hD, hC2, hx⟩
  have hm11 := h11
  refine W.seq ?_
  refine W.region ?_
  refine WL.c rfl (o_lt h11 h10 ?_)
  refine WL.nil ?_
  refine W.seq ?_
  refine W.cond rfl (fun c12 => ?_) (fun c12 => ?_)
  · try simp only [cs8] at c12
    have hi1 : i < D.length := by omega
    obtain ⟨tb, to_, tc, rfl, htc, hty⟩ := hD.atk hi1
    have htl := hlim.ty _ (List.getElem_mem hi1)
    refine W.skip ?_
    refine W.seq ?_
    refine W.block ?_
    refine W.seq ?_
    refine W.region ?_
    refine WL.c rfl (o_ixB TI23 TI39 h9 h11 (by omega) ?_)
    refine WL.c rfl (o_ldA TI39 rfl rfl htc rfl ?_)
    refine WL.c rfl (o_alB TI39 ?_)
    intro wa hCa hxa hsa
    refine WL.u (o_stA TI39 rfl (show _ = Value.agg (dcell D[i] (V i)).toArray from rfl) rfl (by simp only [dcell, List.toArray, Array.toList, List.all_cons, List.all_nil, sl_one1 hty]; rfl) hCa rfl ?_)
    intro wb4 hC4 hob hsb
    have hxb := Ext.own hxa (Nat.le_refl _) hob
    obtain ⟨b4, hb4⟩ : ∃ b, b = w.heap.size := ⟨_, rfl⟩
    rw [← hb4] at hC4 ⊢
    clear hCa hxa hsa hob hsb
    replace hx := hx.tr hxb
    replace hD := hD.ext hxb
    replace hC2 := hxb.blk hC2 (fun h => h)
    replace hty := hty.ext hxb
    clear hxb
    refine WL.nil ?_
    refine W.seq ?_
    refine W.region ?_
    refine WL.c rfl (o_fa 2 TI39 rfl TI37 rfl rfl ?_)
    refine WL.c rfl (o_ld TI37 rfl rfl (cell_of hC4 rfl) ?_)
    refine WL.c rfl (o_lenR TI37 rfl hty ?_)
    refine WL.c rfl (o_mvh (show _ = Value.int _ _ from rfl) ?_)
    refine WL.nil ?_
    refine W.block ?_
    refine W.loop (fun e w => ∃ q : Nat, q ≤ D[i].ty.length ∧ e 2 = .pointer (some ⟨c2, 0, none⟩) ∧ e 9 = (.slice (some ⟨tb, to_, none⟩) D.length tc) ∧ e 10 = .int .i64 (D.length : Int) ∧ e 11 = .int .i64 (i : Int) ∧ e 16 = V i ∧ e 17 = .int .i64 (D[i].ty.length : Int) ∧ e 18 = .int .i64 (q : Int) ∧ (∀ j, j < q → bndN D[i].ty j = none) ∧ Sl w 7 (V i) D[i].ty.length (exs D[i].ty) ∧ DefR w D (.slice (some ⟨tb, to_, none⟩) D.length tc) V ∧ w.heap[c2]? = some (.cells #[.int .i64 0, .int .i64 0] 28 (0, 0)) ∧ Ext w0 w) (fun e w => D[i].ty.length - (intOf (e 18)).toNat) ?_ ?_
    · exact ⟨0, Nat.zero_le _, h2, h9, h10, h11, rfl, rfl, rfl, fun j hj => by omega, hty, hD, hC2, hx⟩
    rintro e w ⟨q, hq, h2, h9, h10, h11, h16, h17, h18, hnn, hty, hD, hC2, hx⟩
    have hm18 := h18
    refine W.seq ?_
    refine W.region ?_
    refine WL.c rfl (o_lt h18 h17 ?_)
    refine WL.nil ?_
    refine W.seq ?_
    refine W.cond rfl (fun c19 => ?_) (fun c19 => ?_)
    · try simp only [cs8] at c19
      have hq1 : q < D[i].ty.length := by omega
      obtain ⟨ub, uo, uc, hV1, huc⟩ := Sl.exq hty hq1
      rw [hV1] at h16
      refine W.skip ?_
      refine W.seq ?_
      refine W.block ?_
      refine W.seq ?_
      refine W.region ?_
      refine WL.c rfl (o_ixB (i := q) TI37 TI41 h16 h18 (by omega) ?_)
      refine WL.c rfl (o_ldA TI41 rfl rfl huc rfl ?_)
      refine WL.c rfl (o_alB TI41 ?_)
      intro wa hCa hxa hsa
      refine WL.u (o_stA TI41 rfl (show _ = Value.agg (exV D[i].ty[q]).toArray from rfl) rfl rfl hCa rfl ?_)
      intro wb6 hC6 hob hsb
      have hxb := Ext.own hxa (Nat.le_refl _) hob
      obtain ⟨b6, hb6⟩ : ∃ b, b = w.heap.size := ⟨_, rfl⟩
      rw [← hb6] at hC6 ⊢
      clear hCa hxa hsa hob hsb
      replace hx := hx.tr hxb
      replace hD := hD.ext hxb
      replace hC2 := hxb.blk hC2 (fun h => h)
      replace hty := hty.ext hxb
      clear hxb
      refine WL.nil ?_
      refine W.seq ?_
      refine W.region ?_
      refine WL.cut (fun e1 w1 => e1 7 = .bool (decide (D[i].ty[q].kind = 4) || decide (D[i].ty[q].kind = 5)) ∧ e1 2 = .pointer (some ⟨c2, 0, none⟩) ∧ e1 9 = (.slice (some ⟨tb, to_, none⟩) D.length tc) ∧ e1 10 = .int .i64 (D.length : Int) ∧ e1 11 = .int .i64 (i : Int) ∧ e1 16 = (.slice (some ⟨ub, uo, none⟩) D[i].ty.length uc) ∧ e1 17 = .int .i64 (D[i].ty.length : Int) ∧ e1 18 = .int .i64 (q : Int) ∧ e1 6 = .pointer (some ⟨b6, 0, none⟩) ∧ w1 = wb6) ?_ ?_
      · -- region 7
        refine WL.c rfl (o_fa 0 TI41 rfl TI3 rfl rfl ?_)
        refine WL.c rfl (o_ld TI3 rfl rfl (cell_of hC6 rfl) ?_)
        refine WL.c rfl (o_eq rfl rfl ?_)
        refine WL.c rfl (o_mvh (show _ = Value.bool _ from rfl) ?_)
        refine WL.sp 3 rfl (fun g25 => ?_) (fun g25 => ?_)
        · skip
          refine WL.s rfl (g25) rfl ?_
          refine WL.s rfl (g25) rfl ?_
          refine WL.s rfl (g25) rfl ?_
          refine WL.c rfl (o_pickT rfl (g25) ?_)
          refine WL.c rfl (o_ash (show _ = Value.bool _ from rfl) ?_)
          exact WL.nil (⟨congrArg Value.bool (by first | rfl | (rw [Bool.eq_iff_iff]; simp_all)), h2, h9, h10, h11, h16, h17, h18, rfl, rfl⟩)
        skip
        refine WL.g rfl (g25) rfl (o_fa 0 TI41 rfl TI3 rfl rfl ?_)
        refine WL.g rfl (g25) rfl (o_ld TI3 rfl rfl (cell_of hC6 rfl) ?_)
        refine WL.g rfl (g25) rfl (o_eq rfl rfl ?_)
        refine WL.c rfl (o_pickO rfl rfl ?_)
        refine WL.c rfl (o_ash (show _ = Value.bool _ from rfl) ?_)
        exact WL.nil (⟨congrArg Value.bool (by first | rfl | (rw [Bool.eq_iff_iff]; simp_all)), h2, h9, h10, h11, h16, h17, h18, rfl, rfl⟩)
      rintro e w ⟨h7, h2, h9, h10, h11, h16, h17, h18, h6, hw1⟩
      subst hw1
      refine W.seq ?_
      refine W.region ?_
      refine WL.cut (fun e1 w1 => e1 45 = .bool (outB D[i].ty[q]) ∧ e1 2 = .pointer (some ⟨c2, 0, none⟩) ∧ e1 9 = (.slice (some ⟨tb, to_, none⟩) D.length tc) ∧ e1 10 = .int .i64 (D.length : Int) ∧ e1 11 = .int .i64 (i : Int) ∧ e1 16 = (.slice (some ⟨ub, uo, none⟩) D[i].ty.length uc) ∧ e1 17 = .int .i64 (D[i].ty.length : Int) ∧ e1 18 = .int .i64 (q : Int) ∧ e1 6 = .pointer (some ⟨b6, 0, none⟩) ∧ w1 = w) ?_ ?_
      · -- region 8
        refine WL.c rfl (o_mvh h7 ?_)
        refine WL.c rfl (o_mvh (show _ = Value.bool _ from rfl) ?_)
        refine WL.sp 1 rfl (fun g31 => ?_) (fun g31 => ?_)
        · skip
          refine WL.g rfl (g31) rfl (o_fa 1 TI41 rfl TI3 rfl h6 ?_)
          refine WL.g rfl (g31) rfl (o_ld TI3 rfl rfl (cell_of hC6 rfl) ?_)
          refine WL.g rfl (g31) rfl (o_lt rfl rfl ?_)
          refine WL.g rfl (g31) rfl (o_mvh (show _ = Value.bool _ from rfl) ?_)
          refine WL.sp 5 rfl (fun g35 => ?_) (fun g35 => ?_)
          · skip
            refine WL.s rfl (g35) rfl ?_
            refine WL.s rfl (g35) rfl ?_
            refine WL.s rfl (g35) rfl ?_
            refine WL.g rfl (g31) rfl (o_pickT rfl (g35) ?_)
            refine WL.c rfl (o_pickA rfl rfl ?_)
            refine WL.c rfl (o_mvh (show _ = Value.bool _ from rfl) ?_)
            refine WL.sp 11 rfl (fun g41 => ?_) (fun g41 => ?_)
            · skip
              refine WL.s rfl (g41) rfl ?_
              refine WL.s rfl (g41) rfl ?_
              refine WL.s rfl (g41) rfl ?_
              refine WL.c rfl (o_pickT rfl (g41) ?_)
              exact WL.nil (⟨congrArg Value.bool (by rw [Bool.eq_iff_iff]; simp_all [outB] <;> omega), h2, h9, h10, h11, h16, h17, h18, h6, rfl⟩)
            skip
            refine WL.g rfl (g41) rfl (o_fa 4 TI41 rfl TI3 rfl h6 ?_)
            refine WL.g rfl (g41) rfl (o_ld TI3 rfl rfl (cell_of hC6 rfl) ?_)
            refine WL.g rfl (g41) rfl (o_gt rfl rfl ?_)
            refine WL.c rfl (o_pickO rfl rfl ?_)
            exact WL.nil (⟨congrArg Value.bool (by rw [Bool.eq_iff_iff]; simp_all [outB] <;> omega), h2, h9, h10, h11, h16, h17, h18, h6, rfl⟩)
          skip
          refine WL.g rfl (g35) rfl (o_fa 1 TI41 rfl TI3 rfl h6 ?_)
          refine WL.g rfl (g35) rfl (o_ld TI3 rfl rfl (cell_of hC6 rfl) ?_)
          refine WL.g rfl (g35) rfl (o_gt rfl rfl ?_)
          refine WL.g rfl (g31) rfl (o_pickO rfl rfl ?_)
          refine WL.c rfl (o_pickA rfl rfl ?_)
          refine WL.c rfl (o_mvh (show _ = Value.bool _ from rfl) ?_)
          refine WL.sp 11 rfl (fun g41 => ?_) (fun g41 => ?_)
          · skip
            refine WL.s rfl (g41) rfl ?_
            refine WL.s rfl (g41) rfl ?_
            refine WL.s rfl (g41) rfl ?_
            refine WL.c rfl (o_pickT rfl (g41) ?_)
            exact WL.nil (⟨congrArg Value.bool (by rw [Bool.eq_iff_iff]; simp_all [outB] <;> omega), h2, h9, h10, h11, h16, h17, h18, h6, rfl⟩)
          skip
          refine WL.g rfl (g41) rfl (o_fa 4 TI41 rfl TI3 rfl h6 ?_)
          refine WL.g rfl (g41) rfl (o_ld TI3 rfl rfl (cell_of hC6 rfl) ?_)
          refine WL.g rfl (g41) rfl (o_gt rfl rfl ?_)
          refine WL.c rfl (o_pickO rfl rfl ?_)
          exact WL.nil (⟨congrArg Value.bool (by rw [Bool.eq_iff_iff]; simp_all [outB] <;> omega), h2, h9, h10, h11, h16, h17, h18, h6, rfl⟩)
        skip
        refine WL.s rfl (g31) rfl ?_
        refine WL.s rfl (g31) rfl ?_
        refine WL.s rfl (g31) rfl ?_
        refine WL.s rfl (g31) rfl ?_
        refine WL.z rfl rfl ?_
        refine WL.z rfl rfl ?_
        refine WL.z rfl rfl ?_
        refine WL.s rfl (g31) rfl ?_
        refine WL.c rfl (o_pickF rfl (g31) ?_)
        refine WL.c rfl (o_mvh (show _ = Value.bool _ from rfl) ?_)
        refine WL.g rfl (rfl) rfl (o_fa 4 TI41 rfl TI3 rfl h6 ?_)
        refine WL.g rfl (rfl) rfl (o_ld TI3 rfl rfl (cell_of hC6 rfl) ?_)
        refine WL.g rfl (rfl) rfl (o_gt rfl rfl ?_)
        refine WL.c rfl (o_pickO rfl rfl ?_)
        exact WL.nil (⟨congrArg Value.bool (by rw [Bool.eq_iff_iff]; simp_all [outB] <;> omega), h2, h9, h10, h11, h16, h17, h18, h6, rfl⟩)
      rintro e w ⟨h45, h2, h9, h10, h11, h16, h17, h18, h6, hw1⟩
      subst hw1
      refine W.cond h45 (fun c45 => ?_) (fun c45 => ?_)
      · try simp only [cs8] at c45
        have hout : outB D[i].ty[q] = true := c45
        refine W.seq ?_
        refine W.region ?_
        refine WL.c rfl (o_fa 6 TI41 rfl TI3 rfl h6 ?_)
        refine WL.c rfl (o_ld TI3 rfl rfl (cell_of hC6 rfl) ?_)
        refine WL.c rfl (o_bldC (cs := [(.int .i64 90), _]) TI28 (Sizes.cons TI26 (Sizes.cons TI3 Sizes.nil)) rfl (lcp (show _ = Value.int _ _ from rfl) (lcp (show _ = Value.int _ _ from rfl) lnp)) rfl rfl ?_)
        refine WL.u (o_stA TI28 h2 (show _ = Value.agg #[.int .i64 90, .int .i64 D[i].ty[q].at_] from rfl) rfl rfl hC2 rfl ?_)
        intro wz hCz hoz hsz
        replace hx := hx.trans' hoz (fun _ h => h) (fun b hb he => by omega)
        refine WL.nil ?_
        refine W.ret ?_
        refine retC rfl TI28 rfl h2 (show Cells _ c2 0 [.int .i64 90, .int .i64 D[i].ty[q].at_] from Cells.of hCz 0 _ (by simp)) rfl ?_
        have hb := bnd_hit hi1 hq1 hout hno hnn
        exact ⟨by unfold bndV; rw [hb]; rfl, hx⟩
      try simp only [cs8] at c45
      have hout : outB D[i].ty[q] = false := by simpa using c45
      refine W.skip ?_
      refine W.region ?_
      refine WL.c rfl (o_addi h18 rfl (by omega) ?_)
      refine WL.c rfl (o_mvh (show _ = Value.int _ _ from rfl) ?_)
      refine WL.nil ?_
      refine ⟨⟨q + 1, by omega, h2, h9, h10, h11, h16.trans hV1.symm, h17, rfl, fun j hj => ?_, hty, hD, hC2, hx⟩, ?_⟩
      · rcases Nat.lt_or_ge j q with h | h
        · exact hnn j h
        rw [show j = q by omega]; exact bndN_no hq1 hout
      show D[i].ty.length - ((q : Int) + 1).toNat < _
      rw [hm18]; simp [intOf]; omega
    try simp only [cs8] at c19
    have hq1 : q = D[i].ty.length := by omega
    refine W.exit ?_
    refine W.region ?_
    refine WL.c rfl (o_addi h11 rfl (by omega) ?_)
    refine WL.c rfl (o_mvh (show _ = Value.int _ _ from rfl) ?_)
    refine WL.nil ?_
    refine ⟨⟨i + 1, by omega, h2, h9, h10, rfl, fun j hj => ?_, hD, hC2, hx⟩, ?_⟩
    · rcases Nat.lt_or_ge j i with h | h
      · exact hno j h
      rw [show j = i by omega]; exact bndD_no hi1 (by rw [hq1] at hnn; exact hnn)
    show D.length - ((i : Int) + 1).toNat < _
    rw [hm11]; simp [intOf]; omega
  try simp only [cs8] at c12
  have hi1 : i = D.length := by omega
  rw [hi1] at hno
  have hbn : bndF D = none := firstN_miss hno
  refine W.exit ?_
  refine W.seq ?_
  refine W.region ?_
  refine WL.c rfl (o_bldC (cs := [(.int .i64 0), (.int .i64 0)]) TI28 (Sizes.cons TI26 (Sizes.cons TI3 Sizes.nil)) rfl lnp rfl rfl ?_)
  refine WL.u (o_stA TI28 h2 (show _ = Value.agg #[.int .i64 0, .int .i64 0] from rfl) rfl rfl hC2 rfl ?_)
  intro wz hCz hoz hsz
  replace hx := hx.trans' hoz (fun _ h => h) (fun b hb he => by omega)
  refine WL.nil ?_
  refine W.ret ?_
  refine retC rfl TI28 rfl h2 (show Cells _ c2 0 [.int .i64 0, .int .i64 0] from Cells.of hCz 0 _ (by simp)) rfl ?_
  exact ⟨by unfold bndV; rw [hbn]; rfl, hx⟩
end Go.Proofs.Ytpbflfgigfdohaa

set_option linter.unusedSimpArgs false
set_option linter.unusedVariables false
set_option maxRecDepth 100000
namespace Go.Proofs.Ytpbflfgigfdohaa
open Go Go.Vc Go.RowKit Go.Proofs

instance (k n : Int) : Decidable (numOk k n) := by unfold numOk; infer_instance

set_option maxHeartbeats 1000000 in
theorem tnumber_spec (kind n : Int) (w0 : World) : Ca Try.prog 58 #[.int .i64 kind, .int .i64 n] w0 (fun v w' => v = .bool (decide (numOk kind n)) ∧ w' = w0) := by
  refine Ca.of Try.func58 Try.ntmps58 rfl rfl ?_
  refine W.seq ?_
  refine W.region ?_
  refine WL.c rfl (o_ash (show _ = Value.bool _ from rfl) ?_)
  refine WL.nil ?_
  refine W.seq ?_
  refine W.seq ?_
  refine W.region ?_
  refine WL.c rfl (o_mvh (show _ = Value.int _ _ from rfl) ?_)
  refine WL.nil ?_
  refine W.block ?_
  refine W.seq ?_
  by_cases k1 : kind = 1
  rotate_left
  by_cases k4 : kind = 4
  rotate_left
  by_cases k5 : kind = 5
  · skip
    skip
    refine W.region ?_
    refine WL.c rfl (o_eq rfl rfl ?_)
    refine WL.c rfl (o_ash (show _ = Value.bool _ from rfl) ?_)
    refine WL.nil ?_
    refine W.condF' rfl (decide_eq_false k1) ?_
    refine W.seq ?_
    refine W.seq ?_
    refine W.region ?_
    refine WL.c rfl (o_eq rfl rfl ?_)
    refine WL.c rfl (o_ash (show _ = Value.bool _ from rfl) ?_)
    refine WL.nil ?_
    refine W.condF' rfl (decide_eq_false k4) ?_
    refine W.region ?_
    refine WL.c rfl (o_eq rfl rfl ?_)
    refine WL.c rfl (o_ash (show _ = Value.bool _ from rfl) ?_)
    refine WL.nil ?_
    refine W.condT' rfl (decide_eq_true k5) ?_
    refine W.seq ?_
    refine W.region ?_
    refine WL.c rfl (o_mvh (show _ = Value.int _ _ from rfl) ?_)
    refine WL.c rfl (o_ge rfl rfl ?_)
    refine WL.c rfl (o_mvh (show _ = Value.bool _ from rfl) ?_)
    refine WL.sp 2 rfl (fun g27 => ?_) (fun g27 => ?_)
    · skip
      refine WL.g rfl (g27) rfl (o_mvh (show _ = Value.int _ _ from rfl) ?_)
      refine WL.g rfl (g27) rfl (o_le rfl rfl ?_)
      refine WL.c rfl (o_pickA rfl rfl ?_)
      refine WL.c rfl (o_ash (show _ = Value.bool _ from rfl) ?_)
      refine WL.nil ?_
      refine W.ret ?_
      refine ret1v rfl (show _ = Value.bool _ from rfl) ?_
      exact ⟨congrArg Value.bool (by rw [Bool.eq_iff_iff]; simp_all [numOk] <;> omega), rfl⟩
    skip
    refine WL.s rfl (g27) rfl ?_
    refine WL.s rfl (g27) rfl ?_
    refine WL.c rfl (o_pickF rfl (g27) ?_)
    refine WL.c rfl (o_ash (show _ = Value.bool _ from rfl) ?_)
    refine WL.nil ?_
    refine W.ret ?_
    refine ret1v rfl (show _ = Value.bool _ from rfl) ?_
    exact ⟨congrArg Value.bool (by rw [Bool.eq_iff_iff]; simp_all [numOk] <;> omega), rfl⟩
  · skip
    skip
    refine W.region ?_
    refine WL.c rfl (o_eq rfl rfl ?_)
    refine WL.c rfl (o_ash (show _ = Value.bool _ from rfl) ?_)
    refine WL.nil ?_
    refine W.condF' rfl (decide_eq_false k1) ?_
    refine W.seq ?_
    refine W.seq ?_
    refine W.region ?_
    refine WL.c rfl (o_eq rfl rfl ?_)
    refine WL.c rfl (o_ash (show _ = Value.bool _ from rfl) ?_)
    refine WL.nil ?_
    refine W.condF' rfl (decide_eq_false k4) ?_
    refine W.region ?_
    refine WL.c rfl (o_eq rfl rfl ?_)
    refine WL.c rfl (o_ash (show _ = Value.bool _ from rfl) ?_)
    refine WL.nil ?_
    refine W.condF' rfl (decide_eq_false k5) ?_
    refine W.skip ?_
    refine W.seq ?_
    refine W.region ?_
    refine WL.c rfl (o_mvh (show _ = Value.int _ _ from rfl) ?_)
    refine WL.c rfl (o_eq rfl rfl ?_)
    refine WL.c rfl (o_ash (show _ = Value.bool _ from rfl) ?_)
    refine WL.nil ?_
    refine W.ret ?_
    refine ret1v rfl (show _ = Value.bool _ from rfl) ?_
    exact ⟨congrArg Value.bool (by rw [Bool.eq_iff_iff]; simp_all [numOk]), rfl⟩
  · skip
    skip
    refine W.region ?_
    refine WL.c rfl (o_eq rfl rfl ?_)
    refine WL.c rfl (o_ash (show _ = Value.bool _ from rfl) ?_)
    refine WL.nil ?_
    refine W.condT' rfl (decide_eq_true k1) ?_
    refine W.seq ?_
    refine W.region ?_
    refine WL.c rfl (o_mvh (show _ = Value.int _ _ from rfl) ?_)
    refine WL.c rfl (o_eq rfl rfl ?_)
    refine WL.c rfl (o_mvh (show _ = Value.bool _ from rfl) ?_)
    refine WL.sp 2 rfl (fun g10 => ?_) (fun g10 => ?_)
    · skip
      refine WL.s rfl (g10) rfl ?_
      refine WL.s rfl (g10) rfl ?_
      refine WL.c rfl (o_pickT rfl (g10) ?_)
      refine WL.c rfl (o_mvh (show _ = Value.bool _ from rfl) ?_)
      refine WL.s rfl (rfl) rfl ?_
      refine WL.s rfl (rfl) rfl ?_
      refine WL.c rfl (o_pickT rfl (rfl) ?_)
      refine WL.c rfl (o_mvh (show _ = Value.bool _ from rfl) ?_)
      refine WL.s rfl (rfl) rfl ?_
      refine WL.s rfl (rfl) rfl ?_
      refine WL.c rfl (o_pickT rfl (rfl) ?_)
      refine WL.c rfl (o_ash (show _ = Value.bool _ from rfl) ?_)
      refine WL.nil ?_
      refine W.ret ?_
      refine ret1v rfl (show _ = Value.bool _ from rfl) ?_
      exact ⟨congrArg Value.bool (by rw [Bool.eq_iff_iff]; simp_all [numOk]), rfl⟩
    skip
    refine WL.g rfl (g10) rfl (o_mvh (show _ = Value.int _ _ from rfl) ?_)
    refine WL.g rfl (g10) rfl (o_eq rfl rfl ?_)
    refine WL.c rfl (o_pickO rfl rfl ?_)
    refine WL.c rfl (o_mvh (show _ = Value.bool _ from rfl) ?_)
    refine WL.sp 6 rfl (fun g14 => ?_) (fun g14 => ?_)
    · skip
      refine WL.s rfl (g14) rfl ?_
      refine WL.s rfl (g14) rfl ?_
      refine WL.c rfl (o_pickT rfl (g14) ?_)
      refine WL.c rfl (o_mvh (show _ = Value.bool _ from rfl) ?_)
      refine WL.s rfl (rfl) rfl ?_
      refine WL.s rfl (rfl) rfl ?_
      refine WL.c rfl (o_pickT rfl (rfl) ?_)
      refine WL.c rfl (o_ash (show _ = Value.bool _ from rfl) ?_)
      refine WL.nil ?_
      refine W.ret ?_
      refine ret1v rfl (show _ = Value.bool _ from rfl) ?_
      exact ⟨congrArg Value.bool (by rw [Bool.eq_iff_iff]; simp_all [numOk]), rfl⟩
    skip
    refine WL.g rfl (g14) rfl (o_mvh (show _ = Value.int _ _ from rfl) ?_)
    refine WL.g rfl (g14) rfl (o_eq rfl rfl ?_)
    refine WL.c rfl (o_pickO rfl rfl ?_)
    refine WL.c rfl (o_mvh (show _ = Value.bool _ from rfl) ?_)
    refine WL.sp 10 rfl (fun g18 => ?_) (fun g18 => ?_)
    · skip
      refine WL.s rfl (g18) rfl ?_
      refine WL.s rfl (g18) rfl ?_
      refine WL.c rfl (o_pickT rfl (g18) ?_)
      refine WL.c rfl (o_ash (show _ = Value.bool _ from rfl) ?_)
      refine WL.nil ?_
      refine W.ret ?_
      refine ret1v rfl (show _ = Value.bool _ from rfl) ?_
      exact ⟨congrArg Value.bool (by rw [Bool.eq_iff_iff]; simp_all [numOk]), rfl⟩
    skip
    refine WL.g rfl (g18) rfl (o_mvh (show _ = Value.int _ _ from rfl) ?_)
    refine WL.g rfl (g18) rfl (o_eq rfl rfl ?_)
    refine WL.c rfl (o_pickO rfl rfl ?_)
    refine WL.c rfl (o_ash (show _ = Value.bool _ from rfl) ?_)
    refine WL.nil ?_
    refine W.ret ?_
    refine ret1v rfl (show _ = Value.bool _ from rfl) ?_
    exact ⟨congrArg Value.bool (by rw [Bool.eq_iff_iff]; simp_all [numOk]), rfl⟩
  skip
  skip
  refine W.region ?_
  refine WL.c rfl (o_eq rfl rfl ?_)
  refine WL.c rfl (o_ash (show _ = Value.bool _ from rfl) ?_)
  refine WL.nil ?_
  refine W.condF' rfl (decide_eq_false k1) ?_
  refine W.seq ?_
  refine W.seq ?_
  refine W.region ?_
  refine WL.c rfl (o_eq rfl rfl ?_)
  refine WL.c rfl (o_ash (show _ = Value.bool _ from rfl) ?_)
  refine WL.nil ?_
  refine W.condT' rfl (decide_eq_true k4) ?_
  refine W.skip ?_
  refine W.condT' rfl (decide_eq_true k4) ?_
  refine W.seq ?_
  refine W.region ?_
  refine WL.c rfl (o_mvh (show _ = Value.int _ _ from rfl) ?_)
  refine WL.c rfl (o_ge rfl rfl ?_)
  refine WL.c rfl (o_mvh (show _ = Value.bool _ from rfl) ?_)
  refine WL.sp 2 rfl (fun g27 => ?_) (fun g27 => ?_)
  · skip
    refine WL.g rfl (g27) rfl (o_mvh (show _ = Value.int _ _ from rfl) ?_)
    refine WL.g rfl (g27) rfl (o_le rfl rfl ?_)
    refine WL.c rfl (o_pickA rfl rfl ?_)
    refine WL.c rfl (o_ash (show _ = Value.bool _ from rfl) ?_)
    refine WL.nil ?_
    refine W.ret ?_
    refine ret1v rfl (show _ = Value.bool _ from rfl) ?_
    exact ⟨congrArg Value.bool (by rw [Bool.eq_iff_iff]; simp_all [numOk] <;> omega), rfl⟩
  skip
  refine WL.s rfl (g27) rfl ?_
  refine WL.s rfl (g27) rfl ?_
  refine WL.c rfl (o_pickF rfl (g27) ?_)
  refine WL.c rfl (o_ash (show _ = Value.bool _ from rfl) ?_)
  refine WL.nil ?_
  refine W.ret ?_
  refine ret1v rfl (show _ = Value.bool _ from rfl) ?_
  exact ⟨congrArg Value.bool (by rw [Bool.eq_iff_iff]; simp_all [numOk] <;> omega), rfl⟩
end Go.Proofs.Ytpbflfgigfdohaa

set_option linter.unusedSimpArgs false
set_option linter.unusedVariables false
set_option maxRecDepth 100000
namespace Go.Proofs.Ytpbflfgigfdohaa
open Go Go.Vc Go.RowKit Go.Proofs

noncomputable def bldV (D : List Df) : Int × Int := (bldF D).getD (0, 0)
theorem bldV_of {D : List Df} {e a : Int} (h : bldF D = some (e, a)) : (bldV D).1 = e ∧ (bldV D).2 = a := by unfold bldV; rw [h]; exact ⟨rfl, rfl⟩
theorem bldV_no {D : List Df} (h : bldF D = none) : (bldV D).1 = 0 ∧ (bldV D).2 = 0 := by unfold bldV; rw [h]; exact ⟨rfl, rfl⟩
theorem bld_bad {D : List Df} {v : Int × Int} (h : bldF D = some v) : bldT D = [] ∧ bldR D = [] := by
  have hn : ¬ bldF D = none := by rw [h]; simp
  exact ⟨if_neg hn, if_neg hn⟩
theorem Schs.nil (w : World) (H : Nat) (U : Nat → Value) : Schs w H [] [] (.slice none 0 0) (.slice none 0 0) U := ⟨Typs.nil _ _ _, World.ownsRow_nil _ _ _ _⟩
theorem bnd_nz {D : List Df} {v : Int × Int} (h : bndF D = some v) : v.1 = 90 := by
  obtain ⟨i, hi, h1⟩ := firstN_some h
  obtain ⟨j, hj, h2⟩ := firstN_some h1
  unfold bndN at h2
  split at h2
  · cases h2; rfl
  cases h2
theorem bndV_iff {D : List Df} : (bndV D).1 = 0 ↔ bndF D = none := by
  unfold bndV
  cases h : bndF D with
  | none => simp
  | some v =>
    have := bnd_nz h
    simp [this]
theorem bndV_some {D : List Df} (h : ¬ (bndV D).1 = 0) : bndF D = some ((bndV D).1, (bndV D).2) := by
  unfold bndV at h ⊢
  cases hb : bndF D with
  | none => rw [hb] at h; simp at h
  | some v => rfl
theorem bld_ck {D : List Df} (h : ¬ (chkS D).2.2 = 0) : bldF D = some (((chkS D).2.2 : Int), 0) := by unfold bldF; rw [if_neg h]
theorem bld_fA {D : List Df} (hc : (chkS D).2.2 = 0) {v : Int × Int} (h : fA D = some v) : bldF D = some v := by unfold bldF; rw [if_pos hc, h]; rfl
theorem bld_bnd {D : List Df} (hc : (chkS D).2.2 = 0) (hn : fA D = none) {v : Int × Int} (h : bndF D = some v) : bldF D = some v := by unfold bldF; rw [if_pos hc, hn, h]; rfl
theorem bfill {dv rv : Value} (h : rv.cells = #[rv]) : Instr.fill (([(0, 1), (1, 1), (2, 1), (3, 1)] : List (Nat × Nat)).toArray[·]?) (Value.agg #[.slice none 0 0, .slice none 0 0, .slice none 0 0, .slice none 0 0]).cells [(0, .agg #[dv]), (2, rv)] = some #[dv, .slice none 0 0, rv, .slice none 0 0] := by
  have h1 : (Value.agg #[dv]).cells = #[dv] := by simp [Value.cells]
  have hz : (Value.agg #[.slice none 0 0, .slice none 0 0, .slice none 0 0, .slice none 0 0]).cells = #[.slice none 0 0, .slice none 0 0, .slice none 0 0, .slice none 0 0] := by simp [Value.cells]
  rw [hz]
  simp [Instr.fill, h, h1]
theorem zvs_zero (n : Nat) : zvs n (fun _ => 0) = List.replicate n (.int .i64 0) := by
  unfold zvs
  rw [List.eq_replicate_iff]
  refine ⟨by simp, fun b hb => ?_⟩
  obtain ⟨j, -, rfl⟩ := List.mem_map.1 hb
  rfl
theorem zvs_set {n i : Nat} {v : Int} {f : Nat → Int} : (zvs n f).set i (.int .i64 v) = zvs n (upI f i v) := by
  apply List.ext_getElem?
  intro j
  rw [List.getElem?_set]
  by_cases hj : j < n
  · rw [zvs_at hj, zvs_at hj]
    unfold upI
    by_cases e : i = j
    · subst e
      rw [if_pos rfl, if_pos (by simpa [zvs] using hj), if_pos rfl]
    rw [if_neg e, if_neg (fun h => e h.symm)]
  have h1 : (zvs n f)[j]? = none := List.getElem?_eq_none (by simp [zvs]; omega)
  have h2 : (zvs n (upI f i v))[j]? = none := List.getElem?_eq_none (by simp [zvs]; omega)
  rw [h1, h2]
  by_cases e : i = j
  · subst e
    rw [if_pos rfl, if_neg (by simpa [zvs] using hj)]
  rw [if_neg e]
theorem roV_all (r : Ro) : ∀ a ∈ roV r, a.oneCell' = true := by simp [roV, Value.oneCell', st]
theorem BS.rvc {wB w : World} {pb n rb rc : Nat} {dv rv : Value} {f : Nat → Int} {L : List Tp} {tv : Value} {U : Nat → Value} {lv : Value} {left : List Ex} (h : BS wB w pb dv rv n f L tv U lv left) (hr : rv = .slice (some ⟨rb, 0, none⟩) n rc) : w.cell? ⟨pb, 0 + 2, none⟩ = some (.slice (some ⟨rb, 0, none⟩) n rc) := by
  rw [← hr]; exact cell_of h.cell rfl
theorem rooN_at9 {D : List Df} {f : Nat → Int} {q : Nat} (hq : q < D.length) : (rooN D f)[q]? = some ⟨D[q].name, f q⟩ := by
  unfold rooN
  rw [List.getElem?_map, List.getElem?_range hq]
  simp [List.getD_eq_getElem?_getD, hq]
theorem rooN_take {D : List Df} {f : Nat → Int} {q : Nat} (hq : q < D.length) : (rooN D f).take (q + 1) = (rooN D f).take q ++ [⟨D[q].name, f q⟩] := by
  rw [List.take_add_one, rooN_at9 hq]; rfl
theorem fA_of_flt {D : List Df} {er at_ : Int} (h : flt D = (er, at_)) (he : ¬ er = 0) : fA D = some (er, at_) := by
  cases hf : fA D with
  | none => exact absurd hf (flt_bad h he)
  | some v => rw [flt_some hf] at h; rw [h]

set_option maxHeartbeats 8000000 in
theorem build_spec (D : List Df) (dv : Value) (V : Nat → Value) (w0 : World) (hD : DefR w0 D dv V) (hlim : DOk D) (hnb : ∀ d ∈ D, d.ty.length ≤ 11453246122) : Ca Try.prog 8 #[.agg #[dv]] w0 (fun v w' => ∃ tv rv U, v = .tuple #[.agg #[tv, rv], .agg #[.int .i64 (bldV D).1, .int .i64 (bldV D).2]] ∧ Schs w' w0.heap.size (bldT D) (bldR D) tv rv U ∧ Ext w0 w') := by
  have hlen := hlim.len
  have hD00 := hD
  obtain ⟨fe, fa, hf⟩ : ∃ fe fa, flt D = (fe, fa) := ⟨_, _, rfl⟩
  refine Ca.of Try.func8 Try.ntmps8 rfl rfl ?_
  refine W.seq ?_
  refine W.region ?_
  refine WL.c rfl (o_boxB rfl ?_)
  intro w1 hC1 hx1 hs1
  obtain ⟨b1, hb1⟩ : ∃ b, b = w0.heap.size := ⟨_, rfl⟩
  rw [← hb1] at hC1 ⊢
  replace hC1 : w1.heap[b1]? = some (.cells ([dv]).toArray 25 (0, 0)) := hC1
  have hx := hx1
  replace hD := hD.ext hx1
  refine WL.c rfl (o_alB TI34 ?_)
  have hq2 := hx.size
  intro wb hC2 hxb hsb
  replace hx := hx.tr hxb
  replace hD := hD.ext hxb
  replace hC1 := hxb.blk hC1 (fun h => h)
  obtain ⟨c2, hc2⟩ : ∃ c, c = w1.heap.size := ⟨_, rfl⟩
  rw [← hc2] at hC2 ⊢
  replace hC2 : wb.heap[c2]? = some (.cells #[.slice none 0 0, .slice none 0 0] 34 (0, 0)) := hC2
  have hz2 : w0.heap.size ≤ c2 := by rw [hc2]; exact hq2
  clear hxb
  refine WL.c rfl (o_alB TI28 ?_)
  have hq3 := hx.size
  intro wc hC3 hxb hsb
  replace hx := hx.tr hxb
  replace hD := hD.ext hxb
  replace hC1 := hxb.blk hC1 (fun h => h)
  replace hC2 := hxb.blk hC2 (fun h => h)
  obtain ⟨c3, hc3⟩ : ∃ c, c = wb.heap.size := ⟨_, rfl⟩
  rw [← hc3] at hC3 ⊢
  replace hC3 : wc.heap[c3]? = some (.cells #[.int .i64 0, .int .i64 0] 28 (0, 0)) := hC3
  have hz3 : w0.heap.size ≤ c3 := by rw [hc3]; exact hq3
  clear hxb
  refine WL.nil ?_
  refine W.seq ?_
  refine W.seq ?_
  refine W.region ?_
  refine WL.c rfl (o_ldA TI25 rfl rfl (show Cells _ b1 0 [dv] from Cells.of hC1 0 _ (by simp)) rfl ?_)
  refine WL.c rfl (o_call Try.call28 (lc rfl ln) ((check_spec D dv V _ hD hlim.lim).mono ?_))
  rintro v17 w17 ⟨rfl, hx17⟩
  rw [show rs3 (chkS D) = .tuple #[.int .i64 ((chkS D).1 : Int), .int .i64 ((chkS D).2.1 : Int), .int .i64 ((chkS D).2.2 : Int)] from rfl]
  replace hx := hx.tr hx17
  replace hD := hD.ext hx17
  replace hC1 := hx17.blk hC1 (fun h => h)
  replace hC2 := hx17.blk hC2 (fun h => h)
  replace hC3 := hx17.blk hC3 (fun h => h)
  refine WL.c rfl (o_mvh (by first | exact (show _ = Value.tuple _ from rfl) | exact rfl) ?_)
  refine WL.c rfl (o_ext rfl rfl ?_)
  refine WL.c rfl (o_ext rfl rfl ?_)
  refine WL.c rfl (o_ext rfl rfl ?_)
  refine WL.c rfl (o_ash (show _ = Value.int _ _ from rfl) ?_)
  refine WL.c rfl (o_ash (show _ = Value.int _ _ from rfl) ?_)
  refine WL.c rfl (o_ash (show _ = Value.int _ _ from rfl) ?_)
  refine WL.nil ?_
  refine W.seq ?_
  refine W.region ?_
  refine WL.c rfl (o_mvh (show _ = Value.int _ _ from rfl) ?_)
  refine WL.c rfl (o_ne rfl rfl ?_)
  refine WL.nil ?_
  refine W.cond rfl (fun c22 => ?_) (fun c22 => ?_)
  · try simp only [cs8] at c22
    have hck : ¬ (chkS D).2.2 = 0 := by intro h; simp [h] at c22
    have hb := bld_ck hck
    refine W.seq ?_
    skip
    skip
    refine W.region ?_
    refine WL.c rfl (o_bldC (cs := [(.slice none 0 0), (.slice none 0 0)]) TI34 (Sizes.cons TI31 (Sizes.cons TI32 Sizes.nil)) rfl lnp rfl rfl ?_)
    refine WL.c rfl (o_mvh (show _ = Value.int _ _ from rfl) ?_)
    refine WL.c rfl (o_bldC (cs := [_, (.int .i64 0)]) TI28 (Sizes.cons TI26 (Sizes.cons TI3 Sizes.nil)) rfl (lcp (show _ = Value.int _ _ from rfl) lnp) rfl rfl ?_)
    refine WL.u (o_stA TI34 rfl (show _ = Value.agg #[.slice none 0 0, .slice none 0 0] from rfl) rfl rfl hC2 rfl ?_)
    intro wy hC2y hoy hsy
    replace hC3 := hoy.blk hC3 (blk_ne3 hC3 hC2 (by decide))
    replace hx := hx.trans' hoy (fun _ h => h) (fun b hb he => by omega)
    refine WL.u (o_stA TI28 rfl (show _ = Value.agg #[.int .i64 ((chkS D).2.2 : Int), .int .i64 0] from rfl) rfl rfl hC3 rfl ?_)
    intro wz hC3z hoz hsz
    replace hC2y := hoz.blk hC2y (blk_ne3 hC2y hC3 (by decide))
    replace hx := hx.trans' hoz (fun _ h => h) (fun b hb he => by omega)
    refine WL.nil ?_
    refine W.ret ?_
    refine retAA rfl TI34 rfl TI28 rfl rfl rfl (show Cells _ c2 0 [.slice none 0 0, .slice none 0 0] from Cells.of hC2y 0 _ (by simp)) rfl (show Cells _ c3 0 [.int .i64 ((chkS D).2.2 : Int), .int .i64 0] from Cells.of hC3z 0 _ (by simp)) rfl ?_
    obtain ⟨hv1, hv2⟩ := bldV_of hb
    refine ⟨.slice none 0 0, .slice none 0 0, fun _ => undef, by rw [hv1, hv2], ?_, hx⟩
    rw [(bld_bad hb).1, (bld_bad hb).2]
    exact Schs.nil _ _ _
  try simp only [cs8] at c22
  have hck : (chkS D).2.2 = 0 := by
    have h1 : ((chkS D).2.2 : Int) = 0 := by simpa using c22
    omega
  refine W.skip ?_
  refine W.seq ?_
  refine W.region ?_
  refine WL.c rfl (o_ldA TI25 rfl rfl (show Cells _ b1 0 [dv] from Cells.of hC1 0 _ (by simp)) rfl ?_)
  refine WL.c rfl (o_call Try.call29 (lc rfl ln) ((order_call D dv V _ hD hlim hf).mono ?_))
  rintro v28 w28 ⟨o1, rfl, ho1, hx28⟩
  replace ho1 := own_mono ho1 hx.size
  replace hx := hx.tr hx28
  replace hD := hD.ext hx28
  replace hC1 := hx28.blk hC1 (fun h => h)
  replace hC2 := hx28.blk hC2 (fun h => h)
  replace hC3 := hx28.blk hC3 (fun h => h)
  have hz28 := hx.size
  have hl3 := blk_lt3 hC3
  refine WL.c rfl (o_mvh (by first | exact (show _ = Value.tuple _ from rfl) | exact rfl) ?_)
  refine WL.c rfl (o_ext rfl rfl ?_)
  refine WL.c rfl (o_ext rfl rfl ?_)
  refine WL.c rfl (o_alB TI28 ?_)
  intro wa hCa hxa hsa
  refine WL.c rfl (o_ash (by first | exact (show _ = Value.slice _ _ _ from rfl) | exact rfl) ?_)
  refine WL.u (o_stA TI28 rfl (show _ = Value.agg ([.int .i64 fe, .int .i64 fa]).toArray from rfl) rfl rfl hCa rfl ?_)
  intro wb8 hC8 hob hsb
  have hxb := Ext.own hxa (Nat.le_refl _) hob
  obtain ⟨b8, hb8⟩ : ∃ b, b = w28.heap.size := ⟨_, rfl⟩
  rw [← hb8] at hC8 ⊢
  clear hCa hxa hsa hob hsb
  replace hx := hx.tr hxb
  replace hD := hD.ext hxb
  replace hC1 := hxb.blk hC1 (fun h => h)
  replace hC2 := hxb.blk hC2 (fun h => h)
  replace hC3 := hxb.blk hC3 (fun h => h)
  replace ho1 := own_ext ho1 hxb
  have hz8 : w0.heap.size ≤ b8 := by rw [hb8]; exact hz28
  have hc38 : ¬ c3 = b8 := by rw [hb8]; omega
  clear hxb
  refine WL.nil ?_
  refine W.seq ?_
  refine W.seq ?_
  by_cases hfe : fe = 0
  · skip
    have hfn : fA D = none := flt_good hf hfe
    have hG := good_of hfn
    refine W.region ?_
    refine WL.c rfl (o_fa 0 TI28 rfl TI26 rfl rfl ?_)
    refine WL.c rfl (o_ld TI26 rfl rfl (cell_of hC8 rfl) ?_)
    refine WL.c rfl (o_eq rfl rfl ?_)
    refine WL.nil ?_
    refine W.condT' rfl (by simp [hfe]) ?_
    skip
    skip
    refine W.region ?_
    refine WL.c rfl (o_ldA TI25 rfl rfl (show Cells _ b1 0 [dv] from Cells.of hC1 0 _ (by simp)) rfl ?_)
    refine WL.c rfl (o_call Try.call30 (lc rfl ln) ((bounds_spec D dv V _ hD hlim).mono ?_))
    rintro v35 w35 ⟨rfl, hx35⟩
    replace hx := hx.tr hx35
    replace hD := hD.ext hx35
    replace hC1 := hx35.blk hC1 (fun h => h)
    replace hC2 := hx35.blk hC2 (fun h => h)
    replace hC3 := hx35.blk hC3 (fun h => h)
    replace hC8 := hx35.blk hC8 (fun h => h)
    replace ho1 := own_ext ho1 hx35
    refine WL.u (o_stA TI28 rfl (show _ = Value.agg #[.int .i64 (bndV D).1, .int .i64 (bndV D).2] from rfl) rfl rfl hC8 rfl ?_)
    intro w8n hC8n ho8n hs8n
    replace hC1 := ho8n.blk hC1 (blk_ne3 hC1 hC8 (by decide))
    replace hC2 := ho8n.blk hC2 (blk_ne3 hC2 hC8 (by decide))
    replace hC3 := ho8n.blk hC3 hc38
    replace ho1 := own_only ho1 ho8n (fun k hk e => own_off ho1 hC8 (by decide) (e ▸ hk))
    replace hx := hx.trans' ho8n (fun _ h => h) (fun b hb he => by omega)
    replace hD := hD00.ext hx
    obtain ⟨ge, hge⟩ : ∃ x, x = (bndV D).1 := ⟨_, rfl⟩
    obtain ⟨ga, hga⟩ : ∃ x, x = (bndV D).2 := ⟨_, rfl⟩
    replace hC8 : w8n.heap[b8]? = some (.cells #[.int .i64 ge, .int .i64 ga] 28 (0, 0)) := by rw [hge, hga]; exact hC8n
    refine WL.nil ?_
    refine W.seq ?_
    refine W.seq ?_
    refine W.region ?_
    refine WL.c rfl (o_fa 0 TI28 rfl TI26 rfl rfl ?_)
    refine WL.c rfl (o_ld TI26 rfl rfl (cell_of hC8 rfl) ?_)
    refine WL.c rfl (o_ne rfl rfl ?_)
    refine WL.nil ?_
    refine W.cond rfl (fun c38 => ?_) (fun c38 => ?_)
    · try simp only [cs8] at c38
      have hne : ¬ ge = 0 := by simpa using c38
      rw [hge] at hne
      have hb : bldF D = some (ge, ga) := by rw [hge, hga]; exact bld_bnd hck hfn (bndV_some hne)
      refine W.seq ?_
      skip
      skip
      refine W.cut (fun e1 w1 => e1 2 = .pointer (some ⟨c2, 0, none⟩) ∧ e1 3 = .pointer (some ⟨c3, 0, none⟩) ∧ w1.heap[c2]? = some (.cells #[.slice none 0 0, .slice none 0 0] 34 (0, 0)) ∧ w1.heap[c3]? = some (.cells #[.int .i64 ge, .int .i64 ga] 28 (0, 0)) ∧ Ext w0 w1) ?_ ?_
      · -- region 8
        refine W.enum rfl ?_
        have hd := Only.drew w8n
        replace hC2 := hd.blk hC2 (fun h => h)
        replace hC3 := hd.blk hC3 (fun h => h)
        replace hC8 := hd.blk hC8 (fun h => h)
        replace hx := hx.tr hd
        clear hd
        generalize w8n.drew = wd at *
        refine WA.step (r := [0, 1]) (by kernel_rfl) (by decide) (all2 ?_ ?_)
        · skip
          refine WO.c rfl rfl (o_bldC (cs := [(.slice none 0 0), (.slice none 0 0)]) TI34 (Sizes.cons TI31 (Sizes.cons TI32 Sizes.nil)) rfl lnp rfl rfl ?_)
          refine WA.step (r := [1, 2]) (by kernel_rfl) (by decide) (all2 ?_ ?_)
          · skip
            refine WO.c rfl rfl (o_ldA TI28 rfl rfl (show Cells _ b8 0 [.int .i64 ge, .int .i64 ga] from Cells.of hC8 0 _ (by simp)) rfl ?_)
            refine WA.step (r := [2]) (by kernel_rfl) (by decide) (all1 ?_)
            refine WO.u rfl (o_stA TI34 rfl (show _ = Value.agg #[.slice none 0 0, .slice none 0 0] from rfl) rfl rfl hC2 rfl ?_)
            intro wy hC2y hoy hsy
            replace hC3 := hoy.blk hC3 (blk_ne3 hC3 hC2 (by decide))
            replace hC8 := hoy.blk hC8 (blk_ne3 hC8 hC2 (by decide))
            replace hx := hx.trans' hoy (fun _ h => h) (fun b hb he => by omega)
            replace hC2 : wy.heap[c2]? = some (.cells #[.slice none 0 0, .slice none 0 0] 34 (0, 0)) := hC2y
            refine WA.step (r := [3]) (by kernel_rfl) (by decide) (all1 ?_)
            refine WO.u rfl (o_stA TI28 rfl (show _ = Value.agg #[.int .i64 ge, .int .i64 ga] from rfl) rfl rfl hC3 rfl ?_)
            intro wz hC3z hoz hsz
            replace hC2 := hoz.blk hC2 (blk_ne3 hC2 hC3 (by decide))
            replace hx := hx.trans' hoz (fun _ h => h) (fun b hb he => by omega)
            replace hC3 : wz.heap[c3]? = some (.cells #[.int .i64 ge, .int .i64 ga] 28 (0, 0)) := hC3z
            refine WA.done (by kernel_rfl) ?_
            exact ⟨rfl, rfl, hC2, hC3, hx⟩
          skip
          refine WO.u rfl (o_stA TI34 rfl (show _ = Value.agg #[.slice none 0 0, .slice none 0 0] from rfl) rfl rfl hC2 rfl ?_)
          intro wy hC2y hoy hsy
          replace hC3 := hoy.blk hC3 (blk_ne3 hC3 hC2 (by decide))
          replace hC8 := hoy.blk hC8 (blk_ne3 hC8 hC2 (by decide))
          replace hx := hx.trans' hoy (fun _ h => h) (fun b hb he => by omega)
          replace hC2 : wy.heap[c2]? = some (.cells #[.slice none 0 0, .slice none 0 0] 34 (0, 0)) := hC2y
          refine WA.step (r := [1]) (by kernel_rfl) (by decide) (all1 ?_)
          refine WO.c rfl rfl (o_ldA TI28 rfl rfl (show Cells _ b8 0 [.int .i64 ge, .int .i64 ga] from Cells.of hC8 0 _ (by simp)) rfl ?_)
          refine WA.step (r := [3]) (by kernel_rfl) (by decide) (all1 ?_)
          refine WO.u rfl (o_stA TI28 rfl (show _ = Value.agg #[.int .i64 ge, .int .i64 ga] from rfl) rfl rfl hC3 rfl ?_)
          intro wz hC3z hoz hsz
          replace hC2 := hoz.blk hC2 (blk_ne3 hC2 hC3 (by decide))
          replace hx := hx.trans' hoz (fun _ h => h) (fun b hb he => by omega)
          replace hC3 : wz.heap[c3]? = some (.cells #[.int .i64 ge, .int .i64 ga] 28 (0, 0)) := hC3z
          refine WA.done (by kernel_rfl) ?_
          exact ⟨rfl, rfl, hC2, hC3, hx⟩
        skip
        refine WO.c rfl rfl (o_ldA TI28 rfl rfl (show Cells _ b8 0 [.int .i64 ge, .int .i64 ga] from Cells.of hC8 0 _ (by simp)) rfl ?_)
        refine WA.step (r := [0]) (by kernel_rfl) (by decide) (all1 ?_)
        refine WO.c rfl rfl (o_bldC (cs := [(.slice none 0 0), (.slice none 0 0)]) TI34 (Sizes.cons TI31 (Sizes.cons TI32 Sizes.nil)) rfl lnp rfl rfl ?_)
        refine WA.step (r := [2]) (by kernel_rfl) (by decide) (all1 ?_)
        refine WO.u rfl (o_stA TI34 rfl (show _ = Value.agg #[.slice none 0 0, .slice none 0 0] from rfl) rfl rfl hC2 rfl ?_)
        intro wy hC2y hoy hsy
        replace hC3 := hoy.blk hC3 (blk_ne3 hC3 hC2 (by decide))
        replace hC8 := hoy.blk hC8 (blk_ne3 hC8 hC2 (by decide))
        replace hx := hx.trans' hoy (fun _ h => h) (fun b hb he => by omega)
        replace hC2 : wy.heap[c2]? = some (.cells #[.slice none 0 0, .slice none 0 0] 34 (0, 0)) := hC2y
        refine WA.step (r := [3]) (by kernel_rfl) (by decide) (all1 ?_)
        refine WO.u rfl (o_stA TI28 rfl (show _ = Value.agg #[.int .i64 ge, .int .i64 ga] from rfl) rfl rfl hC3 rfl ?_)
        intro wz hC3z hoz hsz
        replace hC2 := hoz.blk hC2 (blk_ne3 hC2 hC3 (by decide))
        replace hx := hx.trans' hoz (fun _ h => h) (fun b hb he => by omega)
        replace hC3 : wz.heap[c3]? = some (.cells #[.int .i64 ge, .int .i64 ga] 28 (0, 0)) := hC3z
        refine WA.done (by kernel_rfl) ?_
        exact ⟨rfl, rfl, hC2, hC3, hx⟩
      rintro e w ⟨h2, h3, hC2y, hC3z, hx⟩
      refine W.ret ?_
      refine retAA rfl TI34 rfl TI28 rfl h2 h3 (show Cells _ c2 0 [.slice none 0 0, .slice none 0 0] from Cells.of hC2y 0 _ (by simp)) rfl (show Cells _ c3 0 [.int .i64 ge, .int .i64 ga] from Cells.of hC3z 0 _ (by simp)) rfl ?_
      obtain ⟨hv1, hv2⟩ := bldV_of hb
      refine ⟨.slice none 0 0, .slice none 0 0, fun _ => undef, by rw [hv1, hv2], ?_, hx⟩
      rw [(bld_bad hb).1, (bld_bad hb).2]
      exact Schs.nil _ _ _
    try simp only [cs8] at c38
    have hbn : bndF D = none := bndV_iff.1 (by rw [← hge]; simpa using c38)
    refine W.skip ?_
    refine W.seq ?_
    obtain ⟨wd, hwd⟩ : ∃ wd, wd = w8n.drew := ⟨_, rfl⟩
    have hxd : Ext w8n wd := hwd ▸ Only.drew w8n
    replace hx := hx.tr hxd
    replace hD := hD.ext hxd
    replace hC1 := hxd.blk hC1 (fun h => h)
    replace hC2 := hxd.blk hC2 (fun h => h)
    replace hC3 := hxd.blk hC3 (fun h => h)
    replace ho1 := own_ext ho1 hxd
    rw [ordR_ok hfn] at ho1
    have h256 := hG.trd.n
    obtain ⟨hto, htl⟩ := hG.ord
    have hbl : bldF D = none := bldF_none.2 ⟨hck, hfn, hbn⟩
    have hzd : w0.heap.size ≤ wd.heap.size := hx.size
    have ho1l : ∀ k, o1.ownBlock = some k → k < wd.heap.size := fun k hk => (ho1.lt k hk).2
    refine W.drawT 5 (Ext) [(1, fun v _ => v = _), (2, fun v _ => v = _), (3, fun v _ => v = _), (7, fun v _ => v = (o1))] rfl (by kernel_rfl) (Only.refl No) (fun _ _ _ h k => h.trans k) ⟨Mono.eq, Mono.eq, Mono.eq, Mono.eq, trivial⟩ ⟨rfl, rfl, rfl, rfl, trivial⟩ ?_
    refine WD.p rfl (fun e w hR hh => by obtain ⟨h1, -⟩ := hh; rw [← hwd] at hR; exact SG.n (o_ldA TI25 rfl h1 (show Cells _ b1 0 [dv] from Cells.of (hR.blk hC1 (fun h => h)) 0 _ (by simp)) rfl ⟨rfl, Only.refl No _⟩)) ?_
    refine WD.p rfl (fun e w hR hh => by obtain ⟨h1, -⟩ := hh; exact SG.n (o_fa 0 TI25 rfl TI23 rfl h1 ⟨rfl, Only.refl No _⟩)) ?_
    refine WD.p rfl (fun e w hR hh => by obtain ⟨h42, -⟩ := hh; rw [← hwd] at hR; exact SG.n (o_ld TI23 rfl h42 (cell_of (hR.blk hC1 (fun h => h)) rfl) ⟨rfl, Only.refl No _⟩)) ?_
    refine WD.p rfl (fun e w hR hh => by obtain ⟨h43, -⟩ := hh; rw [← hwd] at hR; exact SG.n (o_lenR TI23 h43 (hD.ext hR).row ⟨rfl, Only.refl No _⟩)) ?_
    refine WD.q (fun v w => w.ownsRow wd.heap.size 3 1 v D.length (zvs D.length (fun _ => 0))) (fun v w w2 hR hh => own_ext hh hR) rfl (fun e w hR hh => by obtain ⟨h44, -⟩ := hh; rw [← hwd] at hR; exact SG.n (o_mk2 TI79 TI3 (l := D.length) (n := D.length) h44 h44 (Nat.le_refl _) (by omega) (by omega) ⟨by rw [zvs_zero]; exact own_mono (own_made1 rfl (Nat.le_refl _) (by omega)) hR.size, Only.alloc w _⟩)) ?_
    rintro e w hR ⟨h45, h44, h43, h42, h41, h1, h2, h3, h7, -⟩
    rw [← hwd] at hR
    replace hx := hx.tr hR
    replace hD := hD.ext hR
    replace hC1 := hR.blk hC1 (fun h => h)
    replace hC2 := hR.blk hC2 (fun h => h)
    replace hC3 := hR.blk hC3 (fun h => h)
    replace ho1 := own_ext ho1 hR
    obtain ⟨rv, hrv⟩ : ∃ v, v = e 45 := ⟨_, rfl⟩
    rw [← hrv] at h45
    have hrvl : ∀ k, rv.ownBlock = some k → wd.heap.size ≤ k := fun k hk => (h45.lt k hk).1
    have hq47 := hx.size
    refine WL.c rfl (o_bld (cells := #[dv, .slice none 0 0, rv, .slice none 0 0]) (vs := [(0, .agg #[dv]), (2, rv)]) TI85 (Sizes.cons TI25 (Sizes.cons TI31 (Sizes.cons TI79 (Sizes.cons TI37 Sizes.nil)))) (lcp h41 (lcp hrv.symm lnp)) (bfill (own_cells h45)) ?_)
    refine WL.c rfl (o_boxB rfl ?_)
    intro w47 hC47 hx47 hs47
    obtain ⟨b47, hb47⟩ : ∃ b, b = w.heap.size := ⟨_, rfl⟩
    rw [← hb47] at hC47 ⊢
    replace hC47 : w47.heap[b47]? = some (.cells ([dv, .slice none 0 0, rv, .slice none 0 0]).toArray 85 (0, 0)) := hC47
    replace hx := hx.tr hx47
    replace hD := hD.ext hx47
    replace hC1 := hx47.blk hC1 (fun h => h)
    replace hC2 := hx47.blk hC2 (fun h => h)
    replace hC3 := hx47.blk hC3 (fun h => h)
    replace ho1 := own_ext ho1 hx47
    replace h45 := own_ext h45 hx47
    have hz47 : w0.heap.size ≤ b47 := by rw [hb47]; exact hq47
    refine WL.c rfl (o_ash (by first | exact (show _ = Value.pointer _ from rfl) | exact rfl) ?_)
    refine WL.nil ?_
    refine W.seq ?_
    refine W.seq ?_
    refine W.region ?_
    refine WL.c rfl (o_mvh h7 ?_)
    refine WL.c rfl (o_lenR TI79 rfl (Sl.own ho1) ?_)
    refine WL.c rfl (o_mvh (show _ = Value.int _ _ from rfl) ?_)
    refine WL.nil ?_
    refine W.block ?_
    refine W.loop (fun e w => ∃ (k : Nat) (tv : Value) (U : Nat → Value) (lv : Value) (left : List Ex), k ≤ (ordN D).length ∧ e 1 = .pointer (some ⟨b1, 0, none⟩) ∧ e 2 = .pointer (some ⟨c2, 0, none⟩) ∧ e 3 = .pointer (some ⟨c3, 0, none⟩) ∧ e 9 = .pointer (some ⟨b47, 0, none⟩) ∧ e 48 = o1 ∧ e 49 = .int .i64 ((ordN D).length : Int) ∧ e 50 = .int .i64 (k : Int) ∧ BS w0 w b47 dv rv D.length (mkS D k).1 (mkS D k).2 tv U lv left ∧ w.ownsRow w0.heap.size 3 1 o1 (ordN D).length ((ordN D).map iv) ∧ w.heap[b1]? = some (.cells #[dv] 25 (0, 0)) ∧ w.heap[c2]? = some (.cells #[.slice none 0 0, .slice none 0 0] 34 (0, 0)) ∧ w.heap[c3]? = some (.cells #[.int .i64 0, .int .i64 0] 28 (0, 0)) ∧ (mkS D k).2.length ≤ k * 11453246122) (fun e w => (ordN D).length - (intOf (e 50)).toNat) ?_ ?_
    · exact ⟨0, .slice none 0 0, fun _ => undef, .slice none 0 0, [], Nat.zero_le _, h1, h2, h3, rfl, rfl, rfl, rfl, ⟨hC47, Typs.nil _ _ _, own_mono h45 hzd, Sl.nil _ _, hx, hz47⟩, ho1, hC1, hC2, hC3, Nat.zero_le _⟩
    rintro e w ⟨k, tv, U, lv, left, hk, h1, h2, h3, h9, h48, h49, h50, hS, ho1, hC1, hC2, hC3, hln⟩
    have hm50 := h50
    refine W.seq ?_
    refine W.region ?_
    refine WL.c rfl (o_lt h50 h49 ?_)
    refine WL.nil ?_
    refine W.seq ?_
    refine W.cond rfl (fun c51 => ?_) (fun c51 => ?_)
    · try simp only [cs8] at c51
      have hk1 : k < (ordN D).length := by omega
      have hi : (ordN D)[k] < D.length := hto.lt _ (List.getElem_mem hk1)
      obtain ⟨ub, uo, uc, hV, hcell⟩ := Sl.at1 (Sl.own ho1) hk1 (u := iv (ordN D)[k]) (by rw [List.getElem?_map, List.getElem?_eq_getElem hk1]; rfl)
      rw [hV] at h48
      obtain ⟨i, hie⟩ : ∃ i, i = (ordN D)[k] := ⟨_, rfl⟩
      rw [← hie] at hi hcell
      have hDk := hD00.ext hS.ex
      obtain ⟨gb, go, gc, hdv, hgc, hty⟩ := hDk.atk hi
      have hC1s := hC1
      rw [hdv] at hC1s
      have hlf : Sl w0 7 (V i) ((TD D i).flat ++ []).length (exs ((TD D i).flat ++ [])) := by rw [List.append_nil, hG.trd.fl i hi]; exact hD00.tys i hi
      refine W.skip ?_
      refine W.seq ?_
      refine W.block ?_
      refine W.seq ?_
      refine W.region ?_
      refine WL.c rfl (o_ixB (i := k) TI79 TI3 h48 h50 (by omega) ?_)
      refine WL.c rfl (o_ld TI3 rfl rfl (show World.cell? _ _ = some (.int .i64 (i : Int)) from hcell) ?_)
      refine WL.c rfl (o_ash (show _ = Value.int _ _ from rfl) ?_)
      refine WL.nil ?_
      refine W.seq ?_
      have hScell := hS.cell
      have hSoff : ∀ {c : Nat} {cs : Array Value} {T : TypeId} {fr : Nat × Nat}, w.heap[c]? = some (.cells cs T fr) → ¬ T = 85 → ¬ c = b47 := fun hc hT => blk_ne3 hc hScell hT
      refine W.region ?_
      refine WL.c rfl (o_mvh h9 ?_)
      refine WL.c rfl (o_fa 0 TI25 rfl TI23 rfl h1 ?_)
      refine WL.c rfl (o_ld TI23 rfl rfl (cell_of hC1s rfl) ?_)
      refine WL.c rfl (o_mvh (show _ = Value.int _ _ from rfl) ?_)
      refine WL.c rfl (o_ixB (i := i) TI23 TI39 (show _ = Value.slice (some ⟨gb, go, none⟩) D.length gc from rfl) (show _ = Value.int .i64 (i : Int) from rfl) (by omega) ?_)
      refine WL.c rfl (o_fa 2 TI39 rfl TI37 rfl rfl ?_)
      refine WL.c rfl (o_ld TI37 rfl rfl (hgc 2 _ rfl) ?_)
      refine WL.c rfl (o_nil rfl ?_)
      refine WL.c rfl (o_fa 3 TI85 rfl TI37 rfl rfl ?_)
      refine WL.u (o_stB TI37 rfl (show _ = V i from rfl) (sl_one1 hty) hS.cell (show 3 < 4 by decide) ?_)
      intro w62 hB62 ho62 hs62
      replace hS := hS.left hB62 ho62 hlf
      replace ho1 := own_only ho1 ho62 (fun k hk e => by subst e; exact own_off ho1 hScell (by decide) hk)
      replace hC1 := ho62.blk hC1 (fun e => (hSoff hC1 (by decide) e).elim)
      replace hC2 := ho62.blk hC2 (fun e => (hSoff hC2 (by decide) e).elim)
      replace hC3 := ho62.blk hC3 (fun e => (hSoff hC3 (by decide) e).elim)
      refine WL.nil ?_
      obtain ⟨wq, hwq⟩ : ∃ wq, wq = w62.drew := ⟨_, rfl⟩
      have hxq : Ext w62 wq := hwq ▸ Only.drew w62
      replace hS := hS.ext hxq
      replace ho1 := own_ext ho1 hxq
      replace hC1 := hxq.blk hC1 (fun h => h)
      replace hC2 := hxq.blk hC2 (fun h => h)
      replace hC3 := hxq.blk hC3 (fun h => h)
      have hwf := hG.trd.wf i hi
      have hfl := hG.trd.fl i hi
      rw [tyD_at hi] at hfl
      have hflen : (TD D i).flat.length ≤ 11453246122 := by rw [hfl]; exact hnb _ (List.getElem_mem hi)
      obtain ⟨r, hr⟩ : ∃ r, r = mkT (fun nm => (mkS D k).1 (whD D nm)) (TD D i) (mkS D k).2 := ⟨_, rfl⟩
      have hcall := fun w9 (hR : Ext wq w9) => bexpr_all w0 b47 D dv rv V (mkS D k).1 2932031007402 hD00 hlen (Nat.le_refl _) _ (TD D i) (Nat.le_refl _) [] (mkS D k).2 tv U (V i) 0 0 w9 hwf (hS.ext hR) (fun x hx h9 => hG.kn _ (List.getElem_mem hi) x (by rw [← hfl]; exact hx) h9) (fun x hx => hlim.ex _ (List.getElem_mem hi) x (by rw [← hfl]; exact hx)) (by have := h256; omega) (by rw [List.append_nil, hfl]; exact hlim.ty _ (List.getElem_mem hi))
      rw [← hr] at hcall
      have hrl : r.2.length ≤ (mkS D k).2.length + (TD D i).flat.length := by
        obtain ⟨M, hM, hMl⟩ := mkT_pre (fun nm => (mkS D k).1 (whD D nm)) (TD D i) (mkS D k).2 (wf_leafy _ _ _ hwf)
        have hcn : cntN (TD D i).flat ≤ (TD D i).flat.length := List.length_filter_le _ _
        rw [hr, hM, List.length_append]; omega
      obtain ⟨rb, rc, hrvE, hrvb⟩ := own_some hS.ro (by omega)
      refine W.states (fun kS e w => match kS with | 0 => e 1 = (.pointer (some ⟨b1, 0, none⟩)) ∧ e 2 = (.pointer (some ⟨c2, 0, none⟩)) ∧ e 3 = (.pointer (some ⟨c3, 0, none⟩)) ∧ e 9 = (.pointer (some ⟨b47, 0, none⟩)) ∧ e 11 = (.int .i64 (i : Int)) ∧ e 48 = (.slice (some ⟨ub, uo, none⟩) (ordN D).length uc) ∧ e 49 = (.int .i64 ((ordN D).length : Int)) ∧ e 50 = (.int .i64 (k : Int)) ∧ Ext wq w | 1 => e 1 = (.pointer (some ⟨b1, 0, none⟩)) ∧ e 2 = (.pointer (some ⟨c2, 0, none⟩)) ∧ e 3 = (.pointer (some ⟨c3, 0, none⟩)) ∧ e 9 = (.pointer (some ⟨b47, 0, none⟩)) ∧ e 11 = (.int .i64 (i : Int)) ∧ e 48 = (.slice (some ⟨ub, uo, none⟩) (ordN D).length uc) ∧ e 49 = (.int .i64 ((ordN D).length : Int)) ∧ e 50 = (.int .i64 (k : Int)) ∧ e 63 = (.pointer (some ⟨b47, 0, none⟩)) ∧ Ext wq w | 2 => e 1 = (.pointer (some ⟨b1, 0, none⟩)) ∧ e 2 = (.pointer (some ⟨c2, 0, none⟩)) ∧ e 3 = (.pointer (some ⟨c3, 0, none⟩)) ∧ e 9 = (.pointer (some ⟨b47, 0, none⟩)) ∧ e 11 = (.int .i64 (i : Int)) ∧ e 48 = (.slice (some ⟨ub, uo, none⟩) (ordN D).length uc) ∧ e 49 = (.int .i64 ((ordN D).length : Int)) ∧ e 50 = (.int .i64 (k : Int)) ∧ e 67 = (.int .i64 (i : Int)) ∧ Ext wq w | 3 => e 1 = (.pointer (some ⟨b1, 0, none⟩)) ∧ e 2 = (.pointer (some ⟨c2, 0, none⟩)) ∧ e 3 = (.pointer (some ⟨c3, 0, none⟩)) ∧ e 9 = (.pointer (some ⟨b47, 0, none⟩)) ∧ e 11 = (.int .i64 (i : Int)) ∧ e 48 = (.slice (some ⟨ub, uo, none⟩) (ordN D).length uc) ∧ e 49 = (.int .i64 ((ordN D).length : Int)) ∧ e 50 = (.int .i64 (k : Int)) ∧ e 68 = (.pointer (some ⟨b47, 0, none⟩)) ∧ Ext wq w | 4 => e 1 = (.pointer (some ⟨b1, 0, none⟩)) ∧ e 2 = (.pointer (some ⟨c2, 0, none⟩)) ∧ e 3 = (.pointer (some ⟨c3, 0, none⟩)) ∧ e 9 = (.pointer (some ⟨b47, 0, none⟩)) ∧ e 11 = (.int .i64 (i : Int)) ∧ e 48 = (.slice (some ⟨ub, uo, none⟩) (ordN D).length uc) ∧ e 49 = (.int .i64 ((ordN D).length : Int)) ∧ e 50 = (.int .i64 (k : Int)) ∧ e 63 = (.pointer (some ⟨b47, 0, none⟩)) ∧ e 64 = (.pointer (some ⟨b47, 0, none⟩)) ∧ Ext wq w | 5 => e 1 = (.pointer (some ⟨b1, 0, none⟩)) ∧ e 2 = (.pointer (some ⟨c2, 0, none⟩)) ∧ e 3 = (.pointer (some ⟨c3, 0, none⟩)) ∧ e 9 = (.pointer (some ⟨b47, 0, none⟩)) ∧ e 11 = (.int .i64 (i : Int)) ∧ e 48 = (.slice (some ⟨ub, uo, none⟩) (ordN D).length uc) ∧ e 49 = (.int .i64 ((ordN D).length : Int)) ∧ e 50 = (.int .i64 (k : Int)) ∧ e 63 = (.pointer (some ⟨b47, 0, none⟩)) ∧ e 67 = (.int .i64 (i : Int)) ∧ Ext wq w | 6 => e 1 = (.pointer (some ⟨b1, 0, none⟩)) ∧ e 2 = (.pointer (some ⟨c2, 0, none⟩)) ∧ e 3 = (.pointer (some ⟨c3, 0, none⟩)) ∧ e 9 = (.pointer (some ⟨b47, 0, none⟩)) ∧ e 11 = (.int .i64 (i : Int)) ∧ e 48 = (.slice (some ⟨ub, uo, none⟩) (ordN D).length uc) ∧ e 49 = (.int .i64 ((ordN D).length : Int)) ∧ e 50 = (.int .i64 (k : Int)) ∧ e 63 = (.pointer (some ⟨b47, 0, none⟩)) ∧ e 68 = (.pointer (some ⟨b47, 0, none⟩)) ∧ Ext wq w | 7 => e 1 = (.pointer (some ⟨b1, 0, none⟩)) ∧ e 2 = (.pointer (some ⟨c2, 0, none⟩)) ∧ e 3 = (.pointer (some ⟨c3, 0, none⟩)) ∧ e 9 = (.pointer (some ⟨b47, 0, none⟩)) ∧ e 11 = (.int .i64 (i : Int)) ∧ e 48 = (.slice (some ⟨ub, uo, none⟩) (ordN D).length uc) ∧ e 49 = (.int .i64 ((ordN D).length : Int)) ∧ e 50 = (.int .i64 (k : Int)) ∧ e 67 = (.int .i64 (i : Int)) ∧ e 68 = (.pointer (some ⟨b47, 0, none⟩)) ∧ Ext wq w | 8 => e 1 = (.pointer (some ⟨b1, 0, none⟩)) ∧ e 2 = (.pointer (some ⟨c2, 0, none⟩)) ∧ e 3 = (.pointer (some ⟨c3, 0, none⟩)) ∧ e 9 = (.pointer (some ⟨b47, 0, none⟩)) ∧ e 11 = (.int .i64 (i : Int)) ∧ e 48 = (.slice (some ⟨ub, uo, none⟩) (ordN D).length uc) ∧ e 49 = (.int .i64 ((ordN D).length : Int)) ∧ e 50 = (.int .i64 (k : Int)) ∧ e 68 = (.pointer (some ⟨b47, 0, none⟩)) ∧ e 69 = (.int .i64 r.1) ∧ (∃ tv' U' lv', BS w0 w b47 dv rv D.length (mkS D k).1 r.2 tv' U' lv' [] ∧ w.ownsRow w0.heap.size 3 1 o1 (ordN D).length ((ordN D).map iv) ∧ w.heap[b1]? = some (.cells #[dv] 25 (0, 0)) ∧ w.heap[c2]? = some (.cells #[.slice none 0 0, .slice none 0 0] 34 (0, 0)) ∧ w.heap[c3]? = some (.cells #[.int .i64 0, .int .i64 0] 28 (0, 0))) | 9 => e 1 = (.pointer (some ⟨b1, 0, none⟩)) ∧ e 2 = (.pointer (some ⟨c2, 0, none⟩)) ∧ e 3 = (.pointer (some ⟨c3, 0, none⟩)) ∧ e 9 = (.pointer (some ⟨b47, 0, none⟩)) ∧ e 11 = (.int .i64 (i : Int)) ∧ e 48 = (.slice (some ⟨ub, uo, none⟩) (ordN D).length uc) ∧ e 49 = (.int .i64 ((ordN D).length : Int)) ∧ e 50 = (.int .i64 (k : Int)) ∧ e 63 = (.pointer (some ⟨b47, 0, none⟩)) ∧ e 64 = (.pointer (some ⟨b47, 0, none⟩)) ∧ e 65 = (.pointer (some ⟨b47, 0 + 2, none⟩)) ∧ Ext wq w | 10 => e 1 = (.pointer (some ⟨b1, 0, none⟩)) ∧ e 2 = (.pointer (some ⟨c2, 0, none⟩)) ∧ e 3 = (.pointer (some ⟨c3, 0, none⟩)) ∧ e 9 = (.pointer (some ⟨b47, 0, none⟩)) ∧ e 11 = (.int .i64 (i : Int)) ∧ e 48 = (.slice (some ⟨ub, uo, none⟩) (ordN D).length uc) ∧ e 49 = (.int .i64 ((ordN D).length : Int)) ∧ e 50 = (.int .i64 (k : Int)) ∧ e 63 = (.pointer (some ⟨b47, 0, none⟩)) ∧ e 64 = (.pointer (some ⟨b47, 0, none⟩)) ∧ e 67 = (.int .i64 (i : Int)) ∧ Ext wq w | 11 => e 1 = (.pointer (some ⟨b1, 0, none⟩)) ∧ e 2 = (.pointer (some ⟨c2, 0, none⟩)) ∧ e 3 = (.pointer (some ⟨c3, 0, none⟩)) ∧ e 9 = (.pointer (some ⟨b47, 0, none⟩)) ∧ e 11 = (.int .i64 (i : Int)) ∧ e 48 = (.slice (some ⟨ub, uo, none⟩) (ordN D).length uc) ∧ e 49 = (.int .i64 ((ordN D).length : Int)) ∧ e 50 = (.int .i64 (k : Int)) ∧ e 63 = (.pointer (some ⟨b47, 0, none⟩)) ∧ e 64 = (.pointer (some ⟨b47, 0, none⟩)) ∧ e 68 = (.pointer (some ⟨b47, 0, none⟩)) ∧ Ext wq w | 12 => e 1 = (.pointer (some ⟨b1, 0, none⟩)) ∧ e 2 = (.pointer (some ⟨c2, 0, none⟩)) ∧ e 3 = (.pointer (some ⟨c3, 0, none⟩)) ∧ e 9 = (.pointer (some ⟨b47, 0, none⟩)) ∧ e 11 = (.int .i64 (i : Int)) ∧ e 48 = (.slice (some ⟨ub, uo, none⟩) (ordN D).length uc) ∧ e 49 = (.int .i64 ((ordN D).length : Int)) ∧ e 50 = (.int .i64 (k : Int)) ∧ e 63 = (.pointer (some ⟨b47, 0, none⟩)) ∧ e 67 = (.int .i64 (i : Int)) ∧ e 68 = (.pointer (some ⟨b47, 0, none⟩)) ∧ Ext wq w | 13 => e 1 = (.pointer (some ⟨b1, 0, none⟩)) ∧ e 2 = (.pointer (some ⟨c2, 0, none⟩)) ∧ e 3 = (.pointer (some ⟨c3, 0, none⟩)) ∧ e 9 = (.pointer (some ⟨b47, 0, none⟩)) ∧ e 11 = (.int .i64 (i : Int)) ∧ e 48 = (.slice (some ⟨ub, uo, none⟩) (ordN D).length uc) ∧ e 49 = (.int .i64 ((ordN D).length : Int)) ∧ e 50 = (.int .i64 (k : Int)) ∧ e 63 = (.pointer (some ⟨b47, 0, none⟩)) ∧ e 68 = (.pointer (some ⟨b47, 0, none⟩)) ∧ e 69 = (.int .i64 r.1) ∧ (∃ tv' U' lv', BS w0 w b47 dv rv D.length (mkS D k).1 r.2 tv' U' lv' [] ∧ w.ownsRow w0.heap.size 3 1 o1 (ordN D).length ((ordN D).map iv) ∧ w.heap[b1]? = some (.cells #[dv] 25 (0, 0)) ∧ w.heap[c2]? = some (.cells #[.slice none 0 0, .slice none 0 0] 34 (0, 0)) ∧ w.heap[c3]? = some (.cells #[.int .i64 0, .int .i64 0] 28 (0, 0))) | 14 => e 1 = (.pointer (some ⟨b1, 0, none⟩)) ∧ e 2 = (.pointer (some ⟨c2, 0, none⟩)) ∧ e 3 = (.pointer (some ⟨c3, 0, none⟩)) ∧ e 9 = (.pointer (some ⟨b47, 0, none⟩)) ∧ e 11 = (.int .i64 (i : Int)) ∧ e 48 = (.slice (some ⟨ub, uo, none⟩) (ordN D).length uc) ∧ e 49 = (.int .i64 ((ordN D).length : Int)) ∧ e 50 = (.int .i64 (k : Int)) ∧ e 67 = (.int .i64 (i : Int)) ∧ e 68 = (.pointer (some ⟨b47, 0, none⟩)) ∧ e 69 = (.int .i64 r.1) ∧ (∃ tv' U' lv', BS w0 w b47 dv rv D.length (mkS D k).1 r.2 tv' U' lv' [] ∧ w.ownsRow w0.heap.size 3 1 o1 (ordN D).length ((ordN D).map iv) ∧ w.heap[b1]? = some (.cells #[dv] 25 (0, 0)) ∧ w.heap[c2]? = some (.cells #[.slice none 0 0, .slice none 0 0] 34 (0, 0)) ∧ w.heap[c3]? = some (.cells #[.int .i64 0, .int .i64 0] 28 (0, 0))) | 15 => e 1 = (.pointer (some ⟨b1, 0, none⟩)) ∧ e 2 = (.pointer (some ⟨c2, 0, none⟩)) ∧ e 3 = (.pointer (some ⟨c3, 0, none⟩)) ∧ e 9 = (.pointer (some ⟨b47, 0, none⟩)) ∧ e 11 = (.int .i64 (i : Int)) ∧ e 48 = (.slice (some ⟨ub, uo, none⟩) (ordN D).length uc) ∧ e 49 = (.int .i64 ((ordN D).length : Int)) ∧ e 50 = (.int .i64 (k : Int)) ∧ e 63 = (.pointer (some ⟨b47, 0, none⟩)) ∧ e 64 = (.pointer (some ⟨b47, 0, none⟩)) ∧ e 65 = (.pointer (some ⟨b47, 0 + 2, none⟩)) ∧ e 66 = (.slice (some ⟨rb, 0, none⟩) D.length rc) ∧ Ext wq w | 16 => e 1 = (.pointer (some ⟨b1, 0, none⟩)) ∧ e 2 = (.pointer (some ⟨c2, 0, none⟩)) ∧ e 3 = (.pointer (some ⟨c3, 0, none⟩)) ∧ e 9 = (.pointer (some ⟨b47, 0, none⟩)) ∧ e 11 = (.int .i64 (i : Int)) ∧ e 48 = (.slice (some ⟨ub, uo, none⟩) (ordN D).length uc) ∧ e 49 = (.int .i64 ((ordN D).length : Int)) ∧ e 50 = (.int .i64 (k : Int)) ∧ e 63 = (.pointer (some ⟨b47, 0, none⟩)) ∧ e 64 = (.pointer (some ⟨b47, 0, none⟩)) ∧ e 65 = (.pointer (some ⟨b47, 0 + 2, none⟩)) ∧ e 67 = (.int .i64 (i : Int)) ∧ Ext wq w | 17 => e 1 = (.pointer (some ⟨b1, 0, none⟩)) ∧ e 2 = (.pointer (some ⟨c2, 0, none⟩)) ∧ e 3 = (.pointer (some ⟨c3, 0, none⟩)) ∧ e 9 = (.pointer (some ⟨b47, 0, none⟩)) ∧ e 11 = (.int .i64 (i : Int)) ∧ e 48 = (.slice (some ⟨ub, uo, none⟩) (ordN D).length uc) ∧ e 49 = (.int .i64 ((ordN D).length : Int)) ∧ e 50 = (.int .i64 (k : Int)) ∧ e 63 = (.pointer (some ⟨b47, 0, none⟩)) ∧ e 64 = (.pointer (some ⟨b47, 0, none⟩)) ∧ e 65 = (.pointer (some ⟨b47, 0 + 2, none⟩)) ∧ e 68 = (.pointer (some ⟨b47, 0, none⟩)) ∧ Ext wq w | 18 => e 1 = (.pointer (some ⟨b1, 0, none⟩)) ∧ e 2 = (.pointer (some ⟨c2, 0, none⟩)) ∧ e 3 = (.pointer (some ⟨c3, 0, none⟩)) ∧ e 9 = (.pointer (some ⟨b47, 0, none⟩)) ∧ e 11 = (.int .i64 (i : Int)) ∧ e 48 = (.slice (some ⟨ub, uo, none⟩) (ordN D).length uc) ∧ e 49 = (.int .i64 ((ordN D).length : Int)) ∧ e 50 = (.int .i64 (k : Int)) ∧ e 63 = (.pointer (some ⟨b47, 0, none⟩)) ∧ e 64 = (.pointer (some ⟨b47, 0, none⟩)) ∧ e 67 = (.int .i64 (i : Int)) ∧ e 68 = (.pointer (some ⟨b47, 0, none⟩)) ∧ Ext wq w | 19 => e 1 = (.pointer (some ⟨b1, 0, none⟩)) ∧ e 2 = (.pointer (some ⟨c2, 0, none⟩)) ∧ e 3 = (.pointer (some ⟨c3, 0, none⟩)) ∧ e 9 = (.pointer (some ⟨b47, 0, none⟩)) ∧ e 11 = (.int .i64 (i : Int)) ∧ e 48 = (.slice (some ⟨ub, uo, none⟩) (ordN D).length uc) ∧ e 49 = (.int .i64 ((ordN D).length : Int)) ∧ e 50 = (.int .i64 (k : Int)) ∧ e 63 = (.pointer (some ⟨b47, 0, none⟩)) ∧ e 64 = (.pointer (some ⟨b47, 0, none⟩)) ∧ e 68 = (.pointer (some ⟨b47, 0, none⟩)) ∧ e 69 = (.int .i64 r.1) ∧ (∃ tv' U' lv', BS w0 w b47 dv rv D.length (mkS D k).1 r.2 tv' U' lv' [] ∧ w.ownsRow w0.heap.size 3 1 o1 (ordN D).length ((ordN D).map iv) ∧ w.heap[b1]? = some (.cells #[dv] 25 (0, 0)) ∧ w.heap[c2]? = some (.cells #[.slice none 0 0, .slice none 0 0] 34 (0, 0)) ∧ w.heap[c3]? = some (.cells #[.int .i64 0, .int .i64 0] 28 (0, 0))) | 20 => e 1 = (.pointer (some ⟨b1, 0, none⟩)) ∧ e 2 = (.pointer (some ⟨c2, 0, none⟩)) ∧ e 3 = (.pointer (some ⟨c3, 0, none⟩)) ∧ e 9 = (.pointer (some ⟨b47, 0, none⟩)) ∧ e 11 = (.int .i64 (i : Int)) ∧ e 48 = (.slice (some ⟨ub, uo, none⟩) (ordN D).length uc) ∧ e 49 = (.int .i64 ((ordN D).length : Int)) ∧ e 50 = (.int .i64 (k : Int)) ∧ e 63 = (.pointer (some ⟨b47, 0, none⟩)) ∧ e 67 = (.int .i64 (i : Int)) ∧ e 68 = (.pointer (some ⟨b47, 0, none⟩)) ∧ e 69 = (.int .i64 r.1) ∧ (∃ tv' U' lv', BS w0 w b47 dv rv D.length (mkS D k).1 r.2 tv' U' lv' [] ∧ w.ownsRow w0.heap.size 3 1 o1 (ordN D).length ((ordN D).map iv) ∧ w.heap[b1]? = some (.cells #[dv] 25 (0, 0)) ∧ w.heap[c2]? = some (.cells #[.slice none 0 0, .slice none 0 0] 34 (0, 0)) ∧ w.heap[c3]? = some (.cells #[.int .i64 0, .int .i64 0] 28 (0, 0))) | 21 => e 1 = (.pointer (some ⟨b1, 0, none⟩)) ∧ e 2 = (.pointer (some ⟨c2, 0, none⟩)) ∧ e 3 = (.pointer (some ⟨c3, 0, none⟩)) ∧ e 9 = (.pointer (some ⟨b47, 0, none⟩)) ∧ e 11 = (.int .i64 (i : Int)) ∧ e 48 = (.slice (some ⟨ub, uo, none⟩) (ordN D).length uc) ∧ e 49 = (.int .i64 ((ordN D).length : Int)) ∧ e 50 = (.int .i64 (k : Int)) ∧ e 63 = (.pointer (some ⟨b47, 0, none⟩)) ∧ e 64 = (.pointer (some ⟨b47, 0, none⟩)) ∧ e 65 = (.pointer (some ⟨b47, 0 + 2, none⟩)) ∧ e 66 = (.slice (some ⟨rb, 0, none⟩) D.length rc) ∧ e 67 = (.int .i64 (i : Int)) ∧ Ext wq w | 22 => e 1 = (.pointer (some ⟨b1, 0, none⟩)) ∧ e 2 = (.pointer (some ⟨c2, 0, none⟩)) ∧ e 3 = (.pointer (some ⟨c3, 0, none⟩)) ∧ e 9 = (.pointer (some ⟨b47, 0, none⟩)) ∧ e 11 = (.int .i64 (i : Int)) ∧ e 48 = (.slice (some ⟨ub, uo, none⟩) (ordN D).length uc) ∧ e 49 = (.int .i64 ((ordN D).length : Int)) ∧ e 50 = (.int .i64 (k : Int)) ∧ e 63 = (.pointer (some ⟨b47, 0, none⟩)) ∧ e 64 = (.pointer (some ⟨b47, 0, none⟩)) ∧ e 65 = (.pointer (some ⟨b47, 0 + 2, none⟩)) ∧ e 66 = (.slice (some ⟨rb, 0, none⟩) D.length rc) ∧ e 68 = (.pointer (some ⟨b47, 0, none⟩)) ∧ Ext wq w | 23 => e 1 = (.pointer (some ⟨b1, 0, none⟩)) ∧ e 2 = (.pointer (some ⟨c2, 0, none⟩)) ∧ e 3 = (.pointer (some ⟨c3, 0, none⟩)) ∧ e 9 = (.pointer (some ⟨b47, 0, none⟩)) ∧ e 11 = (.int .i64 (i : Int)) ∧ e 48 = (.slice (some ⟨ub, uo, none⟩) (ordN D).length uc) ∧ e 49 = (.int .i64 ((ordN D).length : Int)) ∧ e 50 = (.int .i64 (k : Int)) ∧ e 63 = (.pointer (some ⟨b47, 0, none⟩)) ∧ e 64 = (.pointer (some ⟨b47, 0, none⟩)) ∧ e 65 = (.pointer (some ⟨b47, 0 + 2, none⟩)) ∧ e 67 = (.int .i64 (i : Int)) ∧ e 68 = (.pointer (some ⟨b47, 0, none⟩)) ∧ Ext wq w | 24 => e 1 = (.pointer (some ⟨b1, 0, none⟩)) ∧ e 2 = (.pointer (some ⟨c2, 0, none⟩)) ∧ e 3 = (.pointer (some ⟨c3, 0, none⟩)) ∧ e 9 = (.pointer (some ⟨b47, 0, none⟩)) ∧ e 11 = (.int .i64 (i : Int)) ∧ e 48 = (.slice (some ⟨ub, uo, none⟩) (ordN D).length uc) ∧ e 49 = (.int .i64 ((ordN D).length : Int)) ∧ e 50 = (.int .i64 (k : Int)) ∧ e 63 = (.pointer (some ⟨b47, 0, none⟩)) ∧ e 64 = (.pointer (some ⟨b47, 0, none⟩)) ∧ e 65 = (.pointer (some ⟨b47, 0 + 2, none⟩)) ∧ e 68 = (.pointer (some ⟨b47, 0, none⟩)) ∧ e 69 = (.int .i64 r.1) ∧ (∃ tv' U' lv', BS w0 w b47 dv rv D.length (mkS D k).1 r.2 tv' U' lv' [] ∧ w.ownsRow w0.heap.size 3 1 o1 (ordN D).length ((ordN D).map iv) ∧ w.heap[b1]? = some (.cells #[dv] 25 (0, 0)) ∧ w.heap[c2]? = some (.cells #[.slice none 0 0, .slice none 0 0] 34 (0, 0)) ∧ w.heap[c3]? = some (.cells #[.int .i64 0, .int .i64 0] 28 (0, 0))) | 25 => e 1 = (.pointer (some ⟨b1, 0, none⟩)) ∧ e 2 = (.pointer (some ⟨c2, 0, none⟩)) ∧ e 3 = (.pointer (some ⟨c3, 0, none⟩)) ∧ e 9 = (.pointer (some ⟨b47, 0, none⟩)) ∧ e 11 = (.int .i64 (i : Int)) ∧ e 48 = (.slice (some ⟨ub, uo, none⟩) (ordN D).length uc) ∧ e 49 = (.int .i64 ((ordN D).length : Int)) ∧ e 50 = (.int .i64 (k : Int)) ∧ e 63 = (.pointer (some ⟨b47, 0, none⟩)) ∧ e 64 = (.pointer (some ⟨b47, 0, none⟩)) ∧ e 67 = (.int .i64 (i : Int)) ∧ e 68 = (.pointer (some ⟨b47, 0, none⟩)) ∧ e 69 = (.int .i64 r.1) ∧ (∃ tv' U' lv', BS w0 w b47 dv rv D.length (mkS D k).1 r.2 tv' U' lv' [] ∧ w.ownsRow w0.heap.size 3 1 o1 (ordN D).length ((ordN D).map iv) ∧ w.heap[b1]? = some (.cells #[dv] 25 (0, 0)) ∧ w.heap[c2]? = some (.cells #[.slice none 0 0, .slice none 0 0] 34 (0, 0)) ∧ w.heap[c3]? = some (.cells #[.int .i64 0, .int .i64 0] 28 (0, 0))) | 26 => e 1 = (.pointer (some ⟨b1, 0, none⟩)) ∧ e 2 = (.pointer (some ⟨c2, 0, none⟩)) ∧ e 3 = (.pointer (some ⟨c3, 0, none⟩)) ∧ e 9 = (.pointer (some ⟨b47, 0, none⟩)) ∧ e 11 = (.int .i64 (i : Int)) ∧ e 48 = (.slice (some ⟨ub, uo, none⟩) (ordN D).length uc) ∧ e 49 = (.int .i64 ((ordN D).length : Int)) ∧ e 50 = (.int .i64 (k : Int)) ∧ e 63 = (.pointer (some ⟨b47, 0, none⟩)) ∧ e 64 = (.pointer (some ⟨b47, 0, none⟩)) ∧ e 65 = (.pointer (some ⟨b47, 0 + 2, none⟩)) ∧ e 66 = (.slice (some ⟨rb, 0, none⟩) D.length rc) ∧ e 67 = (.int .i64 (i : Int)) ∧ e 68 = (.pointer (some ⟨b47, 0, none⟩)) ∧ Ext wq w | 27 => e 1 = (.pointer (some ⟨b1, 0, none⟩)) ∧ e 2 = (.pointer (some ⟨c2, 0, none⟩)) ∧ e 3 = (.pointer (some ⟨c3, 0, none⟩)) ∧ e 9 = (.pointer (some ⟨b47, 0, none⟩)) ∧ e 11 = (.int .i64 (i : Int)) ∧ e 48 = (.slice (some ⟨ub, uo, none⟩) (ordN D).length uc) ∧ e 49 = (.int .i64 ((ordN D).length : Int)) ∧ e 50 = (.int .i64 (k : Int)) ∧ e 63 = (.pointer (some ⟨b47, 0, none⟩)) ∧ e 64 = (.pointer (some ⟨b47, 0, none⟩)) ∧ e 65 = (.pointer (some ⟨b47, 0 + 2, none⟩)) ∧ e 66 = (.slice (some ⟨rb, 0, none⟩) D.length rc) ∧ e 68 = (.pointer (some ⟨b47, 0, none⟩)) ∧ e 69 = (.int .i64 r.1) ∧ (∃ tv' U' lv', BS w0 w b47 dv rv D.length (mkS D k).1 r.2 tv' U' lv' [] ∧ w.ownsRow w0.heap.size 3 1 o1 (ordN D).length ((ordN D).map iv) ∧ w.heap[b1]? = some (.cells #[dv] 25 (0, 0)) ∧ w.heap[c2]? = some (.cells #[.slice none 0 0, .slice none 0 0] 34 (0, 0)) ∧ w.heap[c3]? = some (.cells #[.int .i64 0, .int .i64 0] 28 (0, 0))) | 28 => e 1 = (.pointer (some ⟨b1, 0, none⟩)) ∧ e 2 = (.pointer (some ⟨c2, 0, none⟩)) ∧ e 3 = (.pointer (some ⟨c3, 0, none⟩)) ∧ e 9 = (.pointer (some ⟨b47, 0, none⟩)) ∧ e 11 = (.int .i64 (i : Int)) ∧ e 48 = (.slice (some ⟨ub, uo, none⟩) (ordN D).length uc) ∧ e 49 = (.int .i64 ((ordN D).length : Int)) ∧ e 50 = (.int .i64 (k : Int)) ∧ e 63 = (.pointer (some ⟨b47, 0, none⟩)) ∧ e 64 = (.pointer (some ⟨b47, 0, none⟩)) ∧ e 65 = (.pointer (some ⟨b47, 0 + 2, none⟩)) ∧ e 67 = (.int .i64 (i : Int)) ∧ e 68 = (.pointer (some ⟨b47, 0, none⟩)) ∧ e 69 = (.int .i64 r.1) ∧ (∃ tv' U' lv', BS w0 w b47 dv rv D.length (mkS D k).1 r.2 tv' U' lv' [] ∧ w.ownsRow w0.heap.size 3 1 o1 (ordN D).length ((ordN D).map iv) ∧ w.heap[b1]? = some (.cells #[dv] 25 (0, 0)) ∧ w.heap[c2]? = some (.cells #[.slice none 0 0, .slice none 0 0] 34 (0, 0)) ∧ w.heap[c3]? = some (.cells #[.int .i64 0, .int .i64 0] 28 (0, 0))) | 29 => e 1 = (.pointer (some ⟨b1, 0, none⟩)) ∧ e 2 = (.pointer (some ⟨c2, 0, none⟩)) ∧ e 3 = (.pointer (some ⟨c3, 0, none⟩)) ∧ e 9 = (.pointer (some ⟨b47, 0, none⟩)) ∧ e 11 = (.int .i64 (i : Int)) ∧ e 48 = (.slice (some ⟨ub, uo, none⟩) (ordN D).length uc) ∧ e 49 = (.int .i64 ((ordN D).length : Int)) ∧ e 50 = (.int .i64 (k : Int)) ∧ e 63 = (.pointer (some ⟨b47, 0, none⟩)) ∧ e 64 = (.pointer (some ⟨b47, 0, none⟩)) ∧ e 65 = (.pointer (some ⟨b47, 0 + 2, none⟩)) ∧ e 66 = (.slice (some ⟨rb, 0, none⟩) D.length rc) ∧ e 67 = (.int .i64 (i : Int)) ∧ e 68 = (.pointer (some ⟨b47, 0, none⟩)) ∧ e 69 = (.int .i64 r.1) ∧ (∃ tv' U' lv', BS w0 w b47 dv rv D.length (mkS D k).1 r.2 tv' U' lv' [] ∧ w.ownsRow w0.heap.size 3 1 o1 (ordN D).length ((ordN D).map iv) ∧ w.heap[b1]? = some (.cells #[dv] 25 (0, 0)) ∧ w.heap[c2]? = some (.cells #[.slice none 0 0, .slice none 0 0] 34 (0, 0)) ∧ w.heap[c3]? = some (.cells #[.int .i64 0, .int .i64 0] 28 (0, 0))) | 30 => e 1 = (.pointer (some ⟨b1, 0, none⟩)) ∧ e 2 = (.pointer (some ⟨c2, 0, none⟩)) ∧ e 3 = (.pointer (some ⟨c3, 0, none⟩)) ∧ e 9 = (.pointer (some ⟨b47, 0, none⟩)) ∧ e 11 = (.int .i64 (i : Int)) ∧ e 48 = (.slice (some ⟨ub, uo, none⟩) (ordN D).length uc) ∧ e 49 = (.int .i64 ((ordN D).length : Int)) ∧ e 50 = (.int .i64 (k : Int)) ∧ e 63 = (.pointer (some ⟨b47, 0, none⟩)) ∧ e 64 = (.pointer (some ⟨b47, 0, none⟩)) ∧ e 65 = (.pointer (some ⟨b47, 0 + 2, none⟩)) ∧ e 66 = (.slice (some ⟨rb, 0, none⟩) D.length rc) ∧ e 67 = (.int .i64 (i : Int)) ∧ e 68 = (.pointer (some ⟨b47, 0, none⟩)) ∧ e 69 = (.int .i64 r.1) ∧ e 70 = (.pointer (some ⟨rb, 0 + i * 1, none⟩)) ∧ (∃ tv' U' lv', BS w0 w b47 dv rv D.length (mkS D k).1 r.2 tv' U' lv' [] ∧ w.ownsRow w0.heap.size 3 1 o1 (ordN D).length ((ordN D).map iv) ∧ w.heap[b1]? = some (.cells #[dv] 25 (0, 0)) ∧ w.heap[c2]? = some (.cells #[.slice none 0 0, .slice none 0 0] 34 (0, 0)) ∧ w.heap[c3]? = some (.cells #[.int .i64 0, .int .i64 0] 28 (0, 0))) | 31 => e 1 = (.pointer (some ⟨b1, 0, none⟩)) ∧ e 2 = (.pointer (some ⟨c2, 0, none⟩)) ∧ e 3 = (.pointer (some ⟨c3, 0, none⟩)) ∧ e 9 = (.pointer (some ⟨b47, 0, none⟩)) ∧ e 11 = (.int .i64 (i : Int)) ∧ e 48 = (.slice (some ⟨ub, uo, none⟩) (ordN D).length uc) ∧ e 49 = (.int .i64 ((ordN D).length : Int)) ∧ e 50 = (.int .i64 (k : Int)) ∧ e 63 = (.pointer (some ⟨b47, 0, none⟩)) ∧ e 64 = (.pointer (some ⟨b47, 0, none⟩)) ∧ e 65 = (.pointer (some ⟨b47, 0 + 2, none⟩)) ∧ e 66 = (.slice (some ⟨rb, 0, none⟩) D.length rc) ∧ e 67 = (.int .i64 (i : Int)) ∧ e 68 = (.pointer (some ⟨b47, 0, none⟩)) ∧ e 69 = (.int .i64 r.1) ∧ e 70 = (.pointer (some ⟨rb, 0 + i * 1, none⟩)) ∧ (∃ tv' U' lv', BS w0 w b47 dv rv D.length (upI (mkS D k).1 i r.1) r.2 tv' U' lv' [] ∧ w.ownsRow w0.heap.size 3 1 o1 (ordN D).length ((ordN D).map iv) ∧ w.heap[b1]? = some (.cells #[dv] 25 (0, 0)) ∧ w.heap[c2]? = some (.cells #[.slice none 0 0, .slice none 0 0] 34 (0, 0)) ∧ w.heap[c3]? = some (.cells #[.int .i64 0, .int .i64 0] 28 (0, 0))) | _ => False) ([([false, false, false, false, false, false, false, false, false], [(0, 1), (4, 2), (5, 3)]), ([true, false, false, false, false, false, false, false, false], [(1, 4), (4, 5), (5, 6)]), ([false, false, false, false, true, false, false, false, false], [(0, 5), (5, 7)]), ([false, false, false, false, false, true, false, false, false], [(0, 6), (4, 7), (6, 8)]), ([true, true, false, false, false, false, false, false, false], [(2, 9), (4, 10), (5, 11)]), ([true, false, false, false, true, false, false, false, false], [(1, 10), (5, 12)]), ([true, false, false, false, false, true, false, false, false], [(1, 11), (4, 12), (6, 13)]), ([false, false, false, false, true, true, false, false, false], [(0, 12), (6, 14)]), ([false, false, false, false, false, true, true, false, false], [(0, 13), (4, 14)]), ([true, true, true, false, false, false, false, false, false], [(3, 15), (4, 16), (5, 17)]), ([true, true, false, false, true, false, false, false, false], [(2, 16), (5, 18)]), ([true, true, false, false, false, true, false, false, false], [(2, 17), (4, 18), (6, 19)]), ([true, false, false, false, true, true, false, false, false], [(1, 18), (6, 20)]), ([true, false, false, false, false, true, true, false, false], [(1, 19), (4, 20)]), ([false, false, false, false, true, true, true, false, false], [(0, 20)]), ([true, true, true, true, false, false, false, false, false], [(4, 21), (5, 22)]), ([true, true, true, false, true, false, false, false, false], [(3, 21), (5, 23)]), ([true, true, true, false, false, true, false, false, false], [(3, 22), (4, 23), (6, 24)]), ([true, true, false, false, true, true, false, false, false], [(2, 23), (6, 25)]), ([true, true, false, false, false, true, true, false, false], [(2, 24), (4, 25)]), ([true, false, false, false, true, true, true, false, false], [(1, 25)]), ([true, true, true, true, true, false, false, false, false], [(5, 26)]), ([true, true, true, true, false, true, false, false, false], [(4, 26), (6, 27)]), ([true, true, true, false, true, true, false, false, false], [(3, 26), (6, 28)]), ([true, true, true, false, false, true, true, false, false], [(3, 27), (4, 28)]), ([true, true, false, false, true, true, true, false, false], [(2, 28)]), ([true, true, true, true, true, true, false, false, false], [(6, 29)]), ([true, true, true, true, false, true, true, false, false], [(4, 29)]), ([true, true, true, false, true, true, true, false, false], [(3, 29)]), ([true, true, true, true, true, true, true, false, false], [(7, 30)]), ([true, true, true, true, true, true, true, true, false], [(8, 31)]), ([true, true, true, true, true, true, true, true, true], [])]) rfl (by kernel_rfl) rfl ⟨h1, h2, h3, h9, rfl, h48, h49, h50, by rw [hwq]; exact Only.refl _ _⟩ ?_
      refine ⟨?_, ?_, ?_, ?_, ?_, ?_, ?_, ?_, ?_, ?_, ?_, ?_, ?_, ?_, ?_, ?_, ?_, ?_, ?_, ?_, ?_, ?_, ?_, ?_, ?_, ?_, ?_, ?_, ?_, ?_, ?_, ?_, trivial⟩
      · -- state 0 of region 14
        rintro e w ⟨h1, h2, h3, h9, h11, h48, h49, h50, hR⟩
        refine ⟨?_, ?_, ?_, trivial⟩
        · skip
          refine WO.c rfl rfl (o_mvh h9 ?_)
          exact ⟨h1, h2, h3, h9, h11, h48, h49, h50, rfl, hR⟩
        · skip
          refine WO.c rfl rfl (o_mvh h11 ?_)
          exact ⟨h1, h2, h3, h9, h11, h48, h49, h50, rfl, hR⟩
        skip
        refine WO.c rfl rfl (o_mvh h9 ?_)
        exact ⟨h1, h2, h3, h9, h11, h48, h49, h50, rfl, hR⟩
      · -- state 1 of region 14
        rintro e w ⟨h1, h2, h3, h9, h11, h48, h49, h50, h63, hR⟩
        refine ⟨?_, ?_, ?_, trivial⟩
        · skip
          refine WO.c rfl rfl (o_nil h63 ?_)
          exact ⟨h1, h2, h3, h9, h11, h48, h49, h50, h63, rfl, hR⟩
        · skip
          refine WO.c rfl rfl (o_mvh h11 ?_)
          exact ⟨h1, h2, h3, h9, h11, h48, h49, h50, h63, rfl, hR⟩
        skip
        refine WO.c rfl rfl (o_mvh h9 ?_)
        exact ⟨h1, h2, h3, h9, h11, h48, h49, h50, h63, rfl, hR⟩
      · -- state 2 of region 14
        rintro e w ⟨h1, h2, h3, h9, h11, h48, h49, h50, h67, hR⟩
        refine ⟨?_, ?_, trivial⟩
        · skip
          refine WO.c rfl rfl (o_mvh h9 ?_)
          exact ⟨h1, h2, h3, h9, h11, h48, h49, h50, rfl, h67, hR⟩
        skip
        refine WO.c rfl rfl (o_mvh h9 ?_)
        exact ⟨h1, h2, h3, h9, h11, h48, h49, h50, h67, rfl, hR⟩
      · -- state 3 of region 14
        rintro e w ⟨h1, h2, h3, h9, h11, h48, h49, h50, h68, hR⟩
        refine ⟨?_, ?_, ?_, trivial⟩
        · skip
          refine WO.c rfl rfl (o_mvh h9 ?_)
          exact ⟨h1, h2, h3, h9, h11, h48, h49, h50, rfl, h68, hR⟩
        · skip
          refine WO.c rfl rfl (o_mvh h11 ?_)
          exact ⟨h1, h2, h3, h9, h11, h48, h49, h50, rfl, h68, hR⟩
        skip
        refine WO.c rfl rfl (o_call Try.call31 (lc h68 ln) ((hcall _ hR).mono ?_))
        rintro v69 w69 ⟨tv', U', lv', rfl, hS', ho', -, -⟩
        have hE : (∃ tv' U' lv', BS w0 w69 b47 dv rv D.length (mkS D k).1 r.2 tv' U' lv' [] ∧ w69.ownsRow w0.heap.size 3 1 o1 (ordN D).length ((ordN D).map iv) ∧ w69.heap[b1]? = some (.cells #[dv] 25 (0, 0)) ∧ w69.heap[c2]? = some (.cells #[.slice none 0 0, .slice none 0 0] 34 (0, 0)) ∧ w69.heap[c3]? = some (.cells #[.int .i64 0, .int .i64 0] 28 (0, 0))) := ⟨tv', U', lv', hS', own_only (own_ext ho1 hR) ho' (fun b hb h => by
          rcases h with h | h
          · rw [h] at hb; exact own_off ho1 hS.cell (by decide) hb
          · exact own_row_off hS.ty.row ho1 (by decide) b hb h),
          ho'.blk (hR.blk hC1 (fun h => h)) (fun h => by rcases h with h | h; exact blk_ne3 hC1 hS.cell (by decide) h; exact own_off hS.ty.row hC1 (by decide) h),
          ho'.blk (hR.blk hC2 (fun h => h)) (fun h => by rcases h with h | h; exact blk_ne3 hC2 hS.cell (by decide) h; exact own_off hS.ty.row hC2 (by decide) h),
          ho'.blk (hR.blk hC3 (fun h => h)) (fun h => by rcases h with h | h; exact blk_ne3 hC3 hS.cell (by decide) h; exact own_off hS.ty.row hC3 (by decide) h)⟩
        exact ⟨h1, h2, h3, h9, h11, h48, h49, h50, h68, rfl, hE⟩
      · -- state 4 of region 14
        rintro e w ⟨h1, h2, h3, h9, h11, h48, h49, h50, h63, h64, hR⟩
        refine ⟨?_, ?_, ?_, trivial⟩
        · skip
          refine WO.c rfl rfl (o_fa 2 TI85 rfl TI79 rfl h64 ?_)
          exact ⟨h1, h2, h3, h9, h11, h48, h49, h50, h63, h64, rfl, hR⟩
        · skip
          refine WO.c rfl rfl (o_mvh h11 ?_)
          exact ⟨h1, h2, h3, h9, h11, h48, h49, h50, h63, h64, rfl, hR⟩
        skip
        refine WO.c rfl rfl (o_mvh h9 ?_)
        exact ⟨h1, h2, h3, h9, h11, h48, h49, h50, h63, h64, rfl, hR⟩
      · -- state 5 of region 14
        rintro e w ⟨h1, h2, h3, h9, h11, h48, h49, h50, h63, h67, hR⟩
        refine ⟨?_, ?_, trivial⟩
        · skip
          refine WO.c rfl rfl (o_nil h63 ?_)
          exact ⟨h1, h2, h3, h9, h11, h48, h49, h50, h63, rfl, h67, hR⟩
        skip
        refine WO.c rfl rfl (o_mvh h9 ?_)
        exact ⟨h1, h2, h3, h9, h11, h48, h49, h50, h63, h67, rfl, hR⟩
      · -- state 6 of region 14
        rintro e w ⟨h1, h2, h3, h9, h11, h48, h49, h50, h63, h68, hR⟩
        refine ⟨?_, ?_, ?_, trivial⟩
        · skip
          refine WO.c rfl rfl (o_nil h63 ?_)
          exact ⟨h1, h2, h3, h9, h11, h48, h49, h50, h63, rfl, h68, hR⟩
        · skip
          refine WO.c rfl rfl (o_mvh h11 ?_)
          exact ⟨h1, h2, h3, h9, h11, h48, h49, h50, h63, rfl, h68, hR⟩
        skip
        refine WO.c rfl rfl (o_call Try.call31 (lc h68 ln) ((hcall _ hR).mono ?_))
        rintro v69 w69 ⟨tv', U', lv', rfl, hS', ho', -, -⟩
        have hE : (∃ tv' U' lv', BS w0 w69 b47 dv rv D.length (mkS D k).1 r.2 tv' U' lv' [] ∧ w69.ownsRow w0.heap.size 3 1 o1 (ordN D).length ((ordN D).map iv) ∧ w69.heap[b1]? = some (.cells #[dv] 25 (0, 0)) ∧ w69.heap[c2]? = some (.cells #[.slice none 0 0, .slice none 0 0] 34 (0, 0)) ∧ w69.heap[c3]? = some (.cells #[.int .i64 0, .int .i64 0] 28 (0, 0))) := ⟨tv', U', lv', hS', own_only (own_ext ho1 hR) ho' (fun b hb h => by
          rcases h with h | h
          · rw [h] at hb; exact own_off ho1 hS.cell (by decide) hb
          · exact own_row_off hS.ty.row ho1 (by decide) b hb h),
          ho'.blk (hR.blk hC1 (fun h => h)) (fun h => by rcases h with h | h; exact blk_ne3 hC1 hS.cell (by decide) h; exact own_off hS.ty.row hC1 (by decide) h),
          ho'.blk (hR.blk hC2 (fun h => h)) (fun h => by rcases h with h | h; exact blk_ne3 hC2 hS.cell (by decide) h; exact own_off hS.ty.row hC2 (by decide) h),
          ho'.blk (hR.blk hC3 (fun h => h)) (fun h => by rcases h with h | h; exact blk_ne3 hC3 hS.cell (by decide) h; exact own_off hS.ty.row hC3 (by decide) h)⟩
        exact ⟨h1, h2, h3, h9, h11, h48, h49, h50, h63, h68, rfl, hE⟩
      · -- state 7 of region 14
        rintro e w ⟨h1, h2, h3, h9, h11, h48, h49, h50, h67, h68, hR⟩
        refine ⟨?_, ?_, trivial⟩
        · skip
          refine WO.c rfl rfl (o_mvh h9 ?_)
          exact ⟨h1, h2, h3, h9, h11, h48, h49, h50, rfl, h67, h68, hR⟩
        skip
        refine WO.c rfl rfl (o_call Try.call31 (lc h68 ln) ((hcall _ hR).mono ?_))
        rintro v69 w69 ⟨tv', U', lv', rfl, hS', ho', -, -⟩
        have hE : (∃ tv' U' lv', BS w0 w69 b47 dv rv D.length (mkS D k).1 r.2 tv' U' lv' [] ∧ w69.ownsRow w0.heap.size 3 1 o1 (ordN D).length ((ordN D).map iv) ∧ w69.heap[b1]? = some (.cells #[dv] 25 (0, 0)) ∧ w69.heap[c2]? = some (.cells #[.slice none 0 0, .slice none 0 0] 34 (0, 0)) ∧ w69.heap[c3]? = some (.cells #[.int .i64 0, .int .i64 0] 28 (0, 0))) := ⟨tv', U', lv', hS', own_only (own_ext ho1 hR) ho' (fun b hb h => by
          rcases h with h | h
          · rw [h] at hb; exact own_off ho1 hS.cell (by decide) hb
          · exact own_row_off hS.ty.row ho1 (by decide) b hb h),
          ho'.blk (hR.blk hC1 (fun h => h)) (fun h => by rcases h with h | h; exact blk_ne3 hC1 hS.cell (by decide) h; exact own_off hS.ty.row hC1 (by decide) h),
          ho'.blk (hR.blk hC2 (fun h => h)) (fun h => by rcases h with h | h; exact blk_ne3 hC2 hS.cell (by decide) h; exact own_off hS.ty.row hC2 (by decide) h),
          ho'.blk (hR.blk hC3 (fun h => h)) (fun h => by rcases h with h | h; exact blk_ne3 hC3 hS.cell (by decide) h; exact own_off hS.ty.row hC3 (by decide) h)⟩
        exact ⟨h1, h2, h3, h9, h11, h48, h49, h50, h67, h68, rfl, hE⟩
      · -- state 8 of region 14
        rintro e w ⟨h1, h2, h3, h9, h11, h48, h49, h50, h68, h69, hE⟩
        refine ⟨?_, ?_, trivial⟩
        · skip
          refine WO.c rfl rfl (o_mvh h9 ?_)
          exact ⟨h1, h2, h3, h9, h11, h48, h49, h50, rfl, h68, h69, hE⟩
        skip
        refine WO.c rfl rfl (o_mvh h11 ?_)
        exact ⟨h1, h2, h3, h9, h11, h48, h49, h50, rfl, h68, h69, hE⟩
      · -- state 9 of region 14
        rintro e w ⟨h1, h2, h3, h9, h11, h48, h49, h50, h63, h64, h65, hR⟩
        refine ⟨?_, ?_, ?_, trivial⟩
        · skip
          refine WO.c rfl rfl (o_ld TI79 rfl h65 (show World.cell? _ ⟨b47, 0 + 2, none⟩ = some (.slice (some ⟨rb, 0, none⟩) D.length rc) from by first | exact (hS.ext hR).rvc hrvE | (obtain ⟨tv', U', lv', hS', -⟩ := hE; exact hS'.rvc hrvE)) ?_)
          exact ⟨h1, h2, h3, h9, h11, h48, h49, h50, h63, h64, h65, rfl, hR⟩
        · skip
          refine WO.c rfl rfl (o_mvh h11 ?_)
          exact ⟨h1, h2, h3, h9, h11, h48, h49, h50, h63, h64, h65, rfl, hR⟩
        skip
        refine WO.c rfl rfl (o_mvh h9 ?_)
        exact ⟨h1, h2, h3, h9, h11, h48, h49, h50, h63, h64, h65, rfl, hR⟩
      · -- state 10 of region 14
        rintro e w ⟨h1, h2, h3, h9, h11, h48, h49, h50, h63, h64, h67, hR⟩
        refine ⟨?_, ?_, trivial⟩
        · skip
          refine WO.c rfl rfl (o_fa 2 TI85 rfl TI79 rfl h64 ?_)
          exact ⟨h1, h2, h3, h9, h11, h48, h49, h50, h63, h64, rfl, h67, hR⟩
        skip
        refine WO.c rfl rfl (o_mvh h9 ?_)
        exact ⟨h1, h2, h3, h9, h11, h48, h49, h50, h63, h64, h67, rfl, hR⟩
      · -- state 11 of region 14
        rintro e w ⟨h1, h2, h3, h9, h11, h48, h49, h50, h63, h64, h68, hR⟩
        refine ⟨?_, ?_, ?_, trivial⟩
        · skip
          refine WO.c rfl rfl (o_fa 2 TI85 rfl TI79 rfl h64 ?_)
          exact ⟨h1, h2, h3, h9, h11, h48, h49, h50, h63, h64, rfl, h68, hR⟩
        · skip
          refine WO.c rfl rfl (o_mvh h11 ?_)
          exact ⟨h1, h2, h3, h9, h11, h48, h49, h50, h63, h64, rfl, h68, hR⟩
        skip
        refine WO.c rfl rfl (o_call Try.call31 (lc h68 ln) ((hcall _ hR).mono ?_))
        rintro v69 w69 ⟨tv', U', lv', rfl, hS', ho', -, -⟩
        have hE : (∃ tv' U' lv', BS w0 w69 b47 dv rv D.length (mkS D k).1 r.2 tv' U' lv' [] ∧ w69.ownsRow w0.heap.size 3 1 o1 (ordN D).length ((ordN D).map iv) ∧ w69.heap[b1]? = some (.cells #[dv] 25 (0, 0)) ∧ w69.heap[c2]? = some (.cells #[.slice none 0 0, .slice none 0 0] 34 (0, 0)) ∧ w69.heap[c3]? = some (.cells #[.int .i64 0, .int .i64 0] 28 (0, 0))) := ⟨tv', U', lv', hS', own_only (own_ext ho1 hR) ho' (fun b hb h => by
          rcases h with h | h
          · rw [h] at hb; exact own_off ho1 hS.cell (by decide) hb
          · exact own_row_off hS.ty.row ho1 (by decide) b hb h),
          ho'.blk (hR.blk hC1 (fun h => h)) (fun h => by rcases h with h | h; exact blk_ne3 hC1 hS.cell (by decide) h; exact own_off hS.ty.row hC1 (by decide) h),
          ho'.blk (hR.blk hC2 (fun h => h)) (fun h => by rcases h with h | h; exact blk_ne3 hC2 hS.cell (by decide) h; exact own_off hS.ty.row hC2 (by decide) h),
          ho'.blk (hR.blk hC3 (fun h => h)) (fun h => by rcases h with h | h; exact blk_ne3 hC3 hS.cell (by decide) h; exact own_off hS.ty.row hC3 (by decide) h)⟩
        exact ⟨h1, h2, h3, h9, h11, h48, h49, h50, h63, h64, h68, rfl, hE⟩
      · -- state 12 of region 14
        rintro e w ⟨h1, h2, h3, h9, h11, h48, h49, h50, h63, h67, h68, hR⟩
        refine ⟨?_, ?_, trivial⟩
        · skip
          refine WO.c rfl rfl (o_nil h63 ?_)
          exact ⟨h1, h2, h3, h9, h11, h48, h49, h50, h63, rfl, h67, h68, hR⟩
        skip
        refine WO.c rfl rfl (o_call Try.call31 (lc h68 ln) ((hcall _ hR).mono ?_))
        rintro v69 w69 ⟨tv', U', lv', rfl, hS', ho', -, -⟩
        have hE : (∃ tv' U' lv', BS w0 w69 b47 dv rv D.length (mkS D k).1 r.2 tv' U' lv' [] ∧ w69.ownsRow w0.heap.size 3 1 o1 (ordN D).length ((ordN D).map iv) ∧ w69.heap[b1]? = some (.cells #[dv] 25 (0, 0)) ∧ w69.heap[c2]? = some (.cells #[.slice none 0 0, .slice none 0 0] 34 (0, 0)) ∧ w69.heap[c3]? = some (.cells #[.int .i64 0, .int .i64 0] 28 (0, 0))) := ⟨tv', U', lv', hS', own_only (own_ext ho1 hR) ho' (fun b hb h => by
          rcases h with h | h
          · rw [h] at hb; exact own_off ho1 hS.cell (by decide) hb
          · exact own_row_off hS.ty.row ho1 (by decide) b hb h),
          ho'.blk (hR.blk hC1 (fun h => h)) (fun h => by rcases h with h | h; exact blk_ne3 hC1 hS.cell (by decide) h; exact own_off hS.ty.row hC1 (by decide) h),
          ho'.blk (hR.blk hC2 (fun h => h)) (fun h => by rcases h with h | h; exact blk_ne3 hC2 hS.cell (by decide) h; exact own_off hS.ty.row hC2 (by decide) h),
          ho'.blk (hR.blk hC3 (fun h => h)) (fun h => by rcases h with h | h; exact blk_ne3 hC3 hS.cell (by decide) h; exact own_off hS.ty.row hC3 (by decide) h)⟩
        exact ⟨h1, h2, h3, h9, h11, h48, h49, h50, h63, h67, h68, rfl, hE⟩
      · -- state 13 of region 14
        rintro e w ⟨h1, h2, h3, h9, h11, h48, h49, h50, h63, h68, h69, hE⟩
        refine ⟨?_, ?_, trivial⟩
        · skip
          refine WO.c rfl rfl (o_nil h63 ?_)
          exact ⟨h1, h2, h3, h9, h11, h48, h49, h50, h63, rfl, h68, h69, hE⟩
        skip
        refine WO.c rfl rfl (o_mvh h11 ?_)
        exact ⟨h1, h2, h3, h9, h11, h48, h49, h50, h63, rfl, h68, h69, hE⟩
      · -- state 14 of region 14
        rintro e w ⟨h1, h2, h3, h9, h11, h48, h49, h50, h67, h68, h69, hE⟩
        refine ⟨?_, trivial⟩
        skip
        refine WO.c rfl rfl (o_mvh h9 ?_)
        exact ⟨h1, h2, h3, h9, h11, h48, h49, h50, rfl, h67, h68, h69, hE⟩
      · -- state 15 of region 14
        rintro e w ⟨h1, h2, h3, h9, h11, h48, h49, h50, h63, h64, h65, h66, hR⟩
        refine ⟨?_, ?_, trivial⟩
        · skip
          refine WO.c rfl rfl (o_mvh h11 ?_)
          exact ⟨h1, h2, h3, h9, h11, h48, h49, h50, h63, h64, h65, h66, rfl, hR⟩
        skip
        refine WO.c rfl rfl (o_mvh h9 ?_)
        exact ⟨h1, h2, h3, h9, h11, h48, h49, h50, h63, h64, h65, h66, rfl, hR⟩
      · -- state 16 of region 14
        rintro e w ⟨h1, h2, h3, h9, h11, h48, h49, h50, h63, h64, h65, h67, hR⟩
        refine ⟨?_, ?_, trivial⟩
        · skip
          refine WO.c rfl rfl (o_ld TI79 rfl h65 (show World.cell? _ ⟨b47, 0 + 2, none⟩ = some (.slice (some ⟨rb, 0, none⟩) D.length rc) from by first | exact (hS.ext hR).rvc hrvE | (obtain ⟨tv', U', lv', hS', -⟩ := hE; exact hS'.rvc hrvE)) ?_)
          exact ⟨h1, h2, h3, h9, h11, h48, h49, h50, h63, h64, h65, rfl, h67, hR⟩
        skip
        refine WO.c rfl rfl (o_mvh h9 ?_)
        exact ⟨h1, h2, h3, h9, h11, h48, h49, h50, h63, h64, h65, h67, rfl, hR⟩
      · -- state 17 of region 14
        rintro e w ⟨h1, h2, h3, h9, h11, h48, h49, h50, h63, h64, h65, h68, hR⟩
        refine ⟨?_, ?_, ?_, trivial⟩
        · skip
          refine WO.c rfl rfl (o_ld TI79 rfl h65 (show World.cell? _ ⟨b47, 0 + 2, none⟩ = some (.slice (some ⟨rb, 0, none⟩) D.length rc) from by first | exact (hS.ext hR).rvc hrvE | (obtain ⟨tv', U', lv', hS', -⟩ := hE; exact hS'.rvc hrvE)) ?_)
          exact ⟨h1, h2, h3, h9, h11, h48, h49, h50, h63, h64, h65, rfl, h68, hR⟩
        · skip
          refine WO.c rfl rfl (o_mvh h11 ?_)
          exact ⟨h1, h2, h3, h9, h11, h48, h49, h50, h63, h64, h65, rfl, h68, hR⟩
        skip
        refine WO.c rfl rfl (o_call Try.call31 (lc h68 ln) ((hcall _ hR).mono ?_))
        rintro v69 w69 ⟨tv', U', lv', rfl, hS', ho', -, -⟩
        have hE : (∃ tv' U' lv', BS w0 w69 b47 dv rv D.length (mkS D k).1 r.2 tv' U' lv' [] ∧ w69.ownsRow w0.heap.size 3 1 o1 (ordN D).length ((ordN D).map iv) ∧ w69.heap[b1]? = some (.cells #[dv] 25 (0, 0)) ∧ w69.heap[c2]? = some (.cells #[.slice none 0 0, .slice none 0 0] 34 (0, 0)) ∧ w69.heap[c3]? = some (.cells #[.int .i64 0, .int .i64 0] 28 (0, 0))) := ⟨tv', U', lv', hS', own_only (own_ext ho1 hR) ho' (fun b hb h => by
          rcases h with h | h
          · rw [h] at hb; exact own_off ho1 hS.cell (by decide) hb
          · exact own_row_off hS.ty.row ho1 (by decide) b hb h),
          ho'.blk (hR.blk hC1 (fun h => h)) (fun h => by rcases h with h | h; exact blk_ne3 hC1 hS.cell (by decide) h; exact own_off hS.ty.row hC1 (by decide) h),
          ho'.blk (hR.blk hC2 (fun h => h)) (fun h => by rcases h with h | h; exact blk_ne3 hC2 hS.cell (by decide) h; exact own_off hS.ty.row hC2 (by decide) h),
          ho'.blk (hR.blk hC3 (fun h => h)) (fun h => by rcases h with h | h; exact blk_ne3 hC3 hS.cell (by decide) h; exact own_off hS.ty.row hC3 (by decide) h)⟩
        exact ⟨h1, h2, h3, h9, h11, h48, h49, h50, h63, h64, h65, h68, rfl, hE⟩
      · -- state 18 of region 14
        rintro e w ⟨h1, h2, h3, h9, h11, h48, h49, h50, h63, h64, h67, h68, hR⟩
        refine ⟨?_, ?_, trivial⟩
        · skip
          refine WO.c rfl rfl (o_fa 2 TI85 rfl TI79 rfl h64 ?_)
          exact ⟨h1, h2, h3, h9, h11, h48, h49, h50, h63, h64, rfl, h67, h68, hR⟩
        skip
        refine WO.c rfl rfl (o_call Try.call31 (lc h68 ln) ((hcall _ hR).mono ?_))
        rintro v69 w69 ⟨tv', U', lv', rfl, hS', ho', -, -⟩
        have hE : (∃ tv' U' lv', BS w0 w69 b47 dv rv D.length (mkS D k).1 r.2 tv' U' lv' [] ∧ w69.ownsRow w0.heap.size 3 1 o1 (ordN D).length ((ordN D).map iv) ∧ w69.heap[b1]? = some (.cells #[dv] 25 (0, 0)) ∧ w69.heap[c2]? = some (.cells #[.slice none 0 0, .slice none 0 0] 34 (0, 0)) ∧ w69.heap[c3]? = some (.cells #[.int .i64 0, .int .i64 0] 28 (0, 0))) := ⟨tv', U', lv', hS', own_only (own_ext ho1 hR) ho' (fun b hb h => by
          rcases h with h | h
          · rw [h] at hb; exact own_off ho1 hS.cell (by decide) hb
          · exact own_row_off hS.ty.row ho1 (by decide) b hb h),
          ho'.blk (hR.blk hC1 (fun h => h)) (fun h => by rcases h with h | h; exact blk_ne3 hC1 hS.cell (by decide) h; exact own_off hS.ty.row hC1 (by decide) h),
          ho'.blk (hR.blk hC2 (fun h => h)) (fun h => by rcases h with h | h; exact blk_ne3 hC2 hS.cell (by decide) h; exact own_off hS.ty.row hC2 (by decide) h),
          ho'.blk (hR.blk hC3 (fun h => h)) (fun h => by rcases h with h | h; exact blk_ne3 hC3 hS.cell (by decide) h; exact own_off hS.ty.row hC3 (by decide) h)⟩
        exact ⟨h1, h2, h3, h9, h11, h48, h49, h50, h63, h64, h67, h68, rfl, hE⟩
      · -- state 19 of region 14
        rintro e w ⟨h1, h2, h3, h9, h11, h48, h49, h50, h63, h64, h68, h69, hE⟩
        refine ⟨?_, ?_, trivial⟩
        · skip
          refine WO.c rfl rfl (o_fa 2 TI85 rfl TI79 rfl h64 ?_)
          exact ⟨h1, h2, h3, h9, h11, h48, h49, h50, h63, h64, rfl, h68, h69, hE⟩
        skip
        refine WO.c rfl rfl (o_mvh h11 ?_)
        exact ⟨h1, h2, h3, h9, h11, h48, h49, h50, h63, h64, rfl, h68, h69, hE⟩
      · -- state 20 of region 14
        rintro e w ⟨h1, h2, h3, h9, h11, h48, h49, h50, h63, h67, h68, h69, hE⟩
        refine ⟨?_, trivial⟩
        skip
        refine WO.c rfl rfl (o_nil h63 ?_)
        exact ⟨h1, h2, h3, h9, h11, h48, h49, h50, h63, rfl, h67, h68, h69, hE⟩
      · -- state 21 of region 14
        rintro e w ⟨h1, h2, h3, h9, h11, h48, h49, h50, h63, h64, h65, h66, h67, hR⟩
        refine ⟨?_, trivial⟩
        skip
        refine WO.c rfl rfl (o_mvh h9 ?_)
        exact ⟨h1, h2, h3, h9, h11, h48, h49, h50, h63, h64, h65, h66, h67, rfl, hR⟩
      · -- state 22 of region 14
        rintro e w ⟨h1, h2, h3, h9, h11, h48, h49, h50, h63, h64, h65, h66, h68, hR⟩
        refine ⟨?_, ?_, trivial⟩
        · skip
          refine WO.c rfl rfl (o_mvh h11 ?_)
          exact ⟨h1, h2, h3, h9, h11, h48, h49, h50, h63, h64, h65, h66, rfl, h68, hR⟩
        skip
        refine WO.c rfl rfl (o_call Try.call31 (lc h68 ln) ((hcall _ hR).mono ?_))
        rintro v69 w69 ⟨tv', U', lv', rfl, hS', ho', -, -⟩
        have hE : (∃ tv' U' lv', BS w0 w69 b47 dv rv D.length (mkS D k).1 r.2 tv' U' lv' [] ∧ w69.ownsRow w0.heap.size 3 1 o1 (ordN D).length ((ordN D).map iv) ∧ w69.heap[b1]? = some (.cells #[dv] 25 (0, 0)) ∧ w69.heap[c2]? = some (.cells #[.slice none 0 0, .slice none 0 0] 34 (0, 0)) ∧ w69.heap[c3]? = some (.cells #[.int .i64 0, .int .i64 0] 28 (0, 0))) := ⟨tv', U', lv', hS', own_only (own_ext ho1 hR) ho' (fun b hb h => by
          rcases h with h | h
          · rw [h] at hb; exact own_off ho1 hS.cell (by decide) hb
          · exact own_row_off hS.ty.row ho1 (by decide) b hb h),
          ho'.blk (hR.blk hC1 (fun h => h)) (fun h => by rcases h with h | h; exact blk_ne3 hC1 hS.cell (by decide) h; exact own_off hS.ty.row hC1 (by decide) h),
          ho'.blk (hR.blk hC2 (fun h => h)) (fun h => by rcases h with h | h; exact blk_ne3 hC2 hS.cell (by decide) h; exact own_off hS.ty.row hC2 (by decide) h),
          ho'.blk (hR.blk hC3 (fun h => h)) (fun h => by rcases h with h | h; exact blk_ne3 hC3 hS.cell (by decide) h; exact own_off hS.ty.row hC3 (by decide) h)⟩
        exact ⟨h1, h2, h3, h9, h11, h48, h49, h50, h63, h64, h65, h66, h68, rfl, hE⟩
      · -- state 23 of region 14
        rintro e w ⟨h1, h2, h3, h9, h11, h48, h49, h50, h63, h64, h65, h67, h68, hR⟩
        refine ⟨?_, ?_, trivial⟩
        · skip
          refine WO.c rfl rfl (o_ld TI79 rfl h65 (show World.cell? _ ⟨b47, 0 + 2, none⟩ = some (.slice (some ⟨rb, 0, none⟩) D.length rc) from by first | exact (hS.ext hR).rvc hrvE | (obtain ⟨tv', U', lv', hS', -⟩ := hE; exact hS'.rvc hrvE)) ?_)
          exact ⟨h1, h2, h3, h9, h11, h48, h49, h50, h63, h64, h65, rfl, h67, h68, hR⟩
        skip
        refine WO.c rfl rfl (o_call Try.call31 (lc h68 ln) ((hcall _ hR).mono ?_))
        rintro v69 w69 ⟨tv', U', lv', rfl, hS', ho', -, -⟩
        have hE : (∃ tv' U' lv', BS w0 w69 b47 dv rv D.length (mkS D k).1 r.2 tv' U' lv' [] ∧ w69.ownsRow w0.heap.size 3 1 o1 (ordN D).length ((ordN D).map iv) ∧ w69.heap[b1]? = some (.cells #[dv] 25 (0, 0)) ∧ w69.heap[c2]? = some (.cells #[.slice none 0 0, .slice none 0 0] 34 (0, 0)) ∧ w69.heap[c3]? = some (.cells #[.int .i64 0, .int .i64 0] 28 (0, 0))) := ⟨tv', U', lv', hS', own_only (own_ext ho1 hR) ho' (fun b hb h => by
          rcases h with h | h
          · rw [h] at hb; exact own_off ho1 hS.cell (by decide) hb
          · exact own_row_off hS.ty.row ho1 (by decide) b hb h),
          ho'.blk (hR.blk hC1 (fun h => h)) (fun h => by rcases h with h | h; exact blk_ne3 hC1 hS.cell (by decide) h; exact own_off hS.ty.row hC1 (by decide) h),
          ho'.blk (hR.blk hC2 (fun h => h)) (fun h => by rcases h with h | h; exact blk_ne3 hC2 hS.cell (by decide) h; exact own_off hS.ty.row hC2 (by decide) h),
          ho'.blk (hR.blk hC3 (fun h => h)) (fun h => by rcases h with h | h; exact blk_ne3 hC3 hS.cell (by decide) h; exact own_off hS.ty.row hC3 (by decide) h)⟩
        exact ⟨h1, h2, h3, h9, h11, h48, h49, h50, h63, h64, h65, h67, h68, rfl, hE⟩
      · -- state 24 of region 14
        rintro e w ⟨h1, h2, h3, h9, h11, h48, h49, h50, h63, h64, h65, h68, h69, hE⟩
        refine ⟨?_, ?_, trivial⟩
        · skip
          refine WO.c rfl rfl (o_ld TI79 rfl h65 (show World.cell? _ ⟨b47, 0 + 2, none⟩ = some (.slice (some ⟨rb, 0, none⟩) D.length rc) from by first | exact (hS.ext hR).rvc hrvE | (obtain ⟨tv', U', lv', hS', -⟩ := hE; exact hS'.rvc hrvE)) ?_)
          exact ⟨h1, h2, h3, h9, h11, h48, h49, h50, h63, h64, h65, rfl, h68, h69, hE⟩
        skip
        refine WO.c rfl rfl (o_mvh h11 ?_)
        exact ⟨h1, h2, h3, h9, h11, h48, h49, h50, h63, h64, h65, rfl, h68, h69, hE⟩
      · -- state 25 of region 14
        rintro e w ⟨h1, h2, h3, h9, h11, h48, h49, h50, h63, h64, h67, h68, h69, hE⟩
        refine ⟨?_, trivial⟩
        skip
        refine WO.c rfl rfl (o_fa 2 TI85 rfl TI79 rfl h64 ?_)
        exact ⟨h1, h2, h3, h9, h11, h48, h49, h50, h63, h64, rfl, h67, h68, h69, hE⟩
      · -- state 26 of region 14
        rintro e w ⟨h1, h2, h3, h9, h11, h48, h49, h50, h63, h64, h65, h66, h67, h68, hR⟩
        refine ⟨?_, trivial⟩
        skip
        refine WO.c rfl rfl (o_call Try.call31 (lc h68 ln) ((hcall _ hR).mono ?_))
        rintro v69 w69 ⟨tv', U', lv', rfl, hS', ho', -, -⟩
        have hE : (∃ tv' U' lv', BS w0 w69 b47 dv rv D.length (mkS D k).1 r.2 tv' U' lv' [] ∧ w69.ownsRow w0.heap.size 3 1 o1 (ordN D).length ((ordN D).map iv) ∧ w69.heap[b1]? = some (.cells #[dv] 25 (0, 0)) ∧ w69.heap[c2]? = some (.cells #[.slice none 0 0, .slice none 0 0] 34 (0, 0)) ∧ w69.heap[c3]? = some (.cells #[.int .i64 0, .int .i64 0] 28 (0, 0))) := ⟨tv', U', lv', hS', own_only (own_ext ho1 hR) ho' (fun b hb h => by
          rcases h with h | h
          · rw [h] at hb; exact own_off ho1 hS.cell (by decide) hb
          · exact own_row_off hS.ty.row ho1 (by decide) b hb h),
          ho'.blk (hR.blk hC1 (fun h => h)) (fun h => by rcases h with h | h; exact blk_ne3 hC1 hS.cell (by decide) h; exact own_off hS.ty.row hC1 (by decide) h),
          ho'.blk (hR.blk hC2 (fun h => h)) (fun h => by rcases h with h | h; exact blk_ne3 hC2 hS.cell (by decide) h; exact own_off hS.ty.row hC2 (by decide) h),
          ho'.blk (hR.blk hC3 (fun h => h)) (fun h => by rcases h with h | h; exact blk_ne3 hC3 hS.cell (by decide) h; exact own_off hS.ty.row hC3 (by decide) h)⟩
        exact ⟨h1, h2, h3, h9, h11, h48, h49, h50, h63, h64, h65, h66, h67, h68, rfl, hE⟩
      · -- state 27 of region 14
        rintro e w ⟨h1, h2, h3, h9, h11, h48, h49, h50, h63, h64, h65, h66, h68, h69, hE⟩
        refine ⟨?_, trivial⟩
        skip
        refine WO.c rfl rfl (o_mvh h11 ?_)
        exact ⟨h1, h2, h3, h9, h11, h48, h49, h50, h63, h64, h65, h66, rfl, h68, h69, hE⟩
      · -- state 28 of region 14
        rintro e w ⟨h1, h2, h3, h9, h11, h48, h49, h50, h63, h64, h65, h67, h68, h69, hE⟩
        refine ⟨?_, trivial⟩
        skip
        refine WO.c rfl rfl (o_ld TI79 rfl h65 (show World.cell? _ ⟨b47, 0 + 2, none⟩ = some (.slice (some ⟨rb, 0, none⟩) D.length rc) from by first | exact (hS.ext hR).rvc hrvE | (obtain ⟨tv', U', lv', hS', -⟩ := hE; exact hS'.rvc hrvE)) ?_)
        exact ⟨h1, h2, h3, h9, h11, h48, h49, h50, h63, h64, h65, rfl, h67, h68, h69, hE⟩
      · -- state 29 of region 14
        rintro e w ⟨h1, h2, h3, h9, h11, h48, h49, h50, h63, h64, h65, h66, h67, h68, h69, hE⟩
        refine ⟨?_, trivial⟩
        skip
        refine WO.c rfl rfl (o_ixB (i := i) TI79 TI3 h66 h67 (by omega) ?_)
        exact ⟨h1, h2, h3, h9, h11, h48, h49, h50, h63, h64, h65, h66, h67, h68, h69, rfl, hE⟩
      · -- state 30 of region 14
        rintro e w ⟨h1, h2, h3, h9, h11, h48, h49, h50, h63, h64, h65, h66, h67, h68, h69, h70, hE⟩
        obtain ⟨tv', U', lv', hS', ho1', hC1', hC2', hC3'⟩ := hE
        have hro' := hS'.ro
        rw [hrvE] at hro'
        refine ⟨?_, trivial⟩
        skip
        refine WO.u rfl (o_stRj TI3 h70 (show 0 + i * 1 = i by omega) h69 rfl hro' (show Value.ownBlock (Value.slice (some ⟨rb, 0, none⟩) D.length rc) = some rb from rfl) (by omega) ?_)
        intro w8 hrt ho8 hs8
        rw [zvs_set] at hrt
        have hE : (∃ tv' U' lv', BS w0 w8 b47 dv rv D.length (upI (mkS D k).1 i r.1) r.2 tv' U' lv' [] ∧ w8.ownsRow w0.heap.size 3 1 o1 (ordN D).length ((ordN D).map iv) ∧ w8.heap[b1]? = some (.cells #[dv] 25 (0, 0)) ∧ w8.heap[c2]? = some (.cells #[.slice none 0 0, .slice none 0 0] 34 (0, 0)) ∧ w8.heap[c3]? = some (.cells #[.int .i64 0, .int .i64 0] 28 (0, 0))) := ⟨tv', U', lv', ⟨ho8.blk hS'.cell (fun h => own_off hro' hS'.cell (by decide) h), hS'.ty.only ho8 (fun b hb h => by
            rcases hb with hb | ⟨j, hj, hb⟩
            · exact own_row_off hS'.ty.row hro' (by decide) b h hb
            exact own_row_off (hS'.ty.tys.row j hj) hro' (by decide) b h hb), by rw [hrvE]; exact hrt, hS'.lf, hS'.ex.trans' ho8 (fun _ h => h) (fun b hb h => by have := (hro'.lt b h).1; omega), hS'.pH⟩,
          own_only ho1' ho8 (fun b hb h => by have h1 := ho1l b hb; have h2 := hrvl b (by rw [hrvE]; exact h); omega),
          ho8.blk hC1' (fun h => own_off hro' hC1' (by decide) h), ho8.blk hC2' (fun h => own_off hro' hC2' (by decide) h), ho8.blk hC3' (fun h => own_off hro' hC3' (by decide) h)⟩
        exact ⟨h1, h2, h3, h9, h11, h48, h49, h50, h63, h64, h65, h66, h67, h68, h69, h70, hE⟩
      -- state 31 of region 14
      rintro e w ⟨h1, h2, h3, h9, h11, h48, h49, h50, h63, h64, h65, h66, h67, h68, h69, h70, hE⟩
      obtain ⟨tv', U', lv', hS', ho1', hC1', hC2', hC3'⟩ := hE
      refine W.region ?_
      refine WL.c rfl (o_addi h50 rfl (by omega) ?_)
      refine WL.c rfl (o_mvh (show _ = Value.int _ _ from rfl) ?_)
      refine WL.nil ?_
      have hsc := mkS_succ hk1
      rw [← hie, ← hr] at hsc
      refine ⟨⟨k + 1, tv', U', lv', [], by omega, h1, h2, h3, h9, h48.trans hV.symm, h49, rfl, by rw [hsc]; exact hS', ho1', hC1', hC2', hC3', by rw [hsc]; show r.2.length ≤ _; omega⟩, ?_⟩
      show (ordN D).length - ((k : Int) + 1).toNat < _
      rw [hm50]; simp [intOf]; omega
    try simp only [cs8] at c51
    have hk1 : k = (ordN D).length := by omega
    obtain ⟨F, hF⟩ : ∃ x, x = (mkS D k).1 := ⟨_, rfl⟩
    obtain ⟨L, hL⟩ : ∃ x, x = (mkS D k).2 := ⟨_, rfl⟩
    rw [← hF, ← hL] at hS
    have hsT : schT D = L := by rw [hL, hk1, mkS_all]; rfl
    have hsR : schR D = rooN D F := by rw [hF, hk1, mkS_all]; rfl
    refine W.exit ?_
    refine W.seq ?_
    refine W.region ?_
    refine WL.c rfl (o_mvh h9 ?_)
    refine WL.c rfl (o_nil rfl ?_)
    refine WL.c rfl (o_fa 1 TI85 rfl TI31 rfl rfl ?_)
    refine WL.c rfl (o_ld TI31 rfl rfl (cell_of hS.cell rfl) ?_)
    refine WL.c rfl (o_bldC (cs := [tv, .slice none 0 0]) TI34 (Sizes.cons TI31 (Sizes.cons TI32 Sizes.nil)) rfl (lcp (show _ = tv from rfl) lnp) (by simp [own_one hS.ty.row]) rfl ?_)
    refine WL.c rfl (o_alB TI34 ?_)
    intro wa hCa hxa hsa
    refine WL.u (o_stA TI34 rfl (show _ = Value.agg ([tv, .slice none 0 0]).toArray from rfl) rfl (by simp [own_one hS.ty.row, show (Value.slice none 0 0).oneCell' = true from rfl]) hCa rfl ?_)
    intro wb12 hC12 hob hsb
    have hxb := Ext.own hxa (Nat.le_refl _) hob
    obtain ⟨b12, hb12⟩ : ∃ b, b = w.heap.size := ⟨_, rfl⟩
    rw [← hb12] at hC12 ⊢
    clear hCa hxa hsa hob hsb
    have hc212 : ¬ c2 = b12 := by have := blk_lt3 hC2; omega
    have hz12 : w0.heap.size ≤ b12 := by have := hS.ex.size; omega
    replace hS := hS.ext hxb
    replace hC1 := hxb.blk hC1 (fun h => h)
    replace hC2 := hxb.blk hC2 (fun h => h)
    replace hC3 := hxb.blk hC3 (fun h => h)
    clear hxb
    refine WL.nil ?_
    refine W.seq ?_
    refine W.seq ?_
    refine W.region ?_
    refine WL.c rfl (o_fa 0 TI25 rfl TI23 rfl h1 ?_)
    refine WL.c rfl (o_ld TI23 rfl rfl (cell_of hC1 rfl) ?_)
    refine WL.c rfl (o_lenR TI23 rfl ((hD00.ext hS.ex).row) ?_)
    refine WL.c rfl (o_mvh (show _ = Value.int _ _ from rfl) ?_)
    refine WL.nil ?_
    refine W.block ?_
    refine W.loop (fun e w => ∃ (q : Nat) (qv : Value), q ≤ D.length ∧ e 2 = .pointer (some ⟨c2, 0, none⟩) ∧ e 3 = .pointer (some ⟨c3, 0, none⟩) ∧ e 9 = .pointer (some ⟨b47, 0, none⟩) ∧ e 12 = .pointer (some ⟨b12, 0, none⟩) ∧ e 78 = dv ∧ e 79 = .int .i64 (D.length : Int) ∧ e 80 = .int .i64 (q : Int) ∧ BS w0 w b47 dv rv D.length F L tv U lv left ∧ w.heap[b12]? = some (.cells #[tv, qv] 34 (0, 0)) ∧ w.ownsRow w0.heap.size 47 2 qv q (ros ((rooN D F).take q)) ∧ w.heap[c2]? = some (.cells #[.slice none 0 0, .slice none 0 0] 34 (0, 0)) ∧ w.heap[c3]? = some (.cells #[.int .i64 0, .int .i64 0] 28 (0, 0))) (fun e w => D.length - (intOf (e 80)).toNat) ?_ ?_
    · exact ⟨0, .slice none 0 0, Nat.zero_le _, h2, h3, h9, rfl, rfl, rfl, rfl, hS, hC12, World.ownsRow_nil _ _ _ _, hC2, hC3⟩
    rintro e w ⟨q, qv, hq, h2, h3, h9, h12, h78, h79, h80, hS, hC12, hqv, hC2, hC3⟩
    have hm80 := h80
    refine W.seq ?_
    refine W.region ?_
    refine WL.c rfl (o_lt h80 h79 ?_)
    refine WL.nil ?_
    refine W.seq ?_
    refine W.cond rfl (fun c81 => ?_) (fun c81 => ?_)
    · try simp only [cs8] at c81
      have hq1 : q < D.length := by omega
      obtain ⟨gb, go, gc, hdv, hgc, hty⟩ := (hD00.ext hS.ex).atk hq1
      rw [hdv] at h78
      refine W.skip ?_
      refine W.seq ?_
      refine W.block ?_
      refine W.seq ?_
      refine W.region ?_
      refine WL.c rfl (o_mvh h80 ?_)
      refine WL.c rfl (o_ixB (i := q) TI23 TI39 h78 h80 (by omega) ?_)
      refine WL.c rfl (o_ldA TI39 rfl rfl hgc rfl ?_)
      refine WL.c rfl (o_alB TI39 ?_)
      intro wa hCa hxa hsa
      refine WL.c rfl (o_ash (show _ = Value.int _ _ from rfl) ?_)
      refine WL.u (o_stA TI39 rfl (show _ = Value.agg (dcell D[q] (V q)).toArray from rfl) rfl (by simp only [dcell, List.toArray, Array.toList, List.all_cons, List.all_nil, sl_one1 hty]; rfl) hCa rfl ?_)
      intro wb14 hC14 hob hsb
      have hxb := Ext.own hxa (Nat.le_refl _) hob
      obtain ⟨b14, hb14⟩ : ∃ b, b = w.heap.size := ⟨_, rfl⟩
      rw [← hb14] at hC14 ⊢
      clear hCa hxa hsa hob hsb
      replace hS := hS.ext hxb
      replace hqv := own_ext hqv hxb
      replace hC12 := hxb.blk hC12 (fun h => h)
      replace hC2 := hxb.blk hC2 (fun h => h)
      replace hC3 := hxb.blk hC3 (fun h => h)
      clear hxb
      refine WL.nil ?_
      obtain ⟨RR, hRR⟩ : ∃ x : Ro, x = ⟨D[q].name, F q⟩ := ⟨_, rfl⟩
      obtain ⟨wd2, hwd2⟩ : ∃ wd, wd = wb14.drew := ⟨_, rfl⟩
      have hxd : Ext wb14 wd2 := hwd2 ▸ Only.drew wb14
      replace hS := hS.ext hxd
      replace hqv := own_ext hqv hxd
      replace hC12 := hxd.blk hC12 (fun h => h)
      replace hC2 := hxd.blk hC2 (fun h => h)
      replace hC3 := hxd.blk hC3 (fun h => h)
      replace hC14 := hxd.blk hC14 (fun h => h)
      have hlt : ∀ b, qv.ownBlock = some b → b < wd2.heap.size := fun b hb => (hqv.lt b hb).2
      have hw00 := hS.ex.size
      obtain ⟨rb, rc, hrvE, hrvb⟩ := own_some hS.ro (by omega)
      refine W.drawF 14 [13] [fun k => qv.ownBlock = some k] [(2, fun v _ => v = _), (3, fun v _ => v = _), (9, fun v _ => v = _), (12, fun v _ => v = _), (13, fun v _ => v = _), (14, fun v _ => v = _), (78, fun v _ => v = _), (79, fun v _ => v = _), (80, fun v _ => v = _)] rfl (by kernel_rfl) (by kernel_rfl) ⟨Mono.eq, Mono.eq, Mono.eq, Mono.eq, Mono.eq, Mono.eq, Mono.eq, Mono.eq, Mono.eq, trivial⟩ ⟨h2, h3, h9, h12, rfl, rfl, h78, h79, h80, trivial⟩ ?_
      refine WDS.p rfl (by decide) (fun e w hR hh => by obtain ⟨h12, -⟩ := hh; exact SG.n (o_fa 1 TI34 rfl TI32 rfl h12 ⟨rfl, Only.refl No _⟩)) ?_
      refine WDS.p rfl (by decide) (fun e w hR hh => by obtain ⟨h85, -⟩ := hh; rw [← hwd2] at hR; have hc := hR.blk hC12 (fun hF => by rcases hF with hF | hF <;> first | exact hF | exact own_off hqv hC12 (by decide) hF); exact SG.n (o_ld TI32 rfl h85 (cell_of hc rfl) ⟨rfl, Only.refl No _⟩)) ?_
      refine WDS.p rfl (by decide) (fun e w hR hh => by obtain ⟨h14, -⟩ := hh; exact SG.n (o_fa 0 TI39 rfl TI9 rfl h14 ⟨rfl, Only.refl No _⟩)) ?_
      refine WDS.p rfl (by decide) (fun e w hR hh => by obtain ⟨h87, -⟩ := hh; rw [← hwd2] at hR; have hc := hR.blk hC14 (fun hF => by rcases hF with hF | hF <;> first | exact hF | exact own_off hqv hC14 (by decide) hF); exact SG.n (o_ld TI9 rfl h87 (cell_of hc rfl) ⟨rfl, Only.refl No _⟩)) ?_
      refine WDS.p rfl (by decide) (fun e w hR hh => by obtain ⟨h9, -⟩ := hh; exact SG.n (o_mvh h9 ⟨rfl, Only.refl No _⟩)) ?_
      refine WDS.p rfl (by decide) (fun e w hR hh => by obtain ⟨h89, -⟩ := hh; exact SG.n (o_nil h89 ⟨rfl, Only.refl No _⟩)) ?_
      refine WDS.p rfl (by decide) (fun e w hR hh => by obtain ⟨h90, -⟩ := hh; exact SG.n (o_fa 2 TI85 rfl TI79 rfl h90 ⟨rfl, Only.refl No _⟩)) ?_
      refine WDS.p rfl (by decide) (fun e w hR hh => by obtain ⟨h91, -⟩ := hh; rw [← hwd2] at hR; have hc := hR.blk hS.cell (fun hF => by rcases hF with hF | hF <;> first | exact hF | exact own_off hqv hS.cell (by decide) hF); exact SG.n (o_ld TI79 rfl h91 (show World.cell? _ ⟨b47, 0 + 2, none⟩ = some (.slice (some ⟨rb, 0, none⟩) D.length rc) from by rw [← hrvE]; exact cell_of hc rfl) ⟨rfl, Only.refl No _⟩)) ?_
      refine WDS.p rfl (by decide) (fun e w hR hh => by obtain ⟨h13, -⟩ := hh; exact SG.n (o_mvh h13 ⟨rfl, Only.refl No _⟩)) ?_
      refine WDS.p rfl (by decide) (fun e w hR hh => by obtain ⟨h93, h92, -⟩ := hh; exact SG.n (o_ixB (i := q) TI79 TI3 h92 h93 (by omega) ⟨rfl, Only.refl No _⟩)) ?_
      refine WDS.p rfl (by decide) (fun e w hR hh => by obtain ⟨h94, -⟩ := hh; rw [← hwd2] at hR; have hro := own_only hS.ro hR (fun b hb => fun hF => by rcases hF with hF | hF <;> first | exact hF | exact own_row_off hqv hS.ro (by decide) b hb hF); rw [hrvE] at hro; exact SG.n (o_ld TI3 rfl h94 (show World.cell? _ ⟨rb, 0 + q * 1, none⟩ = some (.int .i64 (F q)) from by rw [Nat.zero_add, Nat.mul_one]; exact own_cell hro (zvs_at hq1)) ⟨rfl, Only.refl No _⟩)) ?_
      refine WDS.p rfl (by decide) (fun e w hR hh => by obtain ⟨h95, h88, -⟩ := hh; exact SG.n (o_bldC (cs := [_, _]) TI47 (Sizes.cons TI9 (Sizes.cons TI3 Sizes.nil)) rfl (lcp h88 (lcp h95 lnp)) rfl rfl ⟨rfl, Only.refl No _⟩)) ?_
      refine WDS.q 0 (fun v w => w.ownsRow wd2.heap.size 47 2 v 1 (roV RR)) (fun v w w2 hR hh => own_only hh hR (fun k hk hF => by rcases hF with hF | hF <;> first | exact hF | (have := hlt k hF; have := (hh.lt k hk).1; omega))) (by kernel_rfl) rfl (by decide) (fun e w hR hh => by obtain ⟨h96, -⟩ := hh; rw [← hwd2] at hR; exact SG.n (o_bs1 TI32 TI47 (show _ = Value.agg (roV RR).toArray from by rw [hRR]; exact h96) (by decide) (by decide) rfl ⟨own_mono (own_new1 rfl) hR.size, Only.alloc w _⟩)) ?_
      refine WDS.mf 0 1 (fun v w => w.ownsRow w0.heap.size 47 2 v (q + 1) (ros ((rooN D F).take q) ++ roV RR)) (fun v w w2 hR hh => own_ext hh hR) (by kernel_rfl) rfl rfl rfl (fun e w hR hW hh => by obtain ⟨h97, h86, -⟩ := hh; rw [← hwd2] at hR hW; have hW2 : Ext wd2 w := hW.mono (fun _ _ h => h); have hw2 := hR.size; exact SGX.n (OP.x (o_apO w0.heap.size TI32 TI47 h86 rfl (own_ext hqv hW2) (Sl.own h97) rfl (by decide) (roV_all RR) (by rw [maxLen_eq]; omega) (by omega) (by omega) (fun v' w' h1 h2 h3 _ => ⟨h1, h2⟩)))) ?_
      rintro e w hR ⟨h98, h97, h96, h95, h94, h93, h92, h91, h90, h89, h88, h87, h86, h85, h2, h3, h9, h12, h13, h14, h78, h79, h80, -⟩
      rw [← hwd2] at hR
      obtain ⟨v98, hv98⟩ : ∃ v, v = e 98 := ⟨_, rfl⟩
      rw [← hv98] at h98
      replace hC12 := hR.blk hC12 (fun hF => by rcases hF with hF | hF <;> first | exact hF | exact own_off hqv hC12 (by decide) hF)
      replace hC2 := hR.blk hC2 (fun hF => by rcases hF with hF | hF <;> first | exact hF | exact own_off hqv hC2 (by decide) hF)
      replace hC3 := hR.blk hC3 (fun hF => by rcases hF with hF | hF <;> first | exact hF | exact own_off hqv hC3 (by decide) hF)
      replace hS := hS.only hR (fun hF => by rcases hF with hF | hF <;> first | exact hF | exact own_off hqv hS.cell (by decide) hF) (fun b hb => fun hF => by rcases hF with hF | hF <;> first | exact hF | exact own_row_off hqv hS.ty.row (by decide) b hb hF) (fun j hj b hb => fun hF => by rcases hF with hF | hF <;> first | exact hF | exact own_row_off hqv (hS.ty.tys.row j hj) (by decide) b hb hF) (fun b hb => fun hF => by rcases hF with hF | hF <;> first | exact hF | exact own_row_off hqv hS.ro (by decide) b hb hF) (fun b hF => by rcases hF with hF | hF <;> first | exact (hqv.lt b hF).1 | exact hF.elim)
      refine WL.c rfl (o_fa 1 TI34 rfl TI32 rfl h12 ?_)
      refine WL.u (o_stB TI32 rfl (show _ = v98 from hv98.symm) (own_one h98) hC12 (show 1 < 2 by decide) ?_)
      intro w9 hC12n ho9 hs9
      replace hC12n : w9.heap[b12]? = some (.cells #[tv, v98] 34 (0, 0)) := hC12n
      have hof := hS.off hC12 (by decide) (by decide) (by decide)
      have hnt : ∀ b, tv.ownBlock = some b → ¬ b = b12 := fun b hb e => by subst e; exact own_off hS.ty.row hC12 (by decide) hb
      replace hS := hS.only ho9 hof.1 hnt hof.2.1 hof.2.2 (fun b e => by omega)
      have hqv2 := own_only h98 ho9 (fun b hb e => by subst e; exact own_off h98 hC12 (by decide) hb)
      replace hC2 := ho9.blk hC2 hc212
      replace hC3 := ho9.blk hC3 (blk_ne3 hC3 hC12 (by decide))
      refine WL.nil ?_
      refine W.region ?_
      refine WL.c rfl (o_addi h80 rfl (by omega) ?_)
      refine WL.c rfl (o_mvh (show _ = Value.int _ _ from rfl) ?_)
      refine WL.nil ?_
      refine ⟨⟨q + 1, v98, by omega, h2, h3, h9, h12, h78.trans hdv.symm, h79, rfl, hS, hC12n, by rw [rooN_take hq1, ros_snoc, ← hRR]; exact hqv2, hC2, hC3⟩, ?_⟩
      show D.length - ((q : Int) + 1).toNat < _
      rw [hm80]; simp [intOf]; omega
    try simp only [cs8] at c81
    have hq1 : q = D.length := by omega
    refine W.exit ?_
    refine W.seq ?_
    skip
    skip
    refine W.region ?_
    refine WL.c rfl (o_ldA TI34 rfl h12 (show Cells _ b12 0 [tv, qv] from Cells.of hC12 0 _ (by simp)) rfl ?_)
    refine WL.c rfl (o_bldC (cs := [(.int .i64 0), (.int .i64 0)]) TI28 (Sizes.cons TI26 (Sizes.cons TI3 Sizes.nil)) rfl lnp rfl rfl ?_)
    refine WL.u (o_stA TI34 h2 (show _ = Value.agg #[tv, qv] from rfl) rfl (by simp [own_one hqv, own_one hS.ty.row]) hC2 rfl ?_)
    intro wy hC2y hoy hsy
    replace hC2y : wy.heap[c2]? = some (.cells #[tv, qv] 34 (0, 0)) := hC2y
    have hTy := hS.ty.only hoy (fun b hb e => by
      subst e
      rcases hb with hb | ⟨j, hj, hb⟩
      · exact own_off hS.ty.row hC2 (by decide) hb
      exact own_off (hS.ty.tys.row j hj) hC2 (by decide) hb)
    replace hqv := own_only hqv hoy (fun b hb e => by subst e; exact own_off hqv hC2 (by decide) hb)
    have hx := hS.ex.trans' hoy (fun _ h => h) (fun b hb e => by omega)
    replace hC3 := hoy.blk hC3 (blk_ne3 hC3 hC2 (by decide))
    refine WL.u (o_stA TI28 h3 (show _ = Value.agg #[.int .i64 0, .int .i64 0] from rfl) rfl rfl hC3 rfl ?_)
    intro wz hC3z hoz hsz
    replace hC2y := hoz.blk hC2y (blk_ne3 hC2y hC3 (by decide))
    replace hTy := hTy.only hoz (fun b hb e => by
      subst e
      rcases hb with hb | ⟨j, hj, hb⟩
      · exact own_off hTy.row hC3 (by decide) hb
      exact own_off (hTy.tys.row j hj) hC3 (by decide) hb)
    replace hqv := own_only hqv hoz (fun b hb e => by subst e; exact own_off hqv hC3 (by decide) hb)
    replace hx := hx.trans' hoz (fun _ h => h) (fun b hb e => by omega)
    refine WL.nil ?_
    refine W.ret ?_
    refine retAA rfl TI34 rfl TI28 rfl h2 h3 (show Cells _ c2 0 [tv, qv] from Cells.of hC2y 0 _ (by simp)) rfl (show Cells _ c3 0 [.int .i64 0, .int .i64 0] from Cells.of hC3z 0 _ (by simp)) rfl ?_
    obtain ⟨hv1, hv2⟩ := bldV_no hbl
    refine ⟨tv, qv, U, by rw [hv1, hv2], ?_, hx⟩
    have e1 : bldT D = L := by unfold bldT; rw [if_pos hbl, hsT]
    have e2 : bldR D = rooN D F := by unfold bldR; rw [if_pos hbl, hsR]
    have e3 : (rooN D F).length = D.length := by simp [rooN]
    rw [e1, e2, hb1]
    rw [hq1, List.take_of_length_le (by rw [e3]; exact Nat.le_refl _)] at hqv
    exact ⟨hTy, by rw [e3]; exact hqv⟩
  skip
  obtain ⟨ge, hge⟩ : ∃ x, x = fe := ⟨_, rfl⟩
  obtain ⟨ga, hga⟩ : ∃ x, x = fa := ⟨_, rfl⟩
  rw [← hge, ← hga] at hC8
  have hb : bldF D = some (ge, ga) := by rw [hge, hga]; exact bld_fA hck (fA_of_flt hf hfe)
  refine W.region ?_
  refine WL.c rfl (o_fa 0 TI28 rfl TI26 rfl rfl ?_)
  refine WL.c rfl (o_ld TI26 rfl rfl (cell_of hC8 rfl) ?_)
  refine WL.c rfl (o_eq rfl rfl ?_)
  refine WL.nil ?_
  refine W.condF' rfl (by simp; rw [hge]; exact hfe) ?_
  refine W.skip ?_
  refine W.seq ?_
  refine W.seq ?_
  refine W.region ?_
  refine WL.c rfl (o_fa 0 TI28 rfl TI26 rfl rfl ?_)
  refine WL.c rfl (o_ld TI26 rfl rfl (cell_of hC8 rfl) ?_)
  refine WL.c rfl (o_ne rfl rfl ?_)
  refine WL.nil ?_
  refine W.condT' rfl (by simp; rw [hge]; exact hfe) ?_
  refine W.seq ?_
  skip
  skip
  refine W.cut (fun e1 w1 => e1 2 = .pointer (some ⟨c2, 0, none⟩) ∧ e1 3 = .pointer (some ⟨c3, 0, none⟩) ∧ w1.heap[c2]? = some (.cells #[.slice none 0 0, .slice none 0 0] 34 (0, 0)) ∧ w1.heap[c3]? = some (.cells #[.int .i64 ge, .int .i64 ga] 28 (0, 0)) ∧ Ext w0 w1) ?_ ?_
  · -- region 8
    refine W.enum rfl ?_
    have hd := Only.drew wb8
    replace hC2 := hd.blk hC2 (fun h => h)
    replace hC3 := hd.blk hC3 (fun h => h)
    replace hC8 := hd.blk hC8 (fun h => h)
    replace hx := hx.tr hd
    clear hd
    generalize wb8.drew = wd at *
    refine WA.step (r := [0, 1]) (by kernel_rfl) (by decide) (all2 ?_ ?_)
    · skip
      refine WO.c rfl rfl (o_bldC (cs := [(.slice none 0 0), (.slice none 0 0)]) TI34 (Sizes.cons TI31 (Sizes.cons TI32 Sizes.nil)) rfl lnp rfl rfl ?_)
      refine WA.step (r := [1, 2]) (by kernel_rfl) (by decide) (all2 ?_ ?_)
      · skip
        refine WO.c rfl rfl (o_ldA TI28 rfl rfl (show Cells _ b8 0 [.int .i64 ge, .int .i64 ga] from Cells.of hC8 0 _ (by simp)) rfl ?_)
        refine WA.step (r := [2]) (by kernel_rfl) (by decide) (all1 ?_)
        refine WO.u rfl (o_stA TI34 rfl (show _ = Value.agg #[.slice none 0 0, .slice none 0 0] from rfl) rfl rfl hC2 rfl ?_)
        intro wy hC2y hoy hsy
        replace hC3 := hoy.blk hC3 (blk_ne3 hC3 hC2 (by decide))
        replace hC8 := hoy.blk hC8 (blk_ne3 hC8 hC2 (by decide))
        replace hx := hx.trans' hoy (fun _ h => h) (fun b hb he => by omega)
        replace hC2 : wy.heap[c2]? = some (.cells #[.slice none 0 0, .slice none 0 0] 34 (0, 0)) := hC2y
        refine WA.step (r := [3]) (by kernel_rfl) (by decide) (all1 ?_)
        refine WO.u rfl (o_stA TI28 rfl (show _ = Value.agg #[.int .i64 ge, .int .i64 ga] from rfl) rfl rfl hC3 rfl ?_)
        intro wz hC3z hoz hsz
        replace hC2 := hoz.blk hC2 (blk_ne3 hC2 hC3 (by decide))
        replace hx := hx.trans' hoz (fun _ h => h) (fun b hb he => by omega)
        replace hC3 : wz.heap[c3]? = some (.cells #[.int .i64 ge, .int .i64 ga] 28 (0, 0)) := hC3z
        refine WA.done (by kernel_rfl) ?_
        exact ⟨rfl, rfl, hC2, hC3, hx⟩
      skip
      refine WO.u rfl (o_stA TI34 rfl (show _ = Value.agg #[.slice none 0 0, .slice none 0 0] from rfl) rfl rfl hC2 rfl ?_)
      intro wy hC2y hoy hsy
      replace hC3 := hoy.blk hC3 (blk_ne3 hC3 hC2 (by decide))
      replace hC8 := hoy.blk hC8 (blk_ne3 hC8 hC2 (by decide))
      replace hx := hx.trans' hoy (fun _ h => h) (fun b hb he => by omega)
      replace hC2 : wy.heap[c2]? = some (.cells #[.slice none 0 0, .slice none 0 0] 34 (0, 0)) := hC2y
      refine WA.step (r := [1]) (by kernel_rfl) (by decide) (all1 ?_)
      refine WO.c rfl rfl (o_ldA TI28 rfl rfl (show Cells _ b8 0 [.int .i64 ge, .int .i64 ga] from Cells.of hC8 0 _ (by simp)) rfl ?_)
      refine WA.step (r := [3]) (by kernel_rfl) (by decide) (all1 ?_)
      refine WO.u rfl (o_stA TI28 rfl (show _ = Value.agg #[.int .i64 ge, .int .i64 ga] from rfl) rfl rfl hC3 rfl ?_)
      intro wz hC3z hoz hsz
      replace hC2 := hoz.blk hC2 (blk_ne3 hC2 hC3 (by decide))
      replace hx := hx.trans' hoz (fun _ h => h) (fun b hb he => by omega)
      replace hC3 : wz.heap[c3]? = some (.cells #[.int .i64 ge, .int .i64 ga] 28 (0, 0)) := hC3z
      refine WA.done (by kernel_rfl) ?_
      exact ⟨rfl, rfl, hC2, hC3, hx⟩
    skip
    refine WO.c rfl rfl (o_ldA TI28 rfl rfl (show Cells _ b8 0 [.int .i64 ge, .int .i64 ga] from Cells.of hC8 0 _ (by simp)) rfl ?_)
    refine WA.step (r := [0]) (by kernel_rfl) (by decide) (all1 ?_)
    refine WO.c rfl rfl (o_bldC (cs := [(.slice none 0 0), (.slice none 0 0)]) TI34 (Sizes.cons TI31 (Sizes.cons TI32 Sizes.nil)) rfl lnp rfl rfl ?_)
    refine WA.step (r := [2]) (by kernel_rfl) (by decide) (all1 ?_)
    refine WO.u rfl (o_stA TI34 rfl (show _ = Value.agg #[.slice none 0 0, .slice none 0 0] from rfl) rfl rfl hC2 rfl ?_)
    intro wy hC2y hoy hsy
    replace hC3 := hoy.blk hC3 (blk_ne3 hC3 hC2 (by decide))
    replace hC8 := hoy.blk hC8 (blk_ne3 hC8 hC2 (by decide))
    replace hx := hx.trans' hoy (fun _ h => h) (fun b hb he => by omega)
    replace hC2 : wy.heap[c2]? = some (.cells #[.slice none 0 0, .slice none 0 0] 34 (0, 0)) := hC2y
    refine WA.step (r := [3]) (by kernel_rfl) (by decide) (all1 ?_)
    refine WO.u rfl (o_stA TI28 rfl (show _ = Value.agg #[.int .i64 ge, .int .i64 ga] from rfl) rfl rfl hC3 rfl ?_)
    intro wz hC3z hoz hsz
    replace hC2 := hoz.blk hC2 (blk_ne3 hC2 hC3 (by decide))
    replace hx := hx.trans' hoz (fun _ h => h) (fun b hb he => by omega)
    replace hC3 : wz.heap[c3]? = some (.cells #[.int .i64 ge, .int .i64 ga] 28 (0, 0)) := hC3z
    refine WA.done (by kernel_rfl) ?_
    exact ⟨rfl, rfl, hC2, hC3, hx⟩
  rintro e w ⟨h2, h3, hC2y, hC3z, hx⟩
  refine W.ret ?_
  refine retAA rfl TI34 rfl TI28 rfl h2 h3 (show Cells _ c2 0 [.slice none 0 0, .slice none 0 0] from Cells.of hC2y 0 _ (by simp)) rfl (show Cells _ c3 0 [.int .i64 ge, .int .i64 ga] from Cells.of hC3z 0 _ (by simp)) rfl ?_
  obtain ⟨hv1, hv2⟩ := bldV_of hb
  refine ⟨.slice none 0 0, .slice none 0 0, fun _ => undef, by rw [hv1, hv2], ?_, hx⟩
  rw [(bld_bad hb).1, (bld_bad hb).2]
  exact Schs.nil _ _ _
end Go.Proofs.Ytpbflfgigfdohaa

set_option linter.unusedSimpArgs false
set_option linter.unusedVariables false
set_option maxRecDepth 100000
namespace Go.Proofs.Ytpbflfgigfdohaa
open Go Go.Vc Go.RowKit Go.Proofs

theorem whr_hit {R : List Ro} {nm : List UInt8} {k : Nat} (hk : k < R.length) (h : R[k].name = nm) (hb : ∀ j, j < k → ¬ (R.getD j ro0).name = nm) : whR R nm = some k := by
  refine List.findIdx?_eq_some_iff_getElem.2 ⟨hk, decide_eq_true h, fun j hj => ?_⟩
  have := hb j hj
  rw [List.getD_eq_getElem?_getD, List.getElem?_eq_getElem (by omega)] at this
  simpa using this
theorem whr_miss {R : List Ro} {nm : List UInt8} (hb : ∀ j, j < R.length → ¬ (R.getD j ro0).name = nm) : whR R nm = none := by
  refine List.findIdx?_eq_none_iff.2 fun d hd => ?_
  obtain ⟨j, hj, rfl⟩ := List.getElem_of_mem hd
  have := hb j hj
  rw [List.getD_eq_getElem?_getD, List.getElem?_eq_getElem hj] at this
  simpa using this
theorem rgetD_at {R : List Ro} {k : Nat} (hk : k < R.length) : R.getD k ro0 = R[k] := by simp [List.getD_eq_getElem?_getD, hk]

set_option maxHeartbeats 2000000 in
theorem tfind_spec (R : List Ro) (tv rv : Value) (nm : List UInt8) (w0 : World) (hR : Sl w0 2 rv R.length (ros R)) (hlr : R.length * 24 ≤ 140737488351232) (h1v : tv.oneCell' = true) : Ca Try.prog 10 #[.agg #[tv, rv], st nm] w0 (fun v w' => v = .tuple #[.int .i64 (((whR R nm).getD 0 : Nat) : Int), .int .i64 (if (whR R nm).isSome then 0 else 93)] ∧ Ext w0 w') := by
  refine Ca.of Try.func10 Try.ntmps10 rfl rfl ?_
  refine W.seq ?_
  refine W.region ?_
  refine WL.c rfl (o_boxB rfl ?_)
  intro w2 hC2 hx2 hs2
  obtain ⟨b2, hb2⟩ : ∃ b, b = w0.heap.size := ⟨_, rfl⟩
  rw [← hb2] at hC2 ⊢
  replace hC2 : w2.heap[b2]? = some (.cells ([tv, rv]).toArray 34 (0, 0)) := hC2
  have hx := hx2
  replace hR := hR.ext hx2
  refine WL.c rfl (o_ash (show _ = Value.int _ _ from rfl) ?_)
  refine WL.c rfl (o_ash (show _ = Value.int _ _ from rfl) ?_)
  refine WL.nil ?_
  refine W.seq ?_
  refine W.seq ?_
  refine W.region ?_
  refine WL.c rfl (o_fa 1 TI34 rfl TI32 rfl rfl ?_)
  refine WL.c rfl (o_ld TI32 rfl rfl (cell_of hC2 rfl) ?_)
  refine WL.c rfl (o_lenR TI32 rfl hR ?_)
  refine WL.c rfl (o_mvh (show _ = Value.int _ _ from rfl) ?_)
  refine WL.nil ?_
  refine W.block ?_
  refine W.loop (fun e w => ∃ k : Nat, k ≤ R.length ∧ e 1 = st nm ∧ e 9 = rv ∧ e 10 = .int .i64 (R.length : Int) ∧ e 11 = .int .i64 (k : Int) ∧ Sl w 2 rv R.length (ros R) ∧ (∀ j, j < k → ¬ (R.getD j ro0).name = nm) ∧ Ext w0 w) (fun e w => R.length - (intOf (e 11)).toNat) ?_ ?_
  · exact ⟨0, Nat.zero_le _, rfl, rfl, rfl, rfl, hR, fun j hj => by omega, hx⟩
  rintro e w ⟨k, hk, h1, h9, h10, h11, hR, hno, hx⟩
  have hm11 := h11
  refine W.seq ?_
  refine W.region ?_
  refine WL.c rfl (o_lt h11 h10 ?_)
  refine WL.nil ?_
  refine W.seq ?_
  refine W.cond rfl (fun c12 => ?_) (fun c12 => ?_)
  · try simp only [cs8] at c12
    have hk1 : k < R.length := by omega
    obtain ⟨ub, uo, uc, hrv, huc⟩ := Sl.roq hR hk1
    rw [hrv] at h9
    refine W.skip ?_
    refine W.seq ?_
    refine W.block ?_
    refine W.seq ?_
    refine W.region ?_
    refine WL.c rfl (o_mvh h11 ?_)
    refine WL.c rfl (o_ixB (i := k) TI32 TI47 h9 h11 (by omega) ?_)
    refine WL.c rfl (o_ldA TI47 rfl rfl huc rfl ?_)
    refine WL.c rfl (o_alB TI47 ?_)
    intro wa hCa hxa hsa
    refine WL.c rfl (o_ash (show _ = Value.int _ _ from rfl) ?_)
    refine WL.u (o_stA TI47 rfl (show _ = Value.agg (roV R[k]).toArray from rfl) rfl rfl hCa rfl ?_)
    intro wb7 hC7 hob hsb
    have hxb := Ext.own hxa (Nat.le_refl _) hob
    obtain ⟨b7, hb7⟩ : ∃ b, b = w.heap.size := ⟨_, rfl⟩
    rw [← hb7] at hC7 ⊢
    clear hCa hxa hsa hob hsb
    replace hx := hx.tr hxb
    replace hR := hR.ext hxb
    clear hxb
    refine WL.nil ?_
    refine W.seq ?_
    refine W.region ?_
    refine WL.c rfl (o_fa 0 TI47 rfl TI9 rfl rfl ?_)
    refine WL.c rfl (o_ld TI9 rfl rfl (cell_of hC7 rfl) ?_)
    refine WL.c rfl (o_mvh h1 ?_)
    refine WL.c rfl (o_eqT rfl rfl ?_)
    refine WL.nil ?_
    refine W.cond rfl (fun c19 => ?_) (fun c19 => ?_)
    · try simp only [cs8] at c19
      refine W.seq ?_
      refine W.region ?_
      refine WL.c rfl (o_mvh (show _ = Value.int _ _ from rfl) ?_)
      refine WL.c rfl (o_ash (show _ = Value.int _ _ from rfl) ?_)
      refine WL.c rfl (o_ash (show _ = Value.int _ _ from rfl) ?_)
      refine WL.nil ?_
      refine W.ret ?_
      refine ret2v rfl (show _ = Value.int _ _ from rfl) (show _ = Value.int _ _ from rfl) ?_
      exact ⟨by rw [whr_hit hk1 (by simpa using c19) hno]; rfl, hx⟩
    try simp only [cs8] at c19
    refine W.skip ?_
    refine W.region ?_
    refine WL.c rfl (o_addi h11 rfl (by omega) ?_)
    refine WL.c rfl (o_mvh (show _ = Value.int _ _ from rfl) ?_)
    refine WL.nil ?_
    refine ⟨⟨k + 1, by omega, h1, h9.trans hrv.symm, h10, rfl, hR, fun j hj => ?_, hx⟩, ?_⟩
    · rcases Nat.lt_or_ge j k with h | h
      · exact hno j h
      rw [show j = k by omega, rgetD_at hk1]; simpa using c19
    show R.length - ((k : Int) + 1).toNat < _
    rw [hm11]; simp [intOf]; omega
  try simp only [cs8] at c12
  have hk1 : k = R.length := by omega
  refine W.exit ?_
  refine W.seq ?_
  refine W.region ?_
  refine WL.c rfl (o_ash (show _ = Value.int _ _ from rfl) ?_)
  refine WL.c rfl (o_ash (show _ = Value.int _ _ from rfl) ?_)
  refine WL.nil ?_
  refine W.ret ?_
  refine ret2v rfl (show _ = Value.int _ _ from rfl) (show _ = Value.int _ _ from rfl) ?_
  exact ⟨by rw [whr_miss (fun j hj => hno j (by omega))]; rfl, hx⟩
set_option maxHeartbeats 2000000 in
theorem trfind_spec (R : List Ro) (tv rv : Value) (nm : List UInt8) (w0 : World) (hR : Sl w0 2 rv R.length (ros R)) (hlr : R.length * 24 ≤ 140737488351232) (h1v : tv.oneCell' = true) : Ca Try.prog 17 #[.agg #[tv, rv], st nm] w0 (fun v w' => v = .tuple #[.int .i64 (((whR R nm).getD 0 : Nat) : Int), .int .i64 (if (whR R nm).isSome then 0 else 93)] ∧ Ext w0 w') := by
  refine Ca.of Try.func17 Try.ntmps17 rfl rfl ?_
  refine W.seq ?_
  refine W.region ?_
  refine WL.c rfl (o_boxB rfl ?_)
  intro w2 hC2 hx2 hs2
  obtain ⟨b2, hb2⟩ : ∃ b, b = w0.heap.size := ⟨_, rfl⟩
  rw [← hb2] at hC2 ⊢
  replace hC2 : w2.heap[b2]? = some (.cells ([tv, rv]).toArray 34 (0, 0)) := hC2
  have hx := hx2
  replace hR := hR.ext hx2
  refine WL.c rfl (o_ash (show _ = Value.int _ _ from rfl) ?_)
  refine WL.c rfl (o_ash (show _ = Value.int _ _ from rfl) ?_)
  refine WL.nil ?_
  refine W.seq ?_
  refine W.seq ?_
  refine W.region ?_
  refine WL.c rfl (o_ash (show _ = Value.int _ _ from rfl) ?_)
  refine WL.nil ?_
  refine W.block ?_
  refine W.loop (fun e w => ∃ k : Nat, k ≤ R.length ∧ e 1 = st nm ∧ e 2 = .pointer (some ⟨b2, 0, none⟩) ∧ e 6 = .int .i64 (k : Int) ∧ w.heap[b2]? = some (.cells #[tv, rv] 34 (0, 0)) ∧ Sl w 2 rv R.length (ros R) ∧ (∀ j, j < k → ¬ (R.getD j ro0).name = nm) ∧ Ext w0 w) (fun e w => R.length - (intOf (e 6)).toNat) ?_ ?_
  · exact ⟨0, Nat.zero_le _, rfl, rfl, rfl, hC2, hR, fun j hj => by omega, hx⟩
  rintro e w ⟨k, hk, h1, h2, h6, hC2, hR, hno, hx⟩
  have hm6 := h6
  refine W.seq ?_
  refine W.seq ?_
  refine W.region ?_
  refine WL.c rfl (o_mvh h6 ?_)
  refine WL.c rfl (o_fa 1 TI34 rfl TI32 rfl h2 ?_)
  refine WL.c rfl (o_ld TI32 rfl rfl (cell_of hC2 rfl) ?_)
  refine WL.c rfl (o_lenR TI32 rfl hR ?_)
  refine WL.c rfl (o_lt rfl rfl ?_)
  refine WL.nil ?_
  refine W.cond rfl (fun c11 => ?_) (fun c11 => ?_)
  · try simp only [cs8] at c11
    have hk1 : k < R.length := by omega
    obtain ⟨ub, uo, uc, hrv, huc⟩ := Sl.roq hR hk1
    have hC2s := hC2
    rw [hrv] at hC2s
    refine W.skip ?_
    refine W.seq ?_
    refine W.block ?_
    refine W.seq ?_
    refine W.region ?_
    refine WL.c rfl (o_fa 1 TI34 rfl TI32 rfl h2 ?_)
    refine WL.c rfl (o_ld TI32 rfl rfl (cell_of hC2s rfl) ?_)
    refine WL.c rfl (o_mvh h6 ?_)
    refine WL.c rfl (o_ixB (i := k) TI32 TI47 (show _ = Value.slice (some ⟨ub, uo, none⟩) R.length uc from rfl) (show _ = Value.int .i64 (k : Int) from rfl) (by omega) ?_)
    refine WL.c rfl (o_fa 0 TI47 rfl TI9 rfl rfl ?_)
    refine WL.c rfl (o_ld TI9 rfl rfl (huc 0 _ rfl) ?_)
    refine WL.c rfl (o_mvh h1 ?_)
    refine WL.c rfl (o_eqT rfl rfl ?_)
    refine WL.nil ?_
    refine W.cond rfl (fun c21 => ?_) (fun c21 => ?_)
    · try simp only [cs8] at c21
      refine W.seq ?_
      refine W.region ?_
      refine WL.c rfl (o_mvh h6 ?_)
      refine WL.c rfl (o_ash (show _ = Value.int _ _ from rfl) ?_)
      refine WL.c rfl (o_ash (show _ = Value.int _ _ from rfl) ?_)
      refine WL.nil ?_
      refine W.ret ?_
      refine ret2v rfl (show _ = Value.int _ _ from rfl) (show _ = Value.int _ _ from rfl) ?_
      exact ⟨by rw [whr_hit hk1 (by simpa using c21) hno]; rfl, hx⟩
    try simp only [cs8] at c21
    refine W.skip ?_
    refine W.region ?_
    refine WL.c rfl (o_mvh h6 ?_)
    refine WL.c rfl (o_addi rfl rfl (by omega) ?_)
    refine WL.c rfl (o_ash (show _ = Value.int _ _ from rfl) ?_)
    refine WL.nil ?_
    refine ⟨⟨k + 1, by omega, h1, h2, rfl, hC2, hR, fun j hj => ?_, hx⟩, ?_⟩
    · rcases Nat.lt_or_ge j k with h | h
      · exact hno j h
      rw [show j = k by omega, rgetD_at hk1]; simpa using c21
    show R.length - ((k : Int) + 1).toNat < _
    rw [hm6]; simp [intOf]; omega
  try simp only [cs8] at c11
  have hk1 : k = R.length := by omega
  refine W.exit ?_
  refine W.seq ?_
  refine W.region ?_
  refine WL.c rfl (o_ash (show _ = Value.int _ _ from rfl) ?_)
  refine WL.c rfl (o_ash (show _ = Value.int _ _ from rfl) ?_)
  refine WL.nil ?_
  refine W.ret ?_
  refine ret2v rfl (show _ = Value.int _ _ from rfl) (show _ = Value.int _ _ from rfl) ?_
  exact ⟨by rw [whr_miss (fun j hj => hno j (by omega))]; rfl, hx⟩
theorem tin_spec (a b c : Int) (w0 : World) : Ca Try.prog 42 #[.int .i64 a, .int .i64 b, .int .i64 c] w0 (fun v w' => v = .bool (decide (b ≤ a ∧ a ≤ c)) ∧ w' = w0) := by
  refine Ca.of Try.func42 Try.ntmps42 rfl rfl ?_
  refine W.seq ?_
  refine W.region ?_
  refine WL.c rfl (o_ash (show _ = Value.bool _ from rfl) ?_)
  refine WL.nil ?_
  refine W.seq ?_
  refine W.region ?_
  refine WL.c rfl (o_mvh (show _ = Value.int _ _ from rfl) ?_)
  refine WL.c rfl (o_mvh (show _ = Value.int _ _ from rfl) ?_)
  refine WL.c rfl (o_ge rfl rfl ?_)
  refine WL.c rfl (o_mvh (show _ = Value.bool _ from rfl) ?_)
  refine WL.sp 3 rfl (fun g10 => ?_) (fun g10 => ?_)
  · skip
    refine WL.g rfl (g10) rfl (o_mvh (show _ = Value.int _ _ from rfl) ?_)
    refine WL.g rfl (g10) rfl (o_mvh (show _ = Value.int _ _ from rfl) ?_)
    refine WL.g rfl (g10) rfl (o_le rfl rfl ?_)
    refine WL.c rfl (o_pickA rfl rfl ?_)
    refine WL.c rfl (o_ash (show _ = Value.bool _ from rfl) ?_)
    refine WL.nil ?_
    refine W.ret ?_
    refine ret1v rfl (show _ = Value.bool _ from rfl) ?_
    exact ⟨congrArg Value.bool (by rw [Bool.eq_iff_iff]; simp_all <;> omega), rfl⟩
  skip
  refine WL.s rfl (g10) rfl ?_
  refine WL.s rfl (g10) rfl ?_
  refine WL.s rfl (g10) rfl ?_
  refine WL.c rfl (o_pickF rfl (g10) ?_)
  refine WL.c rfl (o_ash (show _ = Value.bool _ from rfl) ?_)
  refine WL.nil ?_
  refine W.ret ?_
  refine ret1v rfl (show _ = Value.bool _ from rfl) ?_
  exact ⟨congrArg Value.bool (by rw [Bool.eq_iff_iff]; simp_all <;> omega), rfl⟩
end Go.Proofs.Ytpbflfgigfdohaa

set_option linter.unusedSimpArgs false
set_option linter.unusedVariables false
set_option maxRecDepth 100000
namespace Go.Proofs.Ytpbflfgigfdohaa
open Go Go.Vc Go.RowKit Go.Proofs

theorem tp_eq {a b : Tp} : a = b ↔ a.kind = b.kind ∧ a.n = b.n ∧ a.elem = b.elem ∧ a.parts = b.parts := by
  cases a; cases b; simp
theorem paV_inj {a b : Pa} : (paV a).toArray = (paV b).toArray ↔ a = b := by
  cases a; cases b
  simp [paV, st]
theorem roV_inj {a b : Ro} : (roV a).toArray = (roV b).toArray ↔ a = b := by
  cases a; cases b
  simp [roV, st]
theorem pa_eq {a b : Pa} : a = b ↔ a.label = b.label ∧ a.tag = b.tag ∧ a.ty = b.ty := by
  cases a; cases b; simp
theorem ro_eq {a b : Ro} : a = b ↔ a.name = b.name ∧ a.ty = b.ty := by
  cases a; cases b; simp
theorem all_eq {α : Type} {L M : List α} (hl : L.length = M.length) (h : ∀ j, j < L.length → L[j]? = M[j]?) : L = M := by
  apply List.ext_getElem?
  intro j
  rcases Nat.lt_or_ge j L.length with hj | hj
  · exact h j hj
  rw [List.getElem?_eq_none hj, List.getElem?_eq_none (by omega)]
theorem dec_no {p : Prop} [Decidable p] (h : ¬ p) : false = decide p := (decide_eq_false h).symm

set_option maxHeartbeats 4000000 in
theorem tsame_spec (L1 : List Tp) (R1 : List Ro) (tv1 rv1 : Value) (V1 : Nat → Value) (L2 : List Tp) (R2 : List Ro) (tv2 rv2 : Value) (V2 : Nat → Value) (w0 : World) (hA : SchR w0 L1 R1 tv1 rv1 V1) (hB : SchR w0 L2 R2 tv2 rv2 V2) (hk1 : SOk L1 R1) (hk2 : SOk L2 R2) : Ca Try.prog 13 #[.agg #[tv1, rv1], .agg #[tv2, rv2]] w0 (fun v w' => v = .bool (decide (L1 = L2 ∧ R1 = R2)) ∧ Ext w0 w') := by
  have hl1 := hk1.len
  have hl2 := hk2.len
  have hr1 := hk1.ro
  have hr2 := hk2.ro
  refine Ca.of Try.func13 Try.ntmps13 rfl rfl ?_
  refine W.seq ?_
  refine W.region ?_
  refine WL.c rfl (o_boxB rfl ?_)
  intro w2 hC2 hx2 hs2
  obtain ⟨b2, hb2⟩ : ∃ b, b = w0.heap.size := ⟨_, rfl⟩
  rw [← hb2] at hC2 ⊢
  replace hC2 : w2.heap[b2]? = some (.cells ([tv1, rv1]).toArray 34 (0, 0)) := hC2
  have hx := hx2
  replace hA := hA.ext hx2
  replace hB := hB.ext hx2
  refine WL.c rfl (o_boxB rfl ?_)
  intro w3 hC3 hx3 hs3
  obtain ⟨b3, hb3⟩ : ∃ b, b = w2.heap.size := ⟨_, rfl⟩
  rw [← hb3] at hC3 ⊢
  replace hC3 : w3.heap[b3]? = some (.cells ([tv2, rv2]).toArray 34 (0, 0)) := hC3
  replace hx := hx.tr hx3
  replace hA := hA.ext hx3
  replace hB := hB.ext hx3
  replace hC2 := hx3.blk hC2 (fun h => h)
  refine WL.c rfl (o_ash (show _ = Value.bool _ from rfl) ?_)
  refine WL.nil ?_
  refine W.seq ?_
  refine W.seq ?_
  by_cases e1 : L1.length = L2.length
  by_cases e2 : R1.length = R2.length
  · skip
    skip
    refine W.region ?_
    refine WL.c rfl (o_fa 0 TI34 rfl TI31 rfl rfl ?_)
    refine WL.c rfl (o_ld TI31 rfl rfl (cell_of hC2 rfl) ?_)
    refine WL.c rfl (o_lenR TI31 rfl hA.ty.row ?_)
    refine WL.c rfl (o_fa 0 TI34 rfl TI31 rfl rfl ?_)
    refine WL.c rfl (o_ld TI31 rfl rfl (cell_of hC3 rfl) ?_)
    refine WL.c rfl (o_lenR TI31 rfl hB.ty.row ?_)
    refine WL.c rfl (o_ne rfl rfl ?_)
    refine WL.c rfl (o_mvh (show _ = Value.bool _ from rfl) ?_)
    refine WL.g rfl (by simp [e1]) rfl (o_fa 1 TI34 rfl TI32 rfl rfl ?_)
    refine WL.g rfl (by simp [e1]) rfl (o_ld TI32 rfl rfl (cell_of hC2 rfl) ?_)
    refine WL.g rfl (by simp [e1]) rfl (o_lenR TI32 rfl hA.ro ?_)
    refine WL.g rfl (by simp [e1]) rfl (o_fa 1 TI34 rfl TI32 rfl rfl ?_)
    refine WL.g rfl (by simp [e1]) rfl (o_ld TI32 rfl rfl (cell_of hC3 rfl) ?_)
    refine WL.g rfl (by simp [e1]) rfl (o_lenR TI32 rfl hB.ro ?_)
    refine WL.g rfl (by simp [e1]) rfl (o_ne rfl rfl ?_)
    refine WL.c rfl (o_pickO rfl rfl ?_)
    refine WL.nil ?_
    refine W.condF' rfl (by simp [e1, e2]) ?_
    refine W.skip ?_
    refine W.seq ?_
    refine W.seq ?_
    refine W.region ?_
    refine WL.c rfl (o_ash (show _ = Value.int _ _ from rfl) ?_)
    refine WL.nil ?_
    refine W.block ?_
    refine W.loop (fun e w => ∃ i : Nat, i ≤ L1.length ∧ e 2 = .pointer (some ⟨b2, 0, none⟩) ∧ e 3 = .pointer (some ⟨b3, 0, none⟩) ∧ e 5 = .int .i64 (i : Int) ∧ (∀ j, j < i → L1[j]? = L2[j]?) ∧ w.heap[b2]? = some (.cells #[tv1, rv1] 34 (0, 0)) ∧ w.heap[b3]? = some (.cells #[tv2, rv2] 34 (0, 0)) ∧ SchR w L1 R1 tv1 rv1 V1 ∧ SchR w L2 R2 tv2 rv2 V2 ∧ Ext w0 w) (fun e w => L1.length - (intOf (e 5)).toNat) ?_ ?_
    · exact ⟨0, Nat.zero_le _, rfl, rfl, rfl, fun j hj => by omega, hC2, hC3, hA, hB, hx⟩
    rintro e w ⟨i, hi, h2, h3, h5, hsm, hC2, hC3, hA, hB, hx⟩
    have hm5 := h5
    refine W.seq ?_
    refine W.seq ?_
    refine W.region ?_
    refine WL.c rfl (o_mvh h5 ?_)
    refine WL.c rfl (o_fa 0 TI34 rfl TI31 rfl h2 ?_)
    refine WL.c rfl (o_ld TI31 rfl rfl (cell_of hC2 rfl) ?_)
    refine WL.c rfl (o_lenR TI31 rfl hA.ty.row ?_)
    refine WL.c rfl (o_lt rfl rfl ?_)
    refine WL.nil ?_
    refine W.cond rfl (fun c30 => ?_) (fun c30 => ?_)
    · try simp only [cs8] at c30
      have hi1 : i < L1.length := by omega
      have hi2 : i < L2.length := by omega
      obtain ⟨ab, ao, ac, ha1, hac, hap⟩ := hA.ty.atk hi1
      obtain ⟨bb, bo, bc, hb1, hbc, hbp⟩ := hB.ty.atk hi2
      have hpa := hk1.pa _ (List.getElem_mem hi1)
      have hpb := hk2.pa _ (List.getElem_mem hi2)
      have hC2s := hC2
      rw [ha1] at hC2s
      have hC3s := hC3
      rw [hb1] at hC3s
      refine W.skip ?_
      refine W.seq ?_
      refine W.block ?_
      refine W.seq ?_
      refine W.region ?_
      refine WL.c rfl (o_fa 0 TI34 rfl TI31 rfl h2 ?_)
      refine WL.c rfl (o_ld TI31 rfl rfl (cell_of hC2s rfl) ?_)
      refine WL.c rfl (o_mvh h5 ?_)
      refine WL.c rfl (o_ixB (i := i) TI31 TI50 (show _ = Value.slice (some ⟨ab, ao, none⟩) L1.length ac from rfl) (show _ = Value.int .i64 (i : Int) from rfl) (by omega) ?_)
      refine WL.c rfl (o_ldA TI50 rfl rfl hac rfl ?_)
      refine WL.c rfl (o_alB TI50 ?_)
      intro wa hCa hxa hsa
      refine WL.u (o_stA TI50 rfl (show _ = Value.agg (tcell L1[i] (V1 i)).toArray from rfl) rfl (by simp only [tcell, List.toArray, Array.toList, List.all_cons, List.all_nil, sl_one1 hap]; rfl) hCa rfl ?_)
      intro wb6 hC6 hob hsb
      have hxb := Ext.own hxa (Nat.le_refl _) hob
      obtain ⟨b6, hb6⟩ : ∃ b, b = w.heap.size := ⟨_, rfl⟩
      rw [← hb6] at hC6 ⊢
      clear hCa hxa hsa hob hsb
      replace hx := hx.tr hxb
      replace hC2 := hxb.blk hC2 (fun h => h)
      replace hC3 := hxb.blk hC3 (fun h => h)
      replace hA := hA.ext hxb
      replace hB := hB.ext hxb
      replace hap := hap.ext hxb
      replace hbp := hbp.ext hxb
      replace hC3s := hxb.blk hC3s (fun h => h)
      replace hbc := Cells.only hbc hxb (fun h => h)
      clear hxb
      refine WL.nil ?_
      refine W.seq ?_
      refine W.region ?_
      refine WL.c rfl (o_fa 0 TI34 rfl TI31 rfl h3 ?_)
      refine WL.c rfl (o_ld TI31 rfl rfl (cell_of hC3s rfl) ?_)
      refine WL.c rfl (o_mvh h5 ?_)
      refine WL.c rfl (o_ixB (i := i) TI31 TI50 (show _ = Value.slice (some ⟨bb, bo, none⟩) L2.length bc from rfl) (show _ = Value.int .i64 (i : Int) from rfl) (by omega) ?_)
      refine WL.c rfl (o_ldA TI50 rfl rfl hbc rfl ?_)
      refine WL.c rfl (o_alB TI50 ?_)
      intro wa hCa hxa hsa
      refine WL.u (o_stA TI50 rfl (show _ = Value.agg (tcell L2[i] (V2 i)).toArray from rfl) rfl (by simp only [tcell, List.toArray, Array.toList, List.all_cons, List.all_nil, sl_one1 hbp]; rfl) hCa rfl ?_)
      intro wb7 hC7 hob hsb
      have hxb := Ext.own hxa (Nat.le_refl _) hob
      obtain ⟨b7, hb7⟩ : ∃ b, b = wb6.heap.size := ⟨_, rfl⟩
      rw [← hb7] at hC7 ⊢
      clear hCa hxa hsa hob hsb
      replace hx := hx.tr hxb
      replace hC2 := hxb.blk hC2 (fun h => h)
      replace hC3 := hxb.blk hC3 (fun h => h)
      replace hA := hA.ext hxb
      replace hB := hB.ext hxb
      replace hap := hap.ext hxb
      replace hbp := hbp.ext hxb
      replace hC6 := hxb.blk hC6 (fun h => h)
      clear hxb
      refine WL.nil ?_
      refine W.seq ?_
      refine W.seq ?_
      by_cases q1 : L1[i].kind = L2[i].kind
      by_cases q2 : L1[i].n = L2[i].n
      by_cases q3 : L1[i].elem = L2[i].elem
      by_cases q4 : L1[i].parts.length = L2[i].parts.length
      · skip
        have hq := And.intro q1 (And.intro q2 (And.intro q3 q4))
        refine W.region ?_
        refine WL.c rfl (o_fa 0 TI50 rfl TI3 rfl rfl ?_)
        refine WL.c rfl (o_ld TI3 rfl rfl (cell_of hC6 rfl) ?_)
        refine WL.c rfl (o_fa 0 TI50 rfl TI3 rfl rfl ?_)
        refine WL.c rfl (o_ld TI3 rfl rfl (cell_of hC7 rfl) ?_)
        refine WL.c rfl (o_ne rfl rfl ?_)
        refine WL.c rfl (o_mvh (show _ = Value.bool _ from rfl) ?_)
        refine WL.g rfl (by simp [q1]) rfl (o_fa 1 TI50 rfl TI3 rfl rfl ?_)
        refine WL.g rfl (by simp [q1]) rfl (o_ld TI3 rfl rfl (cell_of hC6 rfl) ?_)
        refine WL.g rfl (by simp [q1]) rfl (o_fa 1 TI50 rfl TI3 rfl rfl ?_)
        refine WL.g rfl (by simp [q1]) rfl (o_ld TI3 rfl rfl (cell_of hC7 rfl) ?_)
        refine WL.g rfl (by simp [q1]) rfl (o_ne rfl rfl ?_)
        refine WL.c rfl (o_pickO rfl rfl ?_)
        refine WL.c rfl (o_mvh (show _ = Value.bool _ from rfl) ?_)
        refine WL.g rfl (by simp [q1, q2]) rfl (o_fa 2 TI50 rfl TI3 rfl rfl ?_)
        refine WL.g rfl (by simp [q1, q2]) rfl (o_ld TI3 rfl rfl (cell_of hC6 rfl) ?_)
        refine WL.g rfl (by simp [q1, q2]) rfl (o_fa 2 TI50 rfl TI3 rfl rfl ?_)
        refine WL.g rfl (by simp [q1, q2]) rfl (o_ld TI3 rfl rfl (cell_of hC7 rfl) ?_)
        refine WL.g rfl (by simp [q1, q2]) rfl (o_ne rfl rfl ?_)
        refine WL.c rfl (o_pickO rfl rfl ?_)
        refine WL.c rfl (o_mvh (show _ = Value.bool _ from rfl) ?_)
        refine WL.g rfl (by simp [q1, q2, q3]) rfl (o_fa 3 TI50 rfl TI48 rfl rfl ?_)
        refine WL.g rfl (by simp [q1, q2, q3]) rfl (o_ld TI48 rfl rfl (cell_of hC6 rfl) ?_)
        refine WL.g rfl (by simp [q1, q2, q3]) rfl (o_lenR TI48 rfl hap ?_)
        refine WL.g rfl (by simp [q1, q2, q3]) rfl (o_fa 3 TI50 rfl TI48 rfl rfl ?_)
        refine WL.g rfl (by simp [q1, q2, q3]) rfl (o_ld TI48 rfl rfl (cell_of hC7 rfl) ?_)
        refine WL.g rfl (by simp [q1, q2, q3]) rfl (o_lenR TI48 rfl hbp ?_)
        refine WL.g rfl (by simp [q1, q2, q3]) rfl (o_ne rfl rfl ?_)
        refine WL.c rfl (o_pickO rfl rfl ?_)
        refine WL.nil ?_
        refine W.condF' rfl (by simp [q1, q2, q3, q4]) ?_
        refine W.skip ?_
        refine W.seq ?_
        refine W.region ?_
        refine WL.c rfl (o_ash (show _ = Value.int _ _ from rfl) ?_)
        refine WL.nil ?_
        refine W.block ?_
        refine W.loop (fun e w => ∃ q : Nat, q ≤ L1[i].parts.length ∧ e 2 = .pointer (some ⟨b2, 0, none⟩) ∧ e 3 = .pointer (some ⟨b3, 0, none⟩) ∧ e 5 = .int .i64 (i : Int) ∧ e 6 = .pointer (some ⟨b6, 0, none⟩) ∧ e 7 = .pointer (some ⟨b7, 0, none⟩) ∧ e 8 = .int .i64 (q : Int) ∧ (∀ j, j < q → L1[i].parts[j]? = L2[i].parts[j]?) ∧ w.heap[b6]? = some (.cells (tcell L1[i] (V1 i)).toArray 50 (0, 0)) ∧ w.heap[b7]? = some (.cells (tcell L2[i] (V2 i)).toArray 50 (0, 0)) ∧ Sl w 3 (V1 i) L1[i].parts.length (pas L1[i].parts) ∧ Sl w 3 (V2 i) L2[i].parts.length (pas L2[i].parts) ∧ w.heap[b2]? = some (.cells #[tv1, rv1] 34 (0, 0)) ∧ w.heap[b3]? = some (.cells #[tv2, rv2] 34 (0, 0)) ∧ SchR w L1 R1 tv1 rv1 V1 ∧ SchR w L2 R2 tv2 rv2 V2 ∧ Ext w0 w) (fun e w => L1[i].parts.length - (intOf (e 8)).toNat) ?_ ?_
        · exact ⟨0, Nat.zero_le _, h2, h3, h5, rfl, rfl, rfl, fun j hj => by omega, hC6, hC7, hap, hbp, hC2, hC3, hA, hB, hx⟩
        rintro e w ⟨q, hqq, h2, h3, h5, h6, h7, h8, hsp, hC6, hC7, hap, hbp, hC2, hC3, hA, hB, hx⟩
        have hm8 := h8
        refine W.seq ?_
        refine W.seq ?_
        refine W.region ?_
        refine WL.c rfl (o_mvh h8 ?_)
        refine WL.c rfl (o_fa 3 TI50 rfl TI48 rfl h6 ?_)
        refine WL.c rfl (o_ld TI48 rfl rfl (cell_of hC6 rfl) ?_)
        refine WL.c rfl (o_lenR TI48 rfl hap ?_)
        refine WL.c rfl (o_lt rfl rfl ?_)
        refine WL.nil ?_
        refine W.cond rfl (fun c75 => ?_) (fun c75 => ?_)
        · try simp only [cs8] at c75
          have hqa : q < L1[i].parts.length := by omega
          have hqb : q < L2[i].parts.length := by omega
          obtain ⟨pb, po, pc, hpv, hpc⟩ := Sl.paq hap hqa
          obtain ⟨rb, ro, rc, hrv, hrc⟩ := Sl.paq hbp hqb
          have hC6s := hC6
          rw [hpv] at hC6s
          have hC7s := hC7
          rw [hrv] at hC7s
          refine W.skip ?_
          refine W.seq ?_
          refine W.block ?_
          refine W.seq ?_
          refine W.quiet rfl (by kernel_rfl) ?_
          refine WQ.c rfl ((QO.o rfl fun _ => o_fa 3 TI50 rfl TI48 rfl h6 ⟨rfl, rfl⟩)) ?_
          refine WQ.c rfl ((QO.o rfl fun _ => o_ld TI48 rfl rfl (cell_of hC6s rfl) ⟨rfl, rfl⟩)) ?_
          refine WQ.c rfl ((QO.o rfl fun _ => o_mvh h8 ⟨rfl, rfl⟩)) ?_
          refine WQ.c rfl ((QO.o rfl fun _ => o_ixB (i := q) TI48 TI52 (show _ = Value.slice (some ⟨pb, po, none⟩) L1[i].parts.length pc from rfl) (show _ = Value.int .i64 (q : Int) from rfl) (by omega) ⟨rfl, rfl⟩)) ?_
          refine WQ.c rfl ((QO.o rfl fun _ => o_ldA TI52 rfl rfl hpc rfl ⟨rfl, rfl⟩)) ?_
          refine WQ.c rfl ((QO.o rfl fun _ => o_fa 3 TI50 rfl TI48 rfl h7 ⟨rfl, rfl⟩)) ?_
          refine WQ.c rfl ((QO.o rfl fun _ => o_ld TI48 rfl rfl (cell_of hC7s rfl) ⟨rfl, rfl⟩)) ?_
          refine WQ.c rfl ((QO.o rfl fun _ => o_mvh h8 ⟨rfl, rfl⟩)) ?_
          refine WQ.c rfl ((QO.o rfl fun _ => o_ixB (i := q) TI48 TI52 (show _ = Value.slice (some ⟨rb, ro, none⟩) L2[i].parts.length rc from rfl) (show _ = Value.int .i64 (q : Int) from rfl) (by omega) ⟨rfl, rfl⟩)) ?_
          refine WQ.c rfl ((QO.o rfl fun _ => o_ldA TI52 rfl rfl hrc rfl ⟨rfl, rfl⟩)) ?_
          refine WQ.c rfl ((QO.o rfl fun _ => o_neR TI52 (by kernel_rfl) (by kernel_rfl) rfl rfl (.str TI9 (by decide) rfl rfl (.int TI3 (by decide) rfl rfl (.int TI3 (by decide) rfl rfl .nil))) ⟨rfl, rfl⟩)) ?_
          refine WQ.nil ?_
          intro nq
          replace hx := hx.tr (Only.drewN w nq)
          replace hA := hA.ext (Only.drewN w nq)
          replace hB := hB.ext (Only.drewN w nq)
          replace hap := hap.ext (Only.drewN w nq)
          replace hbp := hbp.ext (Only.drewN w nq)
          refine W.cond rfl (fun c88 => ?_) (fun c88 => ?_)
          · try simp only [cs8] at c88
            have hpe : ¬ L1[i].parts[q] = L2[i].parts[q] := fun e => by rw [e] at c88; simp at c88
            refine W.seq ?_
            refine W.region ?_
            refine WL.c rfl (o_ash (show _ = Value.bool _ from rfl) ?_)
            refine WL.nil ?_
            refine W.ret ?_
            refine ret1v rfl (show _ = Value.bool _ from rfl) ?_
            exact ⟨congrArg Value.bool (dec_no (fun h => hpe (by simp only [h.1]))), hx⟩
          try simp only [cs8] at c88
          have hpe : L1[i].parts[q] = L2[i].parts[q] := by
            have h : L1[i].parts[q].label = L2[i].parts[q].label ∧ L1[i].parts[q].tag = L2[i].parts[q].tag ∧ L1[i].parts[q].ty = L2[i].parts[q].ty := by simpa [paV_inj] using c88
            exact pa_eq.2 h
          refine W.skip ?_
          refine W.region ?_
          refine WL.c rfl (o_mvh h8 ?_)
          refine WL.c rfl (o_addi rfl rfl (by omega) ?_)
          refine WL.c rfl (o_ash (show _ = Value.int _ _ from rfl) ?_)
          refine WL.nil ?_
          refine ⟨⟨q + 1, by omega, h2, h3, h5, h6, h7, rfl, fun j hj => ?_, hC6, hC7, hap, hbp, hC2, hC3, hA, hB, hx⟩, ?_⟩
          · rcases Nat.lt_or_ge j q with h | h
            · exact hsp j h
            rw [show j = q by omega, List.getElem?_eq_getElem hqa, List.getElem?_eq_getElem hqb, hpe]
          show L1[i].parts.length - ((q : Int) + 1).toNat < _
          rw [hm8]; simp [intOf]; omega
        try simp only [cs8] at c75
        have hqa : q = L1[i].parts.length := by omega
        rw [hqa] at hsp
        have hps := hsp
        refine W.exit ?_
        refine W.region ?_
        refine WL.c rfl (o_mvh h5 ?_)
        refine WL.c rfl (o_addi rfl rfl (by omega) ?_)
        refine WL.c rfl (o_ash (show _ = Value.int _ _ from rfl) ?_)
        refine WL.nil ?_
        refine ⟨⟨i + 1, by omega, h2, h3, rfl, fun j hj => ?_, hC2, hC3, hA, hB, hx⟩, ?_⟩
        · rcases Nat.lt_or_ge j i with h | h
          · exact hsm j h
          rw [show j = i by omega, List.getElem?_eq_getElem hi1, List.getElem?_eq_getElem hi2, tp_eq.2 ⟨hq.1, hq.2.1, hq.2.2.1, all_eq hq.2.2.2 hps⟩]
        show L1.length - ((i : Int) + 1).toNat < _
        rw [hm5]; simp [intOf]; omega
      · skip
        skip
        refine W.region ?_
        refine WL.c rfl (o_fa 0 TI50 rfl TI3 rfl rfl ?_)
        refine WL.c rfl (o_ld TI3 rfl rfl (cell_of hC6 rfl) ?_)
        refine WL.c rfl (o_fa 0 TI50 rfl TI3 rfl rfl ?_)
        refine WL.c rfl (o_ld TI3 rfl rfl (cell_of hC7 rfl) ?_)
        refine WL.c rfl (o_ne rfl rfl ?_)
        refine WL.c rfl (o_mvh (show _ = Value.bool _ from rfl) ?_)
        refine WL.g rfl (by simp [q1]) rfl (o_fa 1 TI50 rfl TI3 rfl rfl ?_)
        refine WL.g rfl (by simp [q1]) rfl (o_ld TI3 rfl rfl (cell_of hC6 rfl) ?_)
        refine WL.g rfl (by simp [q1]) rfl (o_fa 1 TI50 rfl TI3 rfl rfl ?_)
        refine WL.g rfl (by simp [q1]) rfl (o_ld TI3 rfl rfl (cell_of hC7 rfl) ?_)
        refine WL.g rfl (by simp [q1]) rfl (o_ne rfl rfl ?_)
        refine WL.c rfl (o_pickO rfl rfl ?_)
        refine WL.c rfl (o_mvh (show _ = Value.bool _ from rfl) ?_)
        refine WL.g rfl (by simp [q1, q2]) rfl (o_fa 2 TI50 rfl TI3 rfl rfl ?_)
        refine WL.g rfl (by simp [q1, q2]) rfl (o_ld TI3 rfl rfl (cell_of hC6 rfl) ?_)
        refine WL.g rfl (by simp [q1, q2]) rfl (o_fa 2 TI50 rfl TI3 rfl rfl ?_)
        refine WL.g rfl (by simp [q1, q2]) rfl (o_ld TI3 rfl rfl (cell_of hC7 rfl) ?_)
        refine WL.g rfl (by simp [q1, q2]) rfl (o_ne rfl rfl ?_)
        refine WL.c rfl (o_pickO rfl rfl ?_)
        refine WL.c rfl (o_mvh (show _ = Value.bool _ from rfl) ?_)
        refine WL.g rfl (by simp [q1, q2, q3]) rfl (o_fa 3 TI50 rfl TI48 rfl rfl ?_)
        refine WL.g rfl (by simp [q1, q2, q3]) rfl (o_ld TI48 rfl rfl (cell_of hC6 rfl) ?_)
        refine WL.g rfl (by simp [q1, q2, q3]) rfl (o_lenR TI48 rfl hap ?_)
        refine WL.g rfl (by simp [q1, q2, q3]) rfl (o_fa 3 TI50 rfl TI48 rfl rfl ?_)
        refine WL.g rfl (by simp [q1, q2, q3]) rfl (o_ld TI48 rfl rfl (cell_of hC7 rfl) ?_)
        refine WL.g rfl (by simp [q1, q2, q3]) rfl (o_lenR TI48 rfl hbp ?_)
        refine WL.g rfl (by simp [q1, q2, q3]) rfl (o_ne rfl rfl ?_)
        refine WL.c rfl (o_pickO rfl rfl ?_)
        refine WL.nil ?_
        refine W.condT' rfl (by simp [q1, q2, q3] <;> omega) ?_
        refine W.seq ?_
        refine W.region ?_
        refine WL.c rfl (o_ash (show _ = Value.bool _ from rfl) ?_)
        refine WL.nil ?_
        refine W.ret ?_
        refine ret1v rfl (show _ = Value.bool _ from rfl) ?_
        exact ⟨congrArg Value.bool (dec_no (fun h => q4 (by simp only [h.1]))), hx⟩
      · skip
        skip
        refine W.region ?_
        refine WL.c rfl (o_fa 0 TI50 rfl TI3 rfl rfl ?_)
        refine WL.c rfl (o_ld TI3 rfl rfl (cell_of hC6 rfl) ?_)
        refine WL.c rfl (o_fa 0 TI50 rfl TI3 rfl rfl ?_)
        refine WL.c rfl (o_ld TI3 rfl rfl (cell_of hC7 rfl) ?_)
        refine WL.c rfl (o_ne rfl rfl ?_)
        refine WL.c rfl (o_mvh (show _ = Value.bool _ from rfl) ?_)
        refine WL.g rfl (by simp [q1]) rfl (o_fa 1 TI50 rfl TI3 rfl rfl ?_)
        refine WL.g rfl (by simp [q1]) rfl (o_ld TI3 rfl rfl (cell_of hC6 rfl) ?_)
        refine WL.g rfl (by simp [q1]) rfl (o_fa 1 TI50 rfl TI3 rfl rfl ?_)
        refine WL.g rfl (by simp [q1]) rfl (o_ld TI3 rfl rfl (cell_of hC7 rfl) ?_)
        refine WL.g rfl (by simp [q1]) rfl (o_ne rfl rfl ?_)
        refine WL.c rfl (o_pickO rfl rfl ?_)
        refine WL.c rfl (o_mvh (show _ = Value.bool _ from rfl) ?_)
        refine WL.g rfl (by simp [q1, q2]) rfl (o_fa 2 TI50 rfl TI3 rfl rfl ?_)
        refine WL.g rfl (by simp [q1, q2]) rfl (o_ld TI3 rfl rfl (cell_of hC6 rfl) ?_)
        refine WL.g rfl (by simp [q1, q2]) rfl (o_fa 2 TI50 rfl TI3 rfl rfl ?_)
        refine WL.g rfl (by simp [q1, q2]) rfl (o_ld TI3 rfl rfl (cell_of hC7 rfl) ?_)
        refine WL.g rfl (by simp [q1, q2]) rfl (o_ne rfl rfl ?_)
        refine WL.c rfl (o_pickO rfl rfl ?_)
        refine WL.c rfl (o_mvh (show _ = Value.bool _ from rfl) ?_)
        refine WL.s rfl (by simp [q1, q2, q3]) rfl ?_
        refine WL.s rfl (by simp [q1, q2, q3]) rfl ?_
        refine WL.s rfl (by simp [q1, q2, q3]) rfl ?_
        refine WL.s rfl (by simp [q1, q2, q3]) rfl ?_
        refine WL.s rfl (by simp [q1, q2, q3]) rfl ?_
        refine WL.s rfl (by simp [q1, q2, q3]) rfl ?_
        refine WL.s rfl (by simp [q1, q2, q3]) rfl ?_
        refine WL.c rfl (o_pickT rfl (by simp [q1, q2, q3]) ?_)
        refine WL.nil ?_
        refine W.condT' rfl (rfl) ?_
        refine W.seq ?_
        refine W.region ?_
        refine WL.c rfl (o_ash (show _ = Value.bool _ from rfl) ?_)
        refine WL.nil ?_
        refine W.ret ?_
        refine ret1v rfl (show _ = Value.bool _ from rfl) ?_
        exact ⟨congrArg Value.bool (dec_no (fun h => q3 (by simp only [h.1]))), hx⟩
      · skip
        skip
        refine W.region ?_
        refine WL.c rfl (o_fa 0 TI50 rfl TI3 rfl rfl ?_)
        refine WL.c rfl (o_ld TI3 rfl rfl (cell_of hC6 rfl) ?_)
        refine WL.c rfl (o_fa 0 TI50 rfl TI3 rfl rfl ?_)
        refine WL.c rfl (o_ld TI3 rfl rfl (cell_of hC7 rfl) ?_)
        refine WL.c rfl (o_ne rfl rfl ?_)
        refine WL.c rfl (o_mvh (show _ = Value.bool _ from rfl) ?_)
        refine WL.g rfl (by simp [q1]) rfl (o_fa 1 TI50 rfl TI3 rfl rfl ?_)
        refine WL.g rfl (by simp [q1]) rfl (o_ld TI3 rfl rfl (cell_of hC6 rfl) ?_)
        refine WL.g rfl (by simp [q1]) rfl (o_fa 1 TI50 rfl TI3 rfl rfl ?_)
        refine WL.g rfl (by simp [q1]) rfl (o_ld TI3 rfl rfl (cell_of hC7 rfl) ?_)
        refine WL.g rfl (by simp [q1]) rfl (o_ne rfl rfl ?_)
        refine WL.c rfl (o_pickO rfl rfl ?_)
        refine WL.c rfl (o_mvh (show _ = Value.bool _ from rfl) ?_)
        refine WL.s rfl (by simp [q1, q2]) rfl ?_
        refine WL.s rfl (by simp [q1, q2]) rfl ?_
        refine WL.s rfl (by simp [q1, q2]) rfl ?_
        refine WL.s rfl (by simp [q1, q2]) rfl ?_
        refine WL.s rfl (by simp [q1, q2]) rfl ?_
        refine WL.c rfl (o_pickT rfl (by simp [q1, q2]) ?_)
        refine WL.c rfl (o_mvh (show _ = Value.bool _ from rfl) ?_)
        refine WL.s rfl (rfl) rfl ?_
        refine WL.s rfl (rfl) rfl ?_
        refine WL.s rfl (rfl) rfl ?_
        refine WL.s rfl (rfl) rfl ?_
        refine WL.s rfl (rfl) rfl ?_
        refine WL.s rfl (rfl) rfl ?_
        refine WL.s rfl (rfl) rfl ?_
        refine WL.c rfl (o_pickT rfl (rfl) ?_)
        refine WL.nil ?_
        refine W.condT' rfl (rfl) ?_
        refine W.seq ?_
        refine W.region ?_
        refine WL.c rfl (o_ash (show _ = Value.bool _ from rfl) ?_)
        refine WL.nil ?_
        refine W.ret ?_
        refine ret1v rfl (show _ = Value.bool _ from rfl) ?_
        exact ⟨congrArg Value.bool (dec_no (fun h => q2 (by simp only [h.1]))), hx⟩
      skip
      skip
      refine W.region ?_
      refine WL.c rfl (o_fa 0 TI50 rfl TI3 rfl rfl ?_)
      refine WL.c rfl (o_ld TI3 rfl rfl (cell_of hC6 rfl) ?_)
      refine WL.c rfl (o_fa 0 TI50 rfl TI3 rfl rfl ?_)
      refine WL.c rfl (o_ld TI3 rfl rfl (cell_of hC7 rfl) ?_)
      refine WL.c rfl (o_ne rfl rfl ?_)
      refine WL.c rfl (o_mvh (show _ = Value.bool _ from rfl) ?_)
      refine WL.s rfl (by simp [q1]) rfl ?_
      refine WL.s rfl (by simp [q1]) rfl ?_
      refine WL.s rfl (by simp [q1]) rfl ?_
      refine WL.s rfl (by simp [q1]) rfl ?_
      refine WL.s rfl (by simp [q1]) rfl ?_
      refine WL.c rfl (o_pickT rfl (by simp [q1]) ?_)
      refine WL.c rfl (o_mvh (show _ = Value.bool _ from rfl) ?_)
      refine WL.s rfl (rfl) rfl ?_
      refine WL.s rfl (rfl) rfl ?_
      refine WL.s rfl (rfl) rfl ?_
      refine WL.s rfl (rfl) rfl ?_
      refine WL.s rfl (rfl) rfl ?_
      refine WL.c rfl (o_pickT rfl (rfl) ?_)
      refine WL.c rfl (o_mvh (show _ = Value.bool _ from rfl) ?_)
      refine WL.s rfl (rfl) rfl ?_
      refine WL.s rfl (rfl) rfl ?_
      refine WL.s rfl (rfl) rfl ?_
      refine WL.s rfl (rfl) rfl ?_
      refine WL.s rfl (rfl) rfl ?_
      refine WL.s rfl (rfl) rfl ?_
      refine WL.s rfl (rfl) rfl ?_
      refine WL.c rfl (o_pickT rfl (rfl) ?_)
      refine WL.nil ?_
      refine W.condT' rfl (rfl) ?_
      refine W.seq ?_
      refine W.region ?_
      refine WL.c rfl (o_ash (show _ = Value.bool _ from rfl) ?_)
      refine WL.nil ?_
      refine W.ret ?_
      refine ret1v rfl (show _ = Value.bool _ from rfl) ?_
      exact ⟨congrArg Value.bool (dec_no (fun h => q1 (by simp only [h.1]))), hx⟩
    try simp only [cs8] at c30
    have hi1 : i = L1.length := by omega
    rw [hi1] at hsm
    have hLL : L1 = L2 := all_eq e1 hsm
    refine W.exit ?_
    refine W.seq ?_
    refine W.seq ?_
    refine W.region ?_
    refine WL.c rfl (o_ash (show _ = Value.int _ _ from rfl) ?_)
    refine WL.nil ?_
    refine W.block ?_
    refine W.loop (fun e w => ∃ k : Nat, k ≤ R1.length ∧ e 2 = .pointer (some ⟨b2, 0, none⟩) ∧ e 3 = .pointer (some ⟨b3, 0, none⟩) ∧ e 9 = .int .i64 (k : Int) ∧ (∀ j, j < k → R1[j]? = R2[j]?) ∧ w.heap[b2]? = some (.cells #[tv1, rv1] 34 (0, 0)) ∧ w.heap[b3]? = some (.cells #[tv2, rv2] 34 (0, 0)) ∧ SchR w L1 R1 tv1 rv1 V1 ∧ SchR w L2 R2 tv2 rv2 V2 ∧ Ext w0 w) (fun e w => R1.length - (intOf (e 9)).toNat) ?_ ?_
    · exact ⟨0, Nat.zero_le _, h2, h3, rfl, fun j hj => by omega, hC2, hC3, hA, hB, hx⟩
    rintro e w ⟨k, hk, h2, h3, h9, hsr, hC2, hC3, hA, hB, hx⟩
    have hm9 := h9
    refine W.seq ?_
    refine W.seq ?_
    refine W.region ?_
    refine WL.c rfl (o_mvh h9 ?_)
    refine WL.c rfl (o_fa 1 TI34 rfl TI32 rfl h2 ?_)
    refine WL.c rfl (o_ld TI32 rfl rfl (cell_of hC2 rfl) ?_)
    refine WL.c rfl (o_lenR TI32 rfl hA.ro ?_)
    refine WL.c rfl (o_lt rfl rfl ?_)
    refine WL.nil ?_
    refine W.cond rfl (fun c93 => ?_) (fun c93 => ?_)
    · try simp only [cs8] at c93
      have hka : k < R1.length := by omega
      have hkb : k < R2.length := by omega
      obtain ⟨pb, po, pc, hpv, hpc⟩ := Sl.roq hA.ro hka
      obtain ⟨rb, ro, rc, hrv, hrc⟩ := Sl.roq hB.ro hkb
      have hC2s := hC2
      rw [hpv] at hC2s
      have hC3s := hC3
      rw [hrv] at hC3s
      refine W.skip ?_
      refine W.seq ?_
      refine W.block ?_
      refine W.seq ?_
      refine W.quiet rfl (by kernel_rfl) ?_
      refine WQ.c rfl ((QO.o rfl fun _ => o_fa 1 TI34 rfl TI32 rfl h2 ⟨rfl, rfl⟩)) ?_
      refine WQ.c rfl ((QO.o rfl fun _ => o_ld TI32 rfl rfl (cell_of hC2s rfl) ⟨rfl, rfl⟩)) ?_
      refine WQ.c rfl ((QO.o rfl fun _ => o_mvh h9 ⟨rfl, rfl⟩)) ?_
      refine WQ.c rfl ((QO.o rfl fun _ => o_ixB (i := k) TI32 TI47 (show _ = Value.slice (some ⟨pb, po, none⟩) R1.length pc from rfl) (show _ = Value.int .i64 (k : Int) from rfl) (by omega) ⟨rfl, rfl⟩)) ?_
      refine WQ.c rfl ((QO.o rfl fun _ => o_ldA TI47 rfl rfl hpc rfl ⟨rfl, rfl⟩)) ?_
      refine WQ.c rfl ((QO.o rfl fun _ => o_fa 1 TI34 rfl TI32 rfl h3 ⟨rfl, rfl⟩)) ?_
      refine WQ.c rfl ((QO.o rfl fun _ => o_ld TI32 rfl rfl (cell_of hC3s rfl) ⟨rfl, rfl⟩)) ?_
      refine WQ.c rfl ((QO.o rfl fun _ => o_mvh h9 ⟨rfl, rfl⟩)) ?_
      refine WQ.c rfl ((QO.o rfl fun _ => o_ixB (i := k) TI32 TI47 (show _ = Value.slice (some ⟨rb, ro, none⟩) R2.length rc from rfl) (show _ = Value.int .i64 (k : Int) from rfl) (by omega) ⟨rfl, rfl⟩)) ?_
      refine WQ.c rfl ((QO.o rfl fun _ => o_ldA TI47 rfl rfl hrc rfl ⟨rfl, rfl⟩)) ?_
      refine WQ.c rfl ((QO.o rfl fun _ => o_neR TI47 (by kernel_rfl) (by kernel_rfl) rfl rfl (.str TI9 (by decide) rfl rfl (.int TI3 (by decide) rfl rfl .nil)) ⟨rfl, rfl⟩)) ?_
      refine WQ.nil ?_
      intro nq
      replace hx := hx.tr (Only.drewN w nq)
      replace hA := hA.ext (Only.drewN w nq)
      replace hB := hB.ext (Only.drewN w nq)
      refine W.cond rfl (fun c106 => ?_) (fun c106 => ?_)
      · try simp only [cs8] at c106
        have hre : ¬ R1[k] = R2[k] := fun e => by rw [e] at c106; simp at c106
        refine W.seq ?_
        refine W.region ?_
        refine WL.c rfl (o_ash (show _ = Value.bool _ from rfl) ?_)
        refine WL.nil ?_
        refine W.ret ?_
        refine ret1v rfl (show _ = Value.bool _ from rfl) ?_
        exact ⟨congrArg Value.bool (dec_no (fun h => hre (by simp only [h.2]))), hx⟩
      try simp only [cs8] at c106
      have hre : R1[k] = R2[k] := by
        have h : R1[k].name = R2[k].name ∧ R1[k].ty = R2[k].ty := by simpa [roV_inj] using c106
        exact ro_eq.2 h
      refine W.skip ?_
      refine W.region ?_
      refine WL.c rfl (o_mvh h9 ?_)
      refine WL.c rfl (o_addi rfl rfl (by omega) ?_)
      refine WL.c rfl (o_ash (show _ = Value.int _ _ from rfl) ?_)
      refine WL.nil ?_
      refine ⟨⟨k + 1, by omega, h2, h3, rfl, fun j hj => ?_, hC2, hC3, hA, hB, hx⟩, ?_⟩
      · rcases Nat.lt_or_ge j k with h | h
        · exact hsr j h
        rw [show j = k by omega, List.getElem?_eq_getElem hka, List.getElem?_eq_getElem hkb, hre]
      show R1.length - ((k : Int) + 1).toNat < _
      rw [hm9]; simp [intOf]; omega
    try simp only [cs8] at c93
    have hka : k = R1.length := by omega
    rw [hka] at hsr
    have hRR : R1 = R2 := all_eq e2 hsr
    refine W.exit ?_
    refine W.seq ?_
    refine W.region ?_
    refine WL.c rfl (o_ash (show _ = Value.bool _ from rfl) ?_)
    refine WL.nil ?_
    refine W.ret ?_
    refine ret1v rfl (show _ = Value.bool _ from rfl) ?_
    exact ⟨congrArg Value.bool (decide_eq_true ⟨hLL, hRR⟩).symm, hx⟩
  · skip
    skip
    refine W.region ?_
    refine WL.c rfl (o_fa 0 TI34 rfl TI31 rfl rfl ?_)
    refine WL.c rfl (o_ld TI31 rfl rfl (cell_of hC2 rfl) ?_)
    refine WL.c rfl (o_lenR TI31 rfl hA.ty.row ?_)
    refine WL.c rfl (o_fa 0 TI34 rfl TI31 rfl rfl ?_)
    refine WL.c rfl (o_ld TI31 rfl rfl (cell_of hC3 rfl) ?_)
    refine WL.c rfl (o_lenR TI31 rfl hB.ty.row ?_)
    refine WL.c rfl (o_ne rfl rfl ?_)
    refine WL.c rfl (o_mvh (show _ = Value.bool _ from rfl) ?_)
    refine WL.g rfl (by simp [e1]) rfl (o_fa 1 TI34 rfl TI32 rfl rfl ?_)
    refine WL.g rfl (by simp [e1]) rfl (o_ld TI32 rfl rfl (cell_of hC2 rfl) ?_)
    refine WL.g rfl (by simp [e1]) rfl (o_lenR TI32 rfl hA.ro ?_)
    refine WL.g rfl (by simp [e1]) rfl (o_fa 1 TI34 rfl TI32 rfl rfl ?_)
    refine WL.g rfl (by simp [e1]) rfl (o_ld TI32 rfl rfl (cell_of hC3 rfl) ?_)
    refine WL.g rfl (by simp [e1]) rfl (o_lenR TI32 rfl hB.ro ?_)
    refine WL.g rfl (by simp [e1]) rfl (o_ne rfl rfl ?_)
    refine WL.c rfl (o_pickO rfl rfl ?_)
    refine WL.nil ?_
    refine W.condT' rfl (by simp [e1]; omega) ?_
    refine W.seq ?_
    refine W.region ?_
    refine WL.c rfl (o_ash (show _ = Value.bool _ from rfl) ?_)
    refine WL.nil ?_
    refine W.ret ?_
    refine ret1v rfl (show _ = Value.bool _ from rfl) ?_
    exact ⟨congrArg Value.bool (dec_no (fun h => e2 (by rw [h.2]))), hx⟩
  skip
  skip
  refine W.region ?_
  refine WL.c rfl (o_fa 0 TI34 rfl TI31 rfl rfl ?_)
  refine WL.c rfl (o_ld TI31 rfl rfl (cell_of hC2 rfl) ?_)
  refine WL.c rfl (o_lenR TI31 rfl hA.ty.row ?_)
  refine WL.c rfl (o_fa 0 TI34 rfl TI31 rfl rfl ?_)
  refine WL.c rfl (o_ld TI31 rfl rfl (cell_of hC3 rfl) ?_)
  refine WL.c rfl (o_lenR TI31 rfl hB.ty.row ?_)
  refine WL.c rfl (o_ne rfl rfl ?_)
  refine WL.c rfl (o_mvh (show _ = Value.bool _ from rfl) ?_)
  refine WL.s rfl (by simp <;> omega) rfl ?_
  refine WL.s rfl (by simp <;> omega) rfl ?_
  refine WL.s rfl (by simp <;> omega) rfl ?_
  refine WL.s rfl (by simp <;> omega) rfl ?_
  refine WL.s rfl (by simp <;> omega) rfl ?_
  refine WL.s rfl (by simp <;> omega) rfl ?_
  refine WL.s rfl (by simp <;> omega) rfl ?_
  refine WL.c rfl (o_pickT rfl (by simp <;> omega) ?_)
  refine WL.nil ?_
  refine W.condT' rfl (rfl) ?_
  refine W.seq ?_
  refine W.region ?_
  refine WL.c rfl (o_ash (show _ = Value.bool _ from rfl) ?_)
  refine WL.nil ?_
  refine W.ret ?_
  refine ret1v rfl (show _ = Value.bool _ from rfl) ?_
  exact ⟨congrArg Value.bool (dec_no (fun h => e1 (by rw [h.1]))), hx⟩
end Go.Proofs.Ytpbflfgigfdohaa
