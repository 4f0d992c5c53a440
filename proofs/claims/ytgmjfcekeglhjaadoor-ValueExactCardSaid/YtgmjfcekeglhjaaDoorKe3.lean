/-
  Walks and lemmas. Written by program out of specs of mine.
-/
import Derived.WalkKit
import Derived.WalkSpells
import Derived.WalkLawsBesides
import Derived.Deep.Quiet
import Derived.StillTail
import Derived.StringKeys
import Derived.Laws.StructEq
import Derived.Laws.Externs
import Derived.Laws.Tables
import Derived.Scope
import Derived.Laws.AppendOwn
import Derived.Maps.AppendAt
import Derived.Recover
import Derived.Test.YtgmjfcekeglhjaaDoorProg
import Derived.Maps.OwnSet
import Derived.Shelf.Strconv.Itoa0
import Derived.Shelf.Strconv.Itoa1
import Derived.Shelf.LaysM
import Derived.Shelf.Strconv.Itoa2
import Derived.Lib.ItoaMem
import Derived.Lib.ItoaLen
import Derived.DeepKeys3
import Derived.SizedLaws
import Derived.ChangeArms
import Derived.ChangeSlices
import Derived.Lib.ConvBytes
import Derived.Test.YtgmjfcekeglhjaaDoorRows
import Derived.ProofKit
import Derived.OpenShut
import Derived.ShutString
import Derived.ChangeOld
import Derived.Below
import Derived.JoinedCond
import Derived.SliceStrings
import Derived.Test.YtgmjfcekeglhjaaDoorCards
import Derived.Test.YtgmjfcekeglhjaaDoorTie
import Derived.Deep.DeepHandedRow
import Derived.Lib.LaidTab
import Derived.Test.YtgmjfcekeglhjaaDoorKe2
set_option linter.unusedSimpArgs false
set_option linter.unusedVariables false
set_option maxRecDepth 100000
set_option linter.unusedSimpArgs false
set_option linter.unusedVariables false
set_option maxRecDepth 100000
namespace Go.Proofs.YtgmjfcekeglhjaaDoor
open Go Go.Vc Go.RowKit Go.Proofs

def zn : List Zf → List Nd
  | [] => []
  | f :: K => zn K ++ (⟨f.kind, f.n, (f.done.len : Int) + 1⟩ :: f.done.flat)
def zs : List Zf → List Nat
  | [] => []
  | f :: K => zs K ++ [(zn K).length]
theorem prs_none {m : Md} {K : List Zf} {c : UInt8} (h : stepZ m K c = none) (l : List UInt8) (i : Nat) : prsZ m K (c :: l) i = (none, i) := by rw [prs_cons, h]
def goW (K : List Zf) (t : Option Vt) (l : List UInt8) (i : Nat) : Option Vt × Nat := match t with | some t => prsZ (.aft t) K l i | none => prsZ .bgn K l i
theorem step_wne {a c : UInt8} {ws : List UInt8} {t : Option Vt} {K : List Zf} (h : ¬ c = a) : stepZ (.word a ws t) K c = none := by cases ws <;> cases t <;> simp [stepZ, h]
theorem word_run (K : List Zf) (t : Option Vt) : ∀ (ws : List UInt8) (a : UInt8) (l : List UInt8) (i : Nat), prsZ (.word a ws t) K l i =
    if (wordC (a :: ws) l).2 = true then goW K t (l.drop (ws.length + 1)) (i + (ws.length + 1)) else (none, i + (wordC (a :: ws) l).1)
  | ws, a, [], i => by
    rw [wordC]
    show (none, i) = (none, i + 0)
    rfl
  | [], a, c :: l, i => by
    by_cases h : c = a
    · subst h
      cases t with
      | none => rw [prs_step (m' := .bgn) (K' := K) (by simp [stepZ])]; simp [wordC, goW]
      | some t => rw [prs_step (m' := .aft t) (K' := K) (by simp [stepZ])]; simp [wordC, goW]
    · rw [prs_none (step_wne h), wordC, if_neg h]
      rfl
  | b :: ws, a, c :: l, i => by
    by_cases h : c = a
    · subst h
      rw [prs_step (m' := .word b ws t) (K' := K) (by simp [stepZ]), word_run K t ws b l (i + 1), wordC.eq_3 c (b :: ws), if_pos rfl]
      by_cases h2 : (wordC (b :: ws) l).2 = true
      · rw [if_pos h2, if_pos h2]
        rw [show i + 1 + (ws.length + 1) = i + ((b :: ws).length + 1) by rw [List.length_cons]; omega]
        rfl
      · rw [if_neg h2, if_neg h2]
        show (none, _) = (none, i + ((wordC (b :: ws) l).1 + 1))
        congr 1
        omega
    · rw [prs_none (step_wne h), wordC, if_neg h]
      rfl
theorem num_run (K : List Zf) : ∀ (l : List UInt8) (n k i : Nat), 0 < k →
    ((numL 18446744073709551615 n k l).2.1 = false → prsZ (.num n) K l i = (none, i + ((numL 18446744073709551615 n k l).2.2 - k))) ∧
    ((numL 18446744073709551615 n k l).2.1 = true → prsZ (.num n) K l i = prsZ (.aft (lf 1 (numL 18446744073709551615 n k l).1)) K (l.drop ((numL 18446744073709551615 n k l).2.2 - k)) (i + ((numL 18446744073709551615 n k l).2.2 - k)))
  | [], n, k, i, hk => by
    rw [numL]
    refine ⟨fun h => ?_, fun _ => ?_⟩
    · simp [hk] at h
    · simp only [Nat.sub_self, List.drop_nil, Nat.add_zero]
      exact num_aft ndH_nil
  | c :: l, n, k, i, hk => by
    rw [numL]
    by_cases hc : isD c = true
    · rw [if_pos hc]
      by_cases hb : (0 < k ∧ n = 0) ∨ (18446744073709551615 - dg c) / 10 < n
      · rw [if_pos hb]
        refine ⟨fun _ => ?_, fun h => by cases h⟩
        rw [prs_none (by rw [stepZ, if_pos hc, if_pos (by omega)]), Nat.sub_self]
        rfl
      · rw [if_neg hb]
        have ih := num_run K l (10 * n + dg c) (k + 1) (i + 1) (by omega)
        have hle := (numL_le 18446744073709551615 l (10 * n + dg c) (k + 1)).1
        rw [prs_step (m' := .num (10 * n + dg c)) (K' := K) (by rw [stepZ, if_pos hc, if_neg (by omega)])]
        obtain ⟨d, hd⟩ : ∃ d, (numL 18446744073709551615 (10 * n + dg c) (k + 1) l).2.2 = k + 1 + d := ⟨_, (Nat.add_sub_cancel' hle).symm⟩
        rw [hd] at ih ⊢
        rw [show k + 1 + d - (k + 1) = d by omega, show i + 1 + d = i + (d + 1) by omega] at ih
        rw [show k + 1 + d - k = d + 1 by omega]
        exact ih
    · rw [if_neg hc]
      refine ⟨fun h => ?_, fun _ => ?_⟩
      · simp [hk] at h
      · simp only [Nat.sub_self, List.drop_zero, Nat.add_zero]
        exact num_aft (ndH_cons (by simpa using hc))
theorem tag_run (K : List Zf) : ∀ (l : List UInt8) (n k i : Nat), 0 < k →
    ((numL 255 n k l).2.1 = false → prsZ (.tag n) K l i = (none, i + ((numL 255 n k l).2.2 - k))) ∧
    ((numL 255 n k l).2.1 = true → ((wordC [58] (l.drop ((numL 255 n k l).2.2 - k))).2 = false → prsZ (.tag n) K l i = (none, i + ((numL 255 n k l).2.2 - k))) ∧
      ((wordC [58] (l.drop ((numL 255 n k l).2.2 - k))).2 = true → prsZ (.tag n) K l i = prsZ .bgn (⟨6, (numL 255 n k l).1, .nil⟩ :: K) (l.drop ((numL 255 n k l).2.2 - k + 1)) (i + ((numL 255 n k l).2.2 - k + 1))))
  | [], n, k, i, hk => by
    rw [numL]
    refine ⟨fun h => ?_, fun _ => ⟨fun _ => ?_, fun h => ?_⟩⟩
    · simp [hk] at h
    · simp only [Nat.sub_self, Nat.add_zero]
      rfl
    · rw [List.drop_nil] at h; cases h
  | c :: l, n, k, i, hk => by
    rw [numL]
    by_cases hc : isD c = true
    · rw [if_pos hc]
      by_cases hb : (0 < k ∧ n = 0) ∨ (255 - dg c) / 10 < n
      · rw [if_pos hb]
        refine ⟨fun _ => ?_, fun h => by cases h⟩
        rw [prs_none (by rw [stepZ, if_pos hc, if_pos (by omega)]), Nat.sub_self]
        rfl
      · rw [if_neg hb]
        have ih := tag_run K l (10 * n + dg c) (k + 1) (i + 1) (by omega)
        have hle := (numL_le 255 l (10 * n + dg c) (k + 1)).1
        rw [prs_step (m' := .tag (10 * n + dg c)) (K' := K) (by rw [stepZ, if_pos hc, if_neg (by omega)])]
        obtain ⟨d, hd⟩ : ∃ d, (numL 255 (10 * n + dg c) (k + 1) l).2.2 = k + 1 + d := ⟨_, (Nat.add_sub_cancel' hle).symm⟩
        rw [hd] at ih ⊢
        rw [show k + 1 + d - (k + 1) = d by omega, show i + 1 + d = i + (d + 1) by omega, show i + 1 + (d + 1) = i + (d + 1 + 1) by omega] at ih
        rw [show k + 1 + d - k = d + 1 by omega]
        exact ih
    · rw [if_neg hc]
      refine ⟨fun h => ?_, fun _ => ?_⟩
      · simp [hk] at h
      · simp only [Nat.sub_self, List.drop_zero, Nat.add_zero, Nat.zero_add]
        by_cases h8 : c = 58
        · subst h8
          refine ⟨fun h => by simp [wordC] at h, fun _ => ?_⟩
          rw [prs_step (m' := .bgn) (K' := ⟨6, n, .nil⟩ :: K) (by rw [stepZ, if_neg hc, if_pos rfl])]
          rfl
        · refine ⟨fun _ => prs_none (by rw [stepZ, if_neg hc, if_neg h8]) _ _, fun h => ?_⟩
          rw [wordC, if_neg h8] at h
          cases h
/-- what 'begin' answers -/
def BgP (K : List Zf) (T : List UInt8) (j : Nat) (goes ok : Bool) (j2 : Nat) (N2 : List Nd) (S2 : List Nat) : Prop :=
  j2 ≤ T.length ∧ (ok = false → prsZ .bgn K (T.drop j) j = (none, j2)) ∧
  (ok = true → j < j2 ∧ ((goes = true ∧ ∃ f : Zf, f.done = .nil ∧ (f.kind = 3 ∨ f.kind = 4 ∨ f.kind = 5 ∨ f.kind = 6) ∧ N2 = zn (f :: K) ∧ S2 = zs (f :: K) ∧ prsZ .bgn K (T.drop j) j = prsZ .bgn (f :: K) (T.drop j2) j2) ∨
    (goes = false ∧ ∃ t : Vt, t.flat.length = 1 ∧ N2 = zn K ++ t.flat ∧ S2 = zs K ∧ prsZ .bgn K (T.drop j) j = prsZ (.aft t) K (T.drop j2) j2)))
theorem at_cons {T : List UInt8} {j : Nat} (hj : j < T.length) {c : UInt8} (hc : T[j] = c) : T.drop j = c :: T.drop (j + 1) := by rw [← hc, List.getElem_cons_drop hj]
theorem beg_word {K K' : List Zf} {T : List UInt8} {j : Nat} (hj : j < T.length) {c a : UInt8} (hc : T[j] = c) {ws : List UInt8} {t : Option Vt} (hb : bgnS K c = some (.word a ws t, K')) :
    j + (wordC (c :: a :: ws) (T.drop j)).1 ≤ T.length ∧ ((wordC (c :: a :: ws) (T.drop j)).2 = false → prsZ .bgn K (T.drop j) j = (none, j + (wordC (c :: a :: ws) (T.drop j)).1)) ∧
    ((wordC (c :: a :: ws) (T.drop j)).2 = true → j < j + (wordC (c :: a :: ws) (T.drop j)).1 ∧ prsZ .bgn K (T.drop j) j = goW K' t (T.drop (j + (wordC (c :: a :: ws) (T.drop j)).1)) (j + (wordC (c :: a :: ws) (T.drop j)).1)) := by
  have h0 := (wordC_le (c :: a :: ws) (T.drop j)).1
  rw [List.length_drop] at h0
  have h1 := word_run K' t ws a (T.drop (j + 1)) (j + 1)
  have h2 : prsZ .bgn K (T.drop j) j = prsZ (.word a ws t) K' (T.drop (j + 1)) (j + 1) := by rw [at_cons hj hc, prs_step (show stepZ .bgn K c = some (.word a ws t, K') from hb)]
  have h3 : wordC (c :: a :: ws) (T.drop j) = ((wordC (a :: ws) (T.drop (j + 1))).1 + 1, (wordC (a :: ws) (T.drop (j + 1))).2) := by rw [at_cons hj hc, wordC, if_pos rfl]
  have h4 := wordC_all (a :: ws) (T.drop (j + 1))
  rw [h3] at h0 ⊢
  rw [h2, h1]
  refine ⟨by omega, fun h => ?_, fun h => ⟨by omega, ?_⟩⟩
  · rw [if_neg (by simp only at h; rw [h]; exact Bool.false_ne_true)]
    show (none, _) = (none, _)
    congr 1
    show j + 1 + _ = j + (_ + 1)
    omega
  · have h : (wordC (a :: ws) (T.drop (j + 1))).2 = true := h
    rw [if_pos h]
    rw [show j + ((wordC (a :: ws) (T.drop (j + 1))).1 + 1) = j + 1 + (ws.length + 1) by rw [h4 h, List.length_cons]; omega]
    rw [List.drop_drop]
theorem BgP.leafw {K : List Zf} {T : List UInt8} {j : Nat} (hj : j < T.length) {c a : UInt8} (hc : T[j] = c) {ws : List UInt8} {k : Int} {n : Nat} (hb : bgnS K c = some (.word a ws (some (lf k n)), K)) :
    BgP K T j false (wordC (c :: a :: ws) (T.drop j)).2 (j + (wordC (c :: a :: ws) (T.drop j)).1) (zn K ++ [⟨k, n, 0⟩]) (zs K) := by
  obtain ⟨h1, h2, h3⟩ := beg_word hj hc hb
  exact ⟨h1, h2, fun h => ⟨(h3 h).1, .inr ⟨rfl, lf k n, rfl, rfl, rfl, (h3 h).2⟩⟩⟩
theorem BgP.som {K : List Zf} {T : List UInt8} {j : Nat} (hj : j < T.length) (hc : T[j] = 115) :
    BgP K T j true (wordC [115, 111, 109, 101, 32] (T.drop j)).2 (j + (wordC [115, 111, 109, 101, 32] (T.drop j)).1) (zn K ++ [⟨5, 0, 1⟩]) (zs K ++ [(zn K).length]) := by
  obtain ⟨h1, h2, h3⟩ := beg_word (K := K) hj hc (a := 111) (ws := [109, 101, 32]) (t := none) (K' := ⟨5, 0, .nil⟩ :: K) rfl
  exact ⟨h1, h2, fun h => ⟨(h3 h).1, .inl ⟨rfl, ⟨5, 0, .nil⟩, rfl, by decide, rfl, rfl, (h3 h).2⟩⟩⟩
theorem BgP.stop {K : List Zf} {T : List UInt8} {j : Nat} {N2 : List Nd} {S2 : List Nat} (hj : j = T.length) : BgP K T j false false j N2 S2 := by
  subst hj
  exact ⟨Nat.le_refl _, fun _ => by rw [List.drop_length]; rfl, fun h => by cases h⟩
theorem BgP.struct {K : List Zf} {T : List UInt8} {j : Nat} (hj : j < T.length) (hc : T[j] = 123) : BgP K T j true true (j + 1) (zn K ++ [⟨4, 0, 1⟩]) (zs K ++ [(zn K).length]) := by
  refine ⟨hj, fun h => (by cases h), fun h => ⟨by omega, .inl ⟨rfl, ⟨4, 0, .nil⟩, rfl, by decide, rfl, rfl, ?_⟩⟩⟩
  rw [at_cons hj hc, prs_step (show stepZ .bgn K 123 = some (.bgn, ⟨4, 0, .nil⟩ :: K) from rfl)]
theorem BgP.seq0 {K : List Zf} {T : List UInt8} {j : Nat} (hj : j < T.length) (hc : T[j] = 91) (hj2 : j + 1 < T.length) (hc2 : T[j + 1] = 93) : BgP K T j false true (j + 1 + 1) (zn K ++ [⟨3, 0, 0⟩]) (zs K) := by
  refine ⟨hj2, fun h => (by cases h), fun h => ⟨by omega, .inr ⟨rfl, lf 3 0, rfl, rfl, rfl, ?_⟩⟩⟩
  rw [at_cons hj hc, prs_step (show stepZ .bgn K 91 = some (.sq1, K) from rfl), at_cons hj2 hc2, prs_step (show stepZ .sq1 K 93 = some (.aft (lf 3 0), K) from rfl)]
theorem BgP.seq {K : List Zf} {T : List UInt8} {j : Nat} (hj : j < T.length) (hc : T[j] = 91) (h2 : ∀ h : j + 1 < T.length, T[j + 1] ≠ 93) : BgP K T j true true (j + 1) (zn K ++ [⟨3, 0, 1⟩]) (zs K ++ [(zn K).length]) := by
  refine ⟨hj, fun h => (by cases h), fun h => ⟨by omega, .inl ⟨rfl, ⟨3, 0, .nil⟩, rfl, by decide, rfl, rfl, ?_⟩⟩⟩
  rw [at_cons hj hc, prs_step (show stepZ .bgn K 91 = some (.sq1, K) from rfl)]
  by_cases hl : j + 1 < T.length
  · rw [at_cons hl rfl, prs_cons, prs_cons, show stepZ .sq1 K T[j + 1] = stepZ .bgn (⟨3, 0, .nil⟩ :: K) T[j + 1] by simp [stepZ, h2 hl]]
  · rw [List.drop_eq_nil_of_le (by omega)]
    rfl
theorem BgP.tag {K : List Zf} {T : List UInt8} {j : Nat} (hj : j < T.length) (hc : T[j] = 60) {ok : Bool} {j2 : Nat}
    (h1 : (numL 255 0 0 (T.drop (j + 1))).2.1 = false → ok = false ∧ j2 = j + 1 + (numL 255 0 0 (T.drop (j + 1))).2.2)
    (h2 : (numL 255 0 0 (T.drop (j + 1))).2.1 = true → ok = (wordC [58] (T.drop (j + 1 + (numL 255 0 0 (T.drop (j + 1))).2.2))).2 ∧ j2 = j + 1 + (numL 255 0 0 (T.drop (j + 1))).2.2 + (wordC [58] (T.drop (j + 1 + (numL 255 0 0 (T.drop (j + 1))).2.2))).1) :
    BgP K T j true ok j2 (zn K ++ [⟨6, (numL 255 0 0 (T.drop (j + 1))).1, 1⟩]) (zs K ++ [(zn K).length]) := by
  have e0 : prsZ .bgn K (T.drop j) j = prsZ .tag0 K (T.drop (j + 1)) (j + 1) := by rw [at_cons hj hc, prs_step (show stepZ .bgn K 60 = some (.tag0, K) from rfl)]
  have hle := (numL_le 255 (T.drop (j + 1)) 0 0).2
  rw [List.length_drop] at hle
  have hwl := (wordC_le [58] (T.drop (j + 1 + (numL 255 0 0 (T.drop (j + 1))).2.2)))
  have hwa := (wordC_all [58] (T.drop (j + 1 + (numL 255 0 0 (T.drop (j + 1))).2.2)))
  rw [List.length_drop] at hwl
  have hw0 : (wordC [58] (T.drop (j + 1 + (numL 255 0 0 (T.drop (j + 1))).2.2))).2 = false → (wordC [58] (T.drop (j + 1 + (numL 255 0 0 (T.drop (j + 1))).2.2))).1 = 0 := by
    intro h
    cases hl : T.drop (j + 1 + (numL 255 0 0 (T.drop (j + 1))).2.2) with
    | nil => rfl
    | cons c l => rw [hl, wordC] at h; rw [wordC]; split at h; · cases h
                  · rename_i hne; rw [if_neg hne]
  have key : ((numL 255 0 0 (T.drop (j + 1))).2.1 = false → prsZ .tag0 K (T.drop (j + 1)) (j + 1) = (none, j + 1 + (numL 255 0 0 (T.drop (j + 1))).2.2)) ∧
      ((numL 255 0 0 (T.drop (j + 1))).2.1 = true → ((wordC [58] (T.drop (j + 1 + (numL 255 0 0 (T.drop (j + 1))).2.2))).2 = false → prsZ .tag0 K (T.drop (j + 1)) (j + 1) = (none, j + 1 + (numL 255 0 0 (T.drop (j + 1))).2.2)) ∧
        ((wordC [58] (T.drop (j + 1 + (numL 255 0 0 (T.drop (j + 1))).2.2))).2 = true → prsZ .tag0 K (T.drop (j + 1)) (j + 1) = prsZ .bgn (⟨6, (numL 255 0 0 (T.drop (j + 1))).1, .nil⟩ :: K) (T.drop (j + 1 + (numL 255 0 0 (T.drop (j + 1))).2.2 + 1)) (j + 1 + (numL 255 0 0 (T.drop (j + 1))).2.2 + 1))) := by
    by_cases hl : j + 1 < T.length
    · rw [at_cons hl rfl]
      rw [numL]
      by_cases hd : isD T[j + 1] = true
      · have h3 := tag_run K (T.drop (j + 1 + 1)) (10 * 0 + dg T[j + 1]) (0 + 1) (j + 1 + 1) (by omega)
        have hle1 := (numL_le 255 (T.drop (j + 1 + 1)) (10 * 0 + dg T[j + 1]) (0 + 1)).1
        rw [if_pos hd, if_neg (by omega), prs_step (m' := .tag (10 * 0 + dg T[j + 1])) (K' := K) (by rw [stepZ, if_pos hd]; simp)]
        obtain ⟨d, hd'⟩ : ∃ d, (numL 255 (10 * 0 + dg T[j + 1]) (0 + 1) (T.drop (j + 1 + 1))).2.2 = d + 1 := ⟨_, (Nat.sub_add_cancel hle1).symm⟩
        rw [hd'] at h3 ⊢
        rw [Nat.add_sub_cancel, List.drop_drop, List.drop_drop] at h3
        rw [show j + 1 + (d + 1) = j + 1 + 1 + d by omega]
        rw [show j + 1 + 1 + (d + 1) = j + 1 + 1 + d + 1 by omega] at h3
        exact h3
      · rw [if_neg hd]
        refine ⟨fun _ => ?_, fun h => by simp at h⟩
        rw [prs_none (by rw [stepZ, if_neg hd])]
        rfl
    · rw [show T.drop (j + 1) = [] from List.drop_eq_nil_of_le (by omega), numL]
      exact ⟨fun _ => rfl, fun h => by simp at h⟩
  rw [BgP, e0]
  cases hr : (numL 255 0 0 (T.drop (j + 1))).2.1 with
  | false =>
    obtain ⟨rfl, rfl⟩ := h1 hr
    exact ⟨by omega, fun _ => key.1 hr, fun h => by cases h⟩
  | true =>
    obtain ⟨rfl, rfl⟩ := h2 hr
    have k2 := key.2 hr
    refine ⟨by omega, fun h => ?_, fun h => ⟨by omega, .inl ⟨rfl, ⟨6, (numL 255 0 0 (T.drop (j + 1))).1, .nil⟩, rfl, .inr (.inr (.inr rfl)), rfl, rfl, ?_⟩⟩⟩
    · rw [k2.1 h, hw0 h]; rfl
    · rw [k2.2 h, hwa h]; rfl
theorem BgP.num {K : List Zf} {T : List UInt8} {j : Nat} (hj : j < T.length) (hc : T[j] ≠ 116 ∧ T[j] ≠ 102 ∧ T[j] ≠ 110 ∧ T[j] ≠ 115 ∧ T[j] ≠ 91 ∧ T[j] ≠ 123 ∧ T[j] ≠ 60) :
    BgP K T j false (numL 18446744073709551615 0 0 (T.drop j)).2.1 (j + (numL 18446744073709551615 0 0 (T.drop j)).2.2) (zn K ++ [⟨1, (numL 18446744073709551615 0 0 (T.drop j)).1, 0⟩]) (zs K) := by
  have hle := (numL_le 18446744073709551615 (T.drop j) 0 0).2
  rw [List.length_drop] at hle
  obtain ⟨c1, c2, c3, c4, c5, c6, c7⟩ := hc
  have hb : bgnS K T[j] = if isD T[j] = true then some (.num (dg T[j]), K) else none := by
    rw [bgnS, if_neg c1, if_neg c2, if_neg c3, if_neg c4, if_neg c5, if_neg c6, if_neg c7]
  refine ⟨by omega, ?_⟩
  rw [at_cons hj rfl, numL]
  by_cases hd : isD T[j] = true
  · rw [if_pos hd] at hb
    have h3 := num_run K (T.drop (j + 1)) (10 * 0 + dg T[j]) (0 + 1) (j + 1) (by omega)
    have hle1 := (numL_le 18446744073709551615 (T.drop (j + 1)) (10 * 0 + dg T[j]) (0 + 1)).1
    rw [if_pos hd, if_neg (by omega), prs_step (m' := .num (10 * 0 + dg T[j])) (K' := K) (by rw [stepZ, hb]; simp)]
    obtain ⟨d, hd'⟩ : ∃ d, (numL 18446744073709551615 (10 * 0 + dg T[j]) (0 + 1) (T.drop (j + 1))).2.2 = d + 1 := ⟨_, (Nat.sub_add_cancel hle1).symm⟩
    rw [hd'] at h3 ⊢
    rw [Nat.add_sub_cancel, List.drop_drop] at h3
    rw [show j + (d + 1) = j + 1 + d by omega]
    exact ⟨h3.1, fun h => ⟨by omega, .inr ⟨rfl, lf 1 _, rfl, rfl, rfl, h3.2 h⟩⟩⟩
  · rw [if_neg hd] at hb
    rw [if_neg hd]
    refine ⟨fun _ => ?_, fun h => by simp at h⟩
    rw [prs_none (by rw [stepZ, hb])]
    rfl

set_option maxHeartbeats 2000000 in
theorem vput_spec (B g : Nat) (T : List UInt8) (j : Nat) (nv : Value) (N : List Nd) (sv : Value) (S : List Nat) (k : Int) (n : Nat) (w0 : World) (h : RdM w0 B g T j nv N sv S) (hN : N.length ≤ 2097152) (hS : S.length ≤ 2097152) : Ca Tryd.prog 63 #[.pointer (some ⟨g, 0, none⟩), .int .i64 k, .int .u64 (n : Int)] w0 (fun _ w' => ∃ nv2, RdM w' B g T j nv2 (N ++ [⟨k, n, 0⟩]) sv S ∧ Only (fun k => B ≤ k) w0 w') := by
  refine Ca.of Tryd.func63 Tryd.ntmps63 rfl rfl ?_
  refine W.region ?_
  refine WL.c rfl (o_mvh (by first | exact (show _ = Value.pointer _ from rfl) | exact rfl) ?_)
  refine WL.c rfl (o_mvh (by first | exact (show _ = Value.pointer _ from rfl) | exact rfl) ?_)
  refine WL.c rfl (o_nil rfl ?_)
  refine WL.c rfl (o_fa 2 TI111 rfl TI30 rfl rfl ?_)
  refine WL.c rfl (o_ld TI30 rfl rfl (cell_of h.cell rfl) ?_)
  refine WL.c rfl (o_mvh (show _ = Value.int _ _ from rfl) ?_)
  refine WL.c rfl (o_mvh (show _ = Value.int _ _ from rfl) ?_)
  refine WL.c rfl (o_bldC (cs := [_, _, (.int .i64 0)]) TI69 (Sizes.cons TI3 (Sizes.cons TI43 (Sizes.cons TI3 Sizes.nil))) rfl (lcp (show _ = Value.int _ _ from rfl) (lcp (show _ = Value.int _ _ from rfl) lnp)) rfl rfl ?_)
  refine WL.ap1 (B) rfl rfl TI30 TI69 (show _ = Value.agg #[.int .i64 k, .int .u64 (n : Int), .int .i64 0] from rfl) rfl h.nod (by decide) (by decide) rfl (fun a ha => by simp [Value.cells] at ha; rcases ha with rfl | rfl | rfl <;> rfl) rfl (by rw [maxLen_eq]; omega) (by omega) h.sz ?_
  intro v15 w15 hown ho
  have hcell := ho.blk h.cell h.offn
  have hstk := own_only h.stk ho (fun k hk he => own_row_off h.nod h.stk (by decide) k hk he)
  have hng : ∀ b, nv.ownBlock = some b → B ≤ b := fun b hb => (h.nod.lt b hb).1
  have hO : Only (fun k => B ≤ k) w0 w15 := ho.mono (fun k _ hk => hng k hk)
  replace hown : w15.ownsRow B 69 3 v15 (N ++ [⟨k, n, 0⟩] : List Nd).length (nds (N ++ [⟨k, n, 0⟩])) := by rw [nds_snoc, List.length_append]; exact hown
  refine WL.c rfl (o_nil rfl ?_)
  refine WL.c rfl (o_fa 2 TI111 rfl TI30 rfl rfl ?_)
  refine WL.u (o_stB TI30 rfl (show _ = v15 from rfl) (own_one hown) hcell (show 2 < 4 by decide) ?_)
  intro w17 hB17 ho17 hs17
  have hoff : ¬ v15.ownBlock = some g := own_off hown hcell (by decide)
  have hoff2 : ¬ sv.ownBlock = some g := own_off hstk hcell (by decide)
  have h2 : RdM w17 B g T j v15 (N ++ [⟨k, n, 0⟩]) sv S := ⟨hB17, own_only hown ho17 (fun k hk he => by subst he; exact hoff hk), own_only hstk ho17 (fun k hk he => by subst he; exact hoff2 hk), h.hb⟩
  have hO2 := hO.trans (oneG ho17 h.hb)
  refine WL.nil ?_
  refine ret0 rfl ?_
  exact ⟨v15, h2, hO2⟩
set_option maxHeartbeats 4000000 in
theorem vdown_spec (B g : Nat) (T : List UInt8) (j : Nat) (nv : Value) (N : List Nd) (sv : Value) (S : List Nat) (k : Int) (n : Nat) (w0 : World) (h : RdM w0 B g T j nv N sv S) (hN : N.length ≤ 2097152) (hS : S.length ≤ 2097152) : Ca Tryd.prog 64 #[.pointer (some ⟨g, 0, none⟩), .int .i64 k, .int .u64 (n : Int)] w0 (fun _ w' => ∃ nv2 sv2, RdM w' B g T j nv2 (N ++ [⟨k, n, 1⟩]) sv2 (S ++ [N.length]) ∧ Only (fun k => B ≤ k) w0 w') := by
  refine Ca.of Tryd.func64 Tryd.ntmps64 rfl rfl ?_
  refine W.seq ?_
  obtain ⟨wd, hwd⟩ : ∃ wd, wd = w0.drew := ⟨_, rfl⟩
  have hxd : Ext w0 wd := hwd ▸ Only.drew w0
  replace h := h.ext hxd
  have hlt : ∀ k, sv.ownBlock = some k → k < wd.heap.size := fun k hk => (h.stk.lt k hk).2
  have hge : ∀ k, sv.ownBlock = some k → B ≤ k := fun k hk => (h.stk.lt k hk).1
  refine W.drawF 12 [11] [fun k => sv.ownBlock = some k] [(0, fun v _ => v = _), (1, fun v _ => v = _), (2, fun v _ => v = _)] rfl (by kernel_rfl) (by kernel_rfl) ⟨Mono.eq, Mono.eq, Mono.eq, trivial⟩ ⟨rfl, rfl, rfl, trivial⟩ ?_
  refine WDS.p rfl (by decide) (fun e w hR hh => by obtain ⟨h0, -⟩ := hh; exact SG.n (o_mvh h0 ⟨rfl, Only.refl No _⟩)) ?_
  refine WDS.p rfl (by decide) (fun e w hR hh => by obtain ⟨h0, -⟩ := hh; exact SG.n (o_mvh h0 ⟨rfl, Only.refl No _⟩)) ?_
  refine WDS.p rfl (by decide) (fun e w hR hh => by obtain ⟨h7, -⟩ := hh; exact SG.n (o_nil h7 ⟨rfl, Only.refl No _⟩)) ?_
  refine WDS.p rfl (by decide) (fun e w hR hh => by obtain ⟨h8, -⟩ := hh; exact SG.n (o_fa 3 TI111 rfl TI75 rfl h8 ⟨rfl, Only.refl No _⟩)) ?_
  refine WDS.p rfl (by decide) (fun e w hR hh => by obtain ⟨h9, -⟩ := hh; rw [← hwd] at hR; have hc := hR.blk h.cell (fun hF => by rcases hF with hF | hF <;> first | exact h.offs hF | exact hF); exact SG.n (o_ld TI75 rfl h9 (cell_of hc rfl) ⟨rfl, Only.refl No _⟩)) ?_
  refine WDS.p rfl (by decide) (fun e w hR hh => by obtain ⟨h0, -⟩ := hh; exact SG.n (o_mvh h0 ⟨rfl, Only.refl No _⟩)) ?_
  refine WDS.p rfl (by decide) (fun e w hR hh => by obtain ⟨h11, -⟩ := hh; exact SG.n (o_nil h11 ⟨rfl, Only.refl No _⟩)) ?_
  refine WDS.p rfl (by decide) (fun e w hR hh => by obtain ⟨h12, -⟩ := hh; exact SG.n (o_fa 2 TI111 rfl TI30 rfl h12 ⟨rfl, Only.refl No _⟩)) ?_
  refine WDS.p rfl (by decide) (fun e w hR hh => by obtain ⟨h13, -⟩ := hh; rw [← hwd] at hR; have hc := hR.blk h.cell (fun hF => by rcases hF with hF | hF <;> first | exact h.offs hF | exact hF); exact SG.n (o_ld TI30 rfl h13 (cell_of hc rfl) ⟨rfl, Only.refl No _⟩)) ?_
  refine WDS.p rfl (by decide) (fun e w hR hh => by obtain ⟨h14, -⟩ := hh; rw [← hwd] at hR; have hnw := own_only h.nod hR (fun k hk hF => by rcases hF with hF | hF <;> first | exact own_row_off h.stk h.nod (by decide) k hk hF | exact hF); exact SG.n (o_lenR TI30 h14 (Sl.own hnw) ⟨rfl, Only.refl No _⟩)) ?_
  refine WDS.q 0 (fun v w => w.ownsRow wd.heap.size 3 1 v 1 (ints [N.length])) (fun v w w2 hR hh => own_only hh hR (fun k hk hF => by rcases hF with hF | hF <;> first | exact hF | (have := hlt k hF; have := (hh.lt k hk).1; omega))) (by kernel_rfl) rfl (by decide) (fun e w hR hh => by obtain ⟨h15, -⟩ := hh; rw [← hwd] at hR; exact SG.n (o_bs1 TI75 TI3 h15 (by decide) (by decide) rfl ⟨own_mono (own_new1 rfl) hR.size, Only.alloc w _⟩)) ?_
  refine WDS.mf 0 1 (fun v w => w.ownsRow B 3 1 v (S ++ [N.length]).length (ints (S ++ [N.length]))) (fun v w w2 hR hh => own_ext hh hR) (by kernel_rfl) rfl rfl rfl (fun e w hR hW hh => by obtain ⟨h16, h10, -⟩ := hh; rw [← hwd] at hR hW; have hW2 : Ext wd w := hW.mono (fun k _ hF => hF); exact SGX.n (OP.x (o_apO B TI75 TI3 h10 rfl (own_ext h.stk hW2) (Sl.own h16) rfl (by decide) (fun a ha => by simp [ints] at ha; subst ha; rfl) (by rw [maxLen_eq]; omega) (by omega) (by have := h.sz; have := hW2.size; omega) (fun v' w' h1 h2 h3 _ => ⟨by rw [ints_snoc, List.length_append]; exact h1, h2⟩)))) ?_
  rintro e w hR ⟨h17, h16, h15, h14, h13, h12, h11, h10, h9, h8, h7, h6, h0, h1, h2, -⟩
  rw [← hwd] at hR
  obtain ⟨v17, hv17⟩ : ∃ v, v = e 17 := ⟨_, rfl⟩
  rw [← hv17] at h17
  have hc0 := hR.blk h.cell (fun hF => by rcases hF with hF | hF <;> first | exact h.offs hF | exact hF)
  refine WL.c rfl (o_nil h6 ?_)
  refine WL.c rfl (o_fa 3 TI111 rfl TI75 rfl rfl ?_)
  refine WL.u (o_stB TI75 rfl (show _ = v17 from hv17.symm) (own_one h17) hc0 (show 3 < 4 by decide) ?_)
  intro w19 hB19 ho19 hs19
  have hnod := own_only h.nod hR (fun k hk hF => by rcases hF with hF | hF <;> first | exact own_row_off h.stk h.nod (by decide) k hk hF | exact hF)
  have hoff : ¬ v17.ownBlock = some g := own_off h17 hc0 (by decide)
  have hoff2 : ¬ nv.ownBlock = some g := own_off hnod hc0 (by decide)
  have hO : Only (fun k => B ≤ k) w0 w19 := ((hxd.mono (fun _ _ h => h.elim)).trans (hR.mono (fun k _ hF => by rcases hF with hF | hF <;> first | exact hge k hF | exact hF.elim))).trans (oneG ho19 h.hb)
  have h2 : RdM w19 B g T j nv N v17 (S ++ [N.length]) := ⟨hB19, own_only hnod ho19 (fun k hk he => by subst he; exact hoff2 hk), own_only h17 ho19 (fun k hk he => by subst he; exact hoff hk), h.hb⟩
  clear h hR
  have h := h2
  clear h2
  refine WL.nil ?_
  refine W.region ?_
  refine WL.c rfl (o_mvh h0 ?_)
  refine WL.c rfl (o_mvh h0 ?_)
  refine WL.c rfl (o_nil rfl ?_)
  refine WL.c rfl (o_fa 2 TI111 rfl TI30 rfl rfl ?_)
  refine WL.c rfl (o_ld TI30 rfl rfl (cell_of h.cell rfl) ?_)
  refine WL.c rfl (o_mvh h1 ?_)
  refine WL.c rfl (o_mvh h2 ?_)
  refine WL.c rfl (o_bldC (cs := [_, _, (.int .i64 1)]) TI69 (Sizes.cons TI3 (Sizes.cons TI43 (Sizes.cons TI3 Sizes.nil))) rfl (lcp (show _ = Value.int _ _ from rfl) (lcp (show _ = Value.int _ _ from rfl) (lcp (show _ = Value.int _ _ from rfl) lnp))) rfl rfl ?_)
  refine WL.ap1 (B) rfl rfl TI30 TI69 (show _ = Value.agg #[.int .i64 k, .int .u64 (n : Int), .int .i64 1] from rfl) rfl h.nod (by decide) (by decide) rfl (fun a ha => by simp [Value.cells] at ha; rcases ha with rfl | rfl | rfl <;> rfl) rfl (by rw [maxLen_eq]; omega) (by omega) h.sz ?_
  intro v29 w29 hown ho
  have hcell := ho.blk h.cell h.offn
  have hstk := own_only h.stk ho (fun k hk he => own_row_off h.nod h.stk (by decide) k hk he)
  have hng : ∀ b, nv.ownBlock = some b → B ≤ b := fun b hb => (h.nod.lt b hb).1
  have hO29 : Only (fun k => B ≤ k) w19 w29 := ho.mono (fun k _ hk => hng k hk)
  replace hown : w29.ownsRow B 69 3 v29 (N ++ [⟨k, n, 1⟩] : List Nd).length (nds (N ++ [⟨k, n, 1⟩])) := by rw [nds_snoc, List.length_append]; exact hown
  refine WL.c rfl (o_nil rfl ?_)
  refine WL.c rfl (o_fa 2 TI111 rfl TI30 rfl rfl ?_)
  refine WL.u (o_stB TI30 rfl (show _ = v29 from rfl) (own_one hown) hcell (show 2 < 4 by decide) ?_)
  intro w31 hB31 ho31 hs31
  have hoff : ¬ v29.ownBlock = some g := own_off hown hcell (by decide)
  have hoff2 : ¬ v17.ownBlock = some g := own_off hstk hcell (by decide)
  have h2 : RdM w31 B g T j v29 (N ++ [⟨k, n, 1⟩]) v17 (S ++ [N.length]) := ⟨hB31, own_only hown ho31 (fun k hk he => by subst he; exact hoff hk), own_only hstk ho31 (fun k hk he => by subst he; exact hoff2 hk), h.hb⟩
  have hO2 := (hO.trans hO29).trans (oneG ho31 h.hb)
  refine WL.nil ?_
  refine ret0 rfl ?_
  exact ⟨v29, v17, h2, hO2⟩
set_option maxHeartbeats 8000000 in
theorem vbegin_spec (B g : Nat) (T : List UInt8) (j : Nat) (nv : Value) (K : List Zf) (sv : Value) (w0 : World) (h : RdM w0 B g T j nv (zn K) sv (zs K)) (hj : j ≤ T.length) (hT : T.length ≤ 1048576) (hN : (zn K).length ≤ 2000000) (hS : (zs K).length ≤ 2000000) : Ca Tryd.prog 47 #[.pointer (some ⟨g, 0, none⟩)] w0 (fun r w' => ∃ (goes ok : Bool) (j2 : Nat) (nv2 : Value) (N2 : List Nd) (sv2 : Value) (S2 : List Nat), r = .tuple #[.bool goes, .bool ok] ∧ RdM w' B g T j2 nv2 N2 sv2 S2 ∧ Only (fun k => B ≤ k) w0 w' ∧ BgP K T j goes ok j2 N2 S2) := by
  have ho : Only (fun k => B ≤ k) w0 w0 := Only.refl _ _
  refine Ca.of Tryd.func47 Tryd.ntmps47 rfl rfl ?_
  refine W.seq ?_
  refine W.region ?_
  refine WL.c rfl (o_ash (show _ = Value.bool _ from rfl) ?_)
  refine WL.c rfl (o_ash (show _ = Value.bool _ from rfl) ?_)
  refine WL.nil ?_
  refine W.seq ?_
  refine W.seq ?_
  refine W.quiet rfl (by kernel_rfl) ?_
  refine WQ.c rfl ((QO.o rfl fun _ => o_mvh (by first | exact (show _ = Value.pointer _ from rfl) | exact rfl) ⟨rfl, rfl⟩)) ?_
  refine WQ.c rfl ((QO.r fun _ => r_nil rfl)) ?_
  refine WQ.c rfl ((QO.o rfl fun _ => o_fa 1 TI111 rfl TI3 rfl rfl ⟨rfl, rfl⟩)) ?_
  refine WQ.c rfl ((QO.o rfl fun _ => o_ld TI3 rfl rfl (cell_of h.cell rfl) ⟨rfl, rfl⟩)) ?_
  refine WQ.c rfl ((QO.o rfl fun _ => o_mvh (by first | exact (show _ = Value.pointer _ from rfl) | exact rfl) ⟨rfl, rfl⟩)) ?_
  refine WQ.c rfl ((QO.r fun _ => r_nil rfl)) ?_
  refine WQ.c rfl ((QO.o rfl fun _ => o_fa 0 TI111 rfl TI9 rfl rfl ⟨rfl, rfl⟩)) ?_
  refine WQ.c rfl ((QO.o rfl fun _ => o_ld TI9 rfl rfl (cell_of h.cell rfl) ⟨rfl, rfl⟩)) ?_
  refine WQ.c rfl ((QO.r fun _ => r_lenT TI9 rfl)) ?_
  refine WQ.c rfl ((QO.o rfl fun _ => o_ge rfl rfl ⟨rfl, rfl⟩)) ?_
  refine WQ.nil ?_
  intro nq
  have hq := Only.drewN w0 nq
  replace h := h.ext hq
  replace ho := ho.trans' hq (fun _ h => h) (fun _ _ h => h.elim)
  generalize World.drewN w0 nq = wq1 at *
  clear hq
  refine W.cond rfl (fun c16 => ?_) (fun c16 => ?_)
  · try simp only [decide_eq_true_eq, decide_eq_false_iff_not, Bool.not_eq_true', Bool.not_eq_false', Bool.and_eq_true, Bool.or_eq_true, Bool.and_eq_false_iff, Bool.or_eq_false_iff] at c16
    have hj1 : j = T.length := by omega
    refine W.seq ?_
    refine W.region ?_
    refine WL.c rfl (o_ash (show _ = Value.bool _ from rfl) ?_)
    refine WL.c rfl (o_ash (show _ = Value.bool _ from rfl) ?_)
    refine WL.nil ?_
    refine W.ret ?_
    refine ret2v rfl (show _ = Value.bool _ from rfl) (show _ = Value.bool _ from rfl) ?_
    exact ⟨false, false, j, nv, zn K, sv, zs K, rfl, h, ho, BgP.stop hj1⟩
  · try simp only [decide_eq_true_eq, decide_eq_false_iff_not, Bool.not_eq_true', Bool.not_eq_false', Bool.and_eq_true, Bool.or_eq_true, Bool.and_eq_false_iff, Bool.or_eq_false_iff] at c16
    have hj1 : j < T.length := by omega
    refine W.skip ?_
    refine W.seq ?_
    refine W.seq ?_
    refine W.quiet rfl (by kernel_rfl) ?_
    refine WQ.c rfl ((QO.o rfl fun _ => o_mvh (by first | exact (show _ = Value.pointer _ from rfl) | exact rfl) ⟨rfl, rfl⟩)) ?_
    refine WQ.c rfl ((QO.r fun _ => r_nil rfl)) ?_
    refine WQ.c rfl ((QO.o rfl fun _ => o_fa 0 TI111 rfl TI9 rfl rfl ⟨rfl, rfl⟩)) ?_
    refine WQ.c rfl ((QO.o rfl fun _ => o_ld TI9 rfl rfl (cell_of h.cell rfl) ⟨rfl, rfl⟩)) ?_
    refine WQ.c rfl ((QO.o rfl fun _ => o_mvh (by first | exact (show _ = Value.pointer _ from rfl) | exact rfl) ⟨rfl, rfl⟩)) ?_
    refine WQ.c rfl ((QO.r fun _ => r_nil rfl)) ?_
    refine WQ.c rfl ((QO.o rfl fun _ => o_fa 1 TI111 rfl TI3 rfl rfl ⟨rfl, rfl⟩)) ?_
    refine WQ.c rfl ((QO.o rfl fun _ => o_ld TI3 rfl rfl (cell_of h.cell rfl) ⟨rfl, rfl⟩)) ?_
    refine WQ.c rfl ((QO.o rfl fun _ => o_idT TI9 rfl rfl (by omega) ⟨rfl, rfl⟩)) ?_
    refine WQ.nil ?_
    intro nq
    have hq := Only.drewN wq1 nq
    replace h := h.ext hq
    replace ho := ho.trans' hq (fun _ h => h) (fun _ _ h => h.elim)
    generalize World.drewN wq1 nq = wq3 at *
    clear hq
    refine W.block ?_
    refine W.seq ?_
    refine W.region ?_
    refine WL.c rfl (o_eq rfl rfl ?_)
    refine WL.c rfl (o_ash (show _ = Value.bool _ from rfl) ?_)
    refine WL.nil ?_
    refine W.cond rfl (fun c26 => ?_) (fun c26 => ?_)
    · try simp only [decide_eq_true_eq, decide_eq_false_iff_not, Bool.not_eq_true', Bool.not_eq_false', Bool.and_eq_true, Bool.or_eq_true, Bool.and_eq_false_iff, Bool.or_eq_false_iff] at c26
      have hc : T[j] = 116 := UInt8.toNat_inj.1 (show T[j].toNat = 116 by omega)
      refine W.seq ?_
      refine W.region ?_
      refine WL.c rfl (o_mvh (by first | exact (show _ = Value.pointer _ from rfl) | exact rfl) ?_)
      refine WL.c rfl (o_call Tryd.call63 (lc rfl (lc rfl (lc rfl ln))) ((vput_spec B g T (j) (nv) (zn K) (sv) (zs K) 2 1 _ h (by omega) (by omega)).mono ?_))
      rintro v29 w29 ⟨nv2, h, ho2⟩
      replace ho := ho.trans ho2
      refine WL.nil ?_
      refine W.seq ?_
      refine W.region ?_
      refine WL.c rfl (o_mvh (by first | exact (show _ = Value.pointer _ from rfl) | exact rfl) ?_)
      refine WL.c rfl (o_call Tryd.call48 (lc rfl (lc rfl ln)) ((vword_spec B g T (j) nv2 (zn K ++ [⟨2, 1, 0⟩]) sv (zs K) [116, 114, 117, 101] _ h (by omega) hT (by decide)).mono ?_))
      rintro v31 w31 ⟨rfl, h, ho2⟩
      replace ho := ho.trans (oneG ho2 h.hb)
      refine WL.c rfl (o_ash (show _ = Value.bool _ from rfl) ?_)
      refine WL.c rfl (o_ash (show _ = Value.bool _ from rfl) ?_)
      refine WL.nil ?_
      refine W.ret ?_
      refine ret2v rfl (show _ = Value.bool _ from rfl) (show _ = Value.bool _ from rfl) ?_
      exact ⟨false, _, _, _, _, _, _, rfl, h, ho, BgP.leafw hj1 hc rfl⟩
    · try simp only [decide_eq_true_eq, decide_eq_false_iff_not, Bool.not_eq_true', Bool.not_eq_false', Bool.and_eq_true, Bool.or_eq_true, Bool.and_eq_false_iff, Bool.or_eq_false_iff] at c26
      have hn26 : T[j] ≠ 116 := fun h => c26 (by rw [h]; rfl)
      refine W.seq ?_
      refine W.region ?_
      refine WL.c rfl (o_eq rfl rfl ?_)
      refine WL.c rfl (o_ash (show _ = Value.bool _ from rfl) ?_)
      refine WL.nil ?_
      refine W.cond rfl (fun c32 => ?_) (fun c32 => ?_)
      · try simp only [decide_eq_true_eq, decide_eq_false_iff_not, Bool.not_eq_true', Bool.not_eq_false', Bool.and_eq_true, Bool.or_eq_true, Bool.and_eq_false_iff, Bool.or_eq_false_iff] at c32
        have hc : T[j] = 102 := UInt8.toNat_inj.1 (show T[j].toNat = 102 by omega)
        refine W.seq ?_
        refine W.region ?_
        refine WL.c rfl (o_mvh (by first | exact (show _ = Value.pointer _ from rfl) | exact rfl) ?_)
        refine WL.c rfl (o_call Tryd.call63 (lc rfl (lc rfl (lc rfl ln))) ((vput_spec B g T (j) (nv) (zn K) (sv) (zs K) 2 0 _ h (by omega) (by omega)).mono ?_))
        rintro v35 w35 ⟨nv2, h, ho2⟩
        replace ho := ho.trans ho2
        refine WL.nil ?_
        refine W.seq ?_
        refine W.region ?_
        refine WL.c rfl (o_mvh (by first | exact (show _ = Value.pointer _ from rfl) | exact rfl) ?_)
        refine WL.c rfl (o_call Tryd.call48 (lc rfl (lc rfl ln)) ((vword_spec B g T (j) nv2 (zn K ++ [⟨2, 0, 0⟩]) sv (zs K) [102, 97, 108, 115, 101] _ h (by omega) hT (by decide)).mono ?_))
        rintro v37 w37 ⟨rfl, h, ho2⟩
        replace ho := ho.trans (oneG ho2 h.hb)
        refine WL.c rfl (o_ash (show _ = Value.bool _ from rfl) ?_)
        refine WL.c rfl (o_ash (show _ = Value.bool _ from rfl) ?_)
        refine WL.nil ?_
        refine W.ret ?_
        refine ret2v rfl (show _ = Value.bool _ from rfl) (show _ = Value.bool _ from rfl) ?_
        exact ⟨false, _, _, _, _, _, _, rfl, h, ho, BgP.leafw hj1 hc rfl⟩
      · try simp only [decide_eq_true_eq, decide_eq_false_iff_not, Bool.not_eq_true', Bool.not_eq_false', Bool.and_eq_true, Bool.or_eq_true, Bool.and_eq_false_iff, Bool.or_eq_false_iff] at c32
        have hn32 : T[j] ≠ 102 := fun h => c32 (by rw [h]; rfl)
        refine W.seq ?_
        refine W.region ?_
        refine WL.c rfl (o_eq rfl rfl ?_)
        refine WL.c rfl (o_ash (show _ = Value.bool _ from rfl) ?_)
        refine WL.nil ?_
        refine W.cond rfl (fun c38 => ?_) (fun c38 => ?_)
        · try simp only [decide_eq_true_eq, decide_eq_false_iff_not, Bool.not_eq_true', Bool.not_eq_false', Bool.and_eq_true, Bool.or_eq_true, Bool.and_eq_false_iff, Bool.or_eq_false_iff] at c38
          have hc : T[j] = 110 := UInt8.toNat_inj.1 (show T[j].toNat = 110 by omega)
          refine W.seq ?_
          refine W.region ?_
          refine WL.c rfl (o_mvh (by first | exact (show _ = Value.pointer _ from rfl) | exact rfl) ?_)
          refine WL.c rfl (o_call Tryd.call63 (lc rfl (lc rfl (lc rfl ln))) ((vput_spec B g T (j) (nv) (zn K) (sv) (zs K) 5 0 _ h (by omega) (by omega)).mono ?_))
          rintro v41 w41 ⟨nv2, h, ho2⟩
          replace ho := ho.trans ho2
          refine WL.nil ?_
          refine W.seq ?_
          refine W.region ?_
          refine WL.c rfl (o_mvh (by first | exact (show _ = Value.pointer _ from rfl) | exact rfl) ?_)
          refine WL.c rfl (o_call Tryd.call48 (lc rfl (lc rfl ln)) ((vword_spec B g T (j) nv2 (zn K ++ [⟨5, 0, 0⟩]) sv (zs K) [110, 111, 110, 101] _ h (by omega) hT (by decide)).mono ?_))
          rintro v43 w43 ⟨rfl, h, ho2⟩
          replace ho := ho.trans (oneG ho2 h.hb)
          refine WL.c rfl (o_ash (show _ = Value.bool _ from rfl) ?_)
          refine WL.c rfl (o_ash (show _ = Value.bool _ from rfl) ?_)
          refine WL.nil ?_
          refine W.ret ?_
          refine ret2v rfl (show _ = Value.bool _ from rfl) (show _ = Value.bool _ from rfl) ?_
          exact ⟨false, _, _, _, _, _, _, rfl, h, ho, BgP.leafw hj1 hc rfl⟩
        · try simp only [decide_eq_true_eq, decide_eq_false_iff_not, Bool.not_eq_true', Bool.not_eq_false', Bool.and_eq_true, Bool.or_eq_true, Bool.and_eq_false_iff, Bool.or_eq_false_iff] at c38
          have hn38 : T[j] ≠ 110 := fun h => c38 (by rw [h]; rfl)
          refine W.seq ?_
          refine W.region ?_
          refine WL.c rfl (o_eq rfl rfl ?_)
          refine WL.c rfl (o_ash (show _ = Value.bool _ from rfl) ?_)
          refine WL.nil ?_
          refine W.cond rfl (fun c44 => ?_) (fun c44 => ?_)
          · try simp only [decide_eq_true_eq, decide_eq_false_iff_not, Bool.not_eq_true', Bool.not_eq_false', Bool.and_eq_true, Bool.or_eq_true, Bool.and_eq_false_iff, Bool.or_eq_false_iff] at c44
            have hc : T[j] = 115 := UInt8.toNat_inj.1 (show T[j].toNat = 115 by omega)
            refine W.seq ?_
            refine W.region ?_
            refine WL.c rfl (o_mvh (by first | exact (show _ = Value.pointer _ from rfl) | exact rfl) ?_)
            refine WL.c rfl (o_call Tryd.call64 (lc rfl (lc rfl (lc rfl ln))) ((vdown_spec B g T (j) nv (zn K) sv (zs K) 5 0 _ h (by omega) (by omega)).mono ?_))
            rintro v47 w47 ⟨nv2, sv2, h, ho2⟩
            replace ho := ho.trans ho2
            refine WL.nil ?_
            refine W.seq ?_
            refine W.region ?_
            refine WL.c rfl (o_mvh (by first | exact (show _ = Value.pointer _ from rfl) | exact rfl) ?_)
            refine WL.c rfl (o_call Tryd.call48 (lc rfl (lc rfl ln)) ((vword_spec B g T (j) nv2 (zn K ++ [⟨5, 0, 1⟩]) sv2 (zs K ++ [(zn K).length]) [115, 111, 109, 101, 32] _ h (by omega) hT (by decide)).mono ?_))
            rintro v49 w49 ⟨rfl, h, ho2⟩
            replace ho := ho.trans (oneG ho2 h.hb)
            refine WL.c rfl (o_ash (show _ = Value.bool _ from rfl) ?_)
            refine WL.c rfl (o_ash (show _ = Value.bool _ from rfl) ?_)
            refine WL.nil ?_
            refine W.ret ?_
            refine ret2v rfl (show _ = Value.bool _ from rfl) (show _ = Value.bool _ from rfl) ?_
            exact ⟨true, _, _, _, _, _, _, rfl, h, ho, BgP.som hj1 hc⟩
          · try simp only [decide_eq_true_eq, decide_eq_false_iff_not, Bool.not_eq_true', Bool.not_eq_false', Bool.and_eq_true, Bool.or_eq_true, Bool.and_eq_false_iff, Bool.or_eq_false_iff] at c44
            have hn44 : T[j] ≠ 115 := fun h => c44 (by rw [h]; rfl)
            refine W.seq ?_
            refine W.region ?_
            refine WL.c rfl (o_eq rfl rfl ?_)
            refine WL.c rfl (o_ash (show _ = Value.bool _ from rfl) ?_)
            refine WL.nil ?_
            refine W.cond rfl (fun c50 => ?_) (fun c50 => ?_)
            · try simp only [decide_eq_true_eq, decide_eq_false_iff_not, Bool.not_eq_true', Bool.not_eq_false', Bool.and_eq_true, Bool.or_eq_true, Bool.and_eq_false_iff, Bool.or_eq_false_iff] at c50
              have hc : T[j] = 91 := UInt8.toNat_inj.1 (show T[j].toNat = 91 by omega)
              refine W.seq ?_
              refine W.region ?_
              refine WL.c rfl (o_mvh (by first | exact (show _ = Value.pointer _ from rfl) | exact rfl) ?_)
              refine WL.c rfl (o_nil rfl ?_)
              refine WL.c rfl (o_fa 1 TI111 rfl TI3 rfl rfl ?_)
              refine WL.c rfl (o_ld TI3 rfl rfl (cell_of h.cell rfl) ?_)
              refine WL.c rfl (o_addi rfl rfl (by omega) ?_)
              refine WL.c rfl (o_nil rfl ?_)
              refine WL.c rfl (o_fa 1 TI111 rfl TI3 rfl rfl ?_)
              refine WL.u (o_stB TI3 rfl (show _ = Value.int _ _ from rfl) rfl h.cell (show 1 < 4 by decide) ?_)
              intro w58 hB58 ho58 hs58
              replace h := h.move (j2 := j + 1) hB58 ho58
              replace ho := ho.trans (oneG ho58 h.hb)
              clear hB58 ho58 hs58
              refine WL.nil ?_
              refine W.seq ?_
              refine W.seq ?_
              by_cases hx1 : j + 1 < T.length
              · skip
                skip
                refine W.quiet rfl (by kernel_rfl) ?_
                refine WQ.c rfl ((QO.o rfl fun _ => o_mvh (by first | exact (show _ = Value.pointer _ from rfl) | exact rfl) ⟨rfl, rfl⟩)) ?_
                refine WQ.c rfl ((QO.r fun _ => r_nil rfl)) ?_
                refine WQ.c rfl ((QO.o rfl fun _ => o_fa 1 TI111 rfl TI3 rfl rfl ⟨rfl, rfl⟩)) ?_
                refine WQ.c rfl ((QO.o rfl fun _ => o_ld TI3 rfl rfl (cell_of h.cell rfl) ⟨rfl, rfl⟩)) ?_
                refine WQ.c rfl ((QO.o rfl fun _ => o_mvh (by first | exact (show _ = Value.pointer _ from rfl) | exact rfl) ⟨rfl, rfl⟩)) ?_
                refine WQ.c rfl ((QO.r fun _ => r_nil rfl)) ?_
                refine WQ.c rfl ((QO.o rfl fun _ => o_fa 0 TI111 rfl TI9 rfl rfl ⟨rfl, rfl⟩)) ?_
                refine WQ.c rfl ((QO.o rfl fun _ => o_ld TI9 rfl rfl (cell_of h.cell rfl) ⟨rfl, rfl⟩)) ?_
                refine WQ.c rfl ((QO.r fun _ => r_lenT TI9 rfl)) ?_
                refine WQ.c rfl ((QO.o rfl fun _ => o_lt rfl rfl ⟨rfl, rfl⟩)) ?_
                refine WQ.c rfl ((QO.o rfl fun _ => o_mvh (show _ = Value.bool _ from rfl) ⟨rfl, rfl⟩)) ?_
                refine WQ.g rfl (by simp; omega) rfl ((QO.o rfl fun _ => o_mvh (by first | exact (show _ = Value.pointer _ from rfl) | exact rfl) ⟨rfl, rfl⟩)) ?_
                refine WQ.g rfl (by simp; omega) rfl ((QO.r fun _ => r_nil rfl)) ?_
                refine WQ.g rfl (by simp; omega) rfl ((QO.o rfl fun _ => o_fa 0 TI111 rfl TI9 rfl rfl ⟨rfl, rfl⟩)) ?_
                refine WQ.g rfl (by simp; omega) rfl ((QO.o rfl fun _ => o_ld TI9 rfl rfl (cell_of h.cell rfl) ⟨rfl, rfl⟩)) ?_
                refine WQ.g rfl (by simp; omega) rfl ((QO.o rfl fun _ => o_mvh (by first | exact (show _ = Value.pointer _ from rfl) | exact rfl) ⟨rfl, rfl⟩)) ?_
                refine WQ.g rfl (by simp; omega) rfl ((QO.r fun _ => r_nil rfl)) ?_
                refine WQ.g rfl (by simp; omega) rfl ((QO.o rfl fun _ => o_fa 1 TI111 rfl TI3 rfl rfl ⟨rfl, rfl⟩)) ?_
                refine WQ.g rfl (by simp; omega) rfl ((QO.o rfl fun _ => o_ld TI3 rfl rfl (cell_of h.cell rfl) ⟨rfl, rfl⟩)) ?_
                refine WQ.g rfl (by simp; omega) rfl ((QO.o rfl fun _ => o_idT TI9 rfl rfl (by omega) ⟨rfl, rfl⟩)) ?_
                refine WQ.g rfl (by simp; omega) rfl ((QO.o rfl fun _ => o_eq rfl rfl ⟨rfl, rfl⟩)) ?_
                refine WQ.c rfl ((QO.r fun _ => r_pickA rfl rfl)) ?_
                refine WQ.nil ?_
                intro nq
                have hq := Only.drewN w58 nq
                replace h := h.ext hq
                replace ho := ho.trans' hq (fun _ h => h) (fun _ _ h => h.elim)
                generalize World.drewN w58 nq = wq18 at *
                clear hq
                refine W.cond rfl (fun c80 => ?_) (fun c80 => ?_)
                · try simp only [decide_eq_true_eq, decide_eq_false_iff_not, Bool.not_eq_true', Bool.not_eq_false', Bool.and_eq_true, Bool.or_eq_true, Bool.and_eq_false_iff, Bool.or_eq_false_iff] at c80
                  have hc2 : T[j + 1] = 93 := UInt8.toNat_inj.1 (show T[j + 1].toNat = 93 by omega)
                  refine W.seq ?_
                  refine W.region ?_
                  refine WL.c rfl (o_mvh (by first | exact (show _ = Value.pointer _ from rfl) | exact rfl) ?_)
                  refine WL.c rfl (o_nil rfl ?_)
                  refine WL.c rfl (o_fa 1 TI111 rfl TI3 rfl rfl ?_)
                  refine WL.c rfl (o_ld TI3 rfl rfl (cell_of h.cell rfl) ?_)
                  refine WL.c rfl (o_addi rfl rfl (by omega) ?_)
                  refine WL.c rfl (o_nil rfl ?_)
                  refine WL.c rfl (o_fa 1 TI111 rfl TI3 rfl rfl ?_)
                  refine WL.u (o_stB TI3 rfl (show _ = Value.int _ _ from rfl) rfl h.cell (show 1 < 4 by decide) ?_)
                  intro w87 hB87 ho87 hs87
                  replace h := h.move (j2 := j + 1 + 1) hB87 ho87
                  replace ho := ho.trans (oneG ho87 h.hb)
                  clear hB87 ho87 hs87
                  refine WL.nil ?_
                  refine W.seq ?_
                  refine W.region ?_
                  refine WL.c rfl (o_mvh (by first | exact (show _ = Value.pointer _ from rfl) | exact rfl) ?_)
                  refine WL.c rfl (o_call Tryd.call63 (lc rfl (lc rfl (lc rfl ln))) ((vput_spec B g T (j + 1 + 1) (nv) (zn K) (sv) (zs K) 3 0 _ h (by omega) (by omega)).mono ?_))
                  rintro v89 w89 ⟨nv2, h, ho2⟩
                  replace ho := ho.trans ho2
                  refine WL.nil ?_
                  refine W.seq ?_
                  refine W.region ?_
                  refine WL.c rfl (o_ash (show _ = Value.bool _ from rfl) ?_)
                  refine WL.c rfl (o_ash (show _ = Value.bool _ from rfl) ?_)
                  refine WL.nil ?_
                  refine W.ret ?_
                  refine ret2v rfl (show _ = Value.bool _ from rfl) (show _ = Value.bool _ from rfl) ?_
                  exact ⟨false, _, _, _, _, _, _, rfl, h, ho, BgP.seq0 hj1 hc hx1 hc2⟩
                · try simp only [decide_eq_true_eq, decide_eq_false_iff_not, Bool.not_eq_true', Bool.not_eq_false', Bool.and_eq_true, Bool.or_eq_true, Bool.and_eq_false_iff, Bool.or_eq_false_iff] at c80
                  have hne : T[j + 1] ≠ 93 := fun h => by rw [h] at c80; have e : (93 : UInt8).toNat = 93 := rfl; omega
                  refine W.skip ?_
                  refine W.seq ?_
                  refine W.region ?_
                  refine WL.c rfl (o_mvh (by first | exact (show _ = Value.pointer _ from rfl) | exact rfl) ?_)
                  refine WL.c rfl (o_call Tryd.call64 (lc rfl (lc rfl (lc rfl ln))) ((vdown_spec B g T (j + 1) nv (zn K) sv (zs K) 3 0 _ h (by omega) (by omega)).mono ?_))
                  rintro v91 w91 ⟨nv2, sv2, h, ho2⟩
                  replace ho := ho.trans ho2
                  refine WL.nil ?_
                  refine W.seq ?_
                  refine W.region ?_
                  refine WL.c rfl (o_ash (show _ = Value.bool _ from rfl) ?_)
                  refine WL.c rfl (o_ash (show _ = Value.bool _ from rfl) ?_)
                  refine WL.nil ?_
                  refine W.ret ?_
                  refine ret2v rfl (show _ = Value.bool _ from rfl) (show _ = Value.bool _ from rfl) ?_
                  exact ⟨true, _, _, _, _, _, _, rfl, h, ho, BgP.seq hj1 hc (fun _ => hne)⟩
              · skip
                skip
                refine W.quiet rfl (by kernel_rfl) ?_
                refine WQ.c rfl ((QO.o rfl fun _ => o_mvh (by first | exact (show _ = Value.pointer _ from rfl) | exact rfl) ⟨rfl, rfl⟩)) ?_
                refine WQ.c rfl ((QO.r fun _ => r_nil rfl)) ?_
                refine WQ.c rfl ((QO.o rfl fun _ => o_fa 1 TI111 rfl TI3 rfl rfl ⟨rfl, rfl⟩)) ?_
                refine WQ.c rfl ((QO.o rfl fun _ => o_ld TI3 rfl rfl (cell_of h.cell rfl) ⟨rfl, rfl⟩)) ?_
                refine WQ.c rfl ((QO.o rfl fun _ => o_mvh (by first | exact (show _ = Value.pointer _ from rfl) | exact rfl) ⟨rfl, rfl⟩)) ?_
                refine WQ.c rfl ((QO.r fun _ => r_nil rfl)) ?_
                refine WQ.c rfl ((QO.o rfl fun _ => o_fa 0 TI111 rfl TI9 rfl rfl ⟨rfl, rfl⟩)) ?_
                refine WQ.c rfl ((QO.o rfl fun _ => o_ld TI9 rfl rfl (cell_of h.cell rfl) ⟨rfl, rfl⟩)) ?_
                refine WQ.c rfl ((QO.r fun _ => r_lenT TI9 rfl)) ?_
                refine WQ.c rfl ((QO.o rfl fun _ => o_lt rfl rfl ⟨rfl, rfl⟩)) ?_
                refine WQ.c rfl ((QO.o rfl fun _ => o_mvh (show _ = Value.bool _ from rfl) ⟨rfl, rfl⟩)) ?_
                refine WQ.s rfl (by simp; omega) rfl ?_
                refine WQ.s rfl (by simp; omega) rfl ?_
                refine WQ.s rfl (by simp; omega) rfl ?_
                refine WQ.s rfl (by simp; omega) rfl ?_
                refine WQ.s rfl (by simp; omega) rfl ?_
                refine WQ.s rfl (by simp; omega) rfl ?_
                refine WQ.s rfl (by simp; omega) rfl ?_
                refine WQ.s rfl (by simp; omega) rfl ?_
                refine WQ.s rfl (by simp; omega) rfl ?_
                refine WQ.s rfl (by simp; omega) rfl ?_
                refine WQ.c rfl ((QO.r fun _ => r_pickF rfl (by simp; omega))) ?_
                refine WQ.nil ?_
                intro nq
                have hq := Only.drewN w58 nq
                replace h := h.ext hq
                replace ho := ho.trans' hq (fun _ h => h) (fun _ _ h => h.elim)
                generalize World.drewN w58 nq = wq18 at *
                clear hq
                refine W.condF' rfl (rfl) ?_
                refine W.skip ?_
                refine W.seq ?_
                refine W.region ?_
                refine WL.c rfl (o_mvh (by first | exact (show _ = Value.pointer _ from rfl) | exact rfl) ?_)
                refine WL.c rfl (o_call Tryd.call64 (lc rfl (lc rfl (lc rfl ln))) ((vdown_spec B g T (j + 1) nv (zn K) sv (zs K) 3 0 _ h (by omega) (by omega)).mono ?_))
                rintro v91 w91 ⟨nv2, sv2, h, ho2⟩
                replace ho := ho.trans ho2
                refine WL.nil ?_
                refine W.seq ?_
                refine W.region ?_
                refine WL.c rfl (o_ash (show _ = Value.bool _ from rfl) ?_)
                refine WL.c rfl (o_ash (show _ = Value.bool _ from rfl) ?_)
                refine WL.nil ?_
                refine W.ret ?_
                refine ret2v rfl (show _ = Value.bool _ from rfl) (show _ = Value.bool _ from rfl) ?_
                exact ⟨true, _, _, _, _, _, _, rfl, h, ho, BgP.seq hj1 hc (fun h => absurd h hx1)⟩
            · try simp only [decide_eq_true_eq, decide_eq_false_iff_not, Bool.not_eq_true', Bool.not_eq_false', Bool.and_eq_true, Bool.or_eq_true, Bool.and_eq_false_iff, Bool.or_eq_false_iff] at c50
              have hn50 : T[j] ≠ 91 := fun h => c50 (by rw [h]; rfl)
              refine W.seq ?_
              refine W.region ?_
              refine WL.c rfl (o_eq rfl rfl ?_)
              refine WL.c rfl (o_ash (show _ = Value.bool _ from rfl) ?_)
              refine WL.nil ?_
              refine W.cond rfl (fun c92 => ?_) (fun c92 => ?_)
              · try simp only [decide_eq_true_eq, decide_eq_false_iff_not, Bool.not_eq_true', Bool.not_eq_false', Bool.and_eq_true, Bool.or_eq_true, Bool.and_eq_false_iff, Bool.or_eq_false_iff] at c92
                have hc : T[j] = 123 := UInt8.toNat_inj.1 (show T[j].toNat = 123 by omega)
                refine W.seq ?_
                refine W.region ?_
                refine WL.c rfl (o_mvh (by first | exact (show _ = Value.pointer _ from rfl) | exact rfl) ?_)
                refine WL.c rfl (o_nil rfl ?_)
                refine WL.c rfl (o_fa 1 TI111 rfl TI3 rfl rfl ?_)
                refine WL.c rfl (o_ld TI3 rfl rfl (cell_of h.cell rfl) ?_)
                refine WL.c rfl (o_addi rfl rfl (by omega) ?_)
                refine WL.c rfl (o_nil rfl ?_)
                refine WL.c rfl (o_fa 1 TI111 rfl TI3 rfl rfl ?_)
                refine WL.u (o_stB TI3 rfl (show _ = Value.int _ _ from rfl) rfl h.cell (show 1 < 4 by decide) ?_)
                intro w100 hB100 ho100 hs100
                replace h := h.move (j2 := j + 1) hB100 ho100
                replace ho := ho.trans (oneG ho100 h.hb)
                clear hB100 ho100 hs100
                refine WL.nil ?_
                refine W.seq ?_
                refine W.region ?_
                refine WL.c rfl (o_mvh (by first | exact (show _ = Value.pointer _ from rfl) | exact rfl) ?_)
                refine WL.c rfl (o_call Tryd.call64 (lc rfl (lc rfl (lc rfl ln))) ((vdown_spec B g T (j + 1) nv (zn K) sv (zs K) 4 0 _ h (by omega) (by omega)).mono ?_))
                rintro v102 w102 ⟨nv2, sv2, h, ho2⟩
                replace ho := ho.trans ho2
                refine WL.nil ?_
                refine W.seq ?_
                refine W.region ?_
                refine WL.c rfl (o_ash (show _ = Value.bool _ from rfl) ?_)
                refine WL.c rfl (o_ash (show _ = Value.bool _ from rfl) ?_)
                refine WL.nil ?_
                refine W.ret ?_
                refine ret2v rfl (show _ = Value.bool _ from rfl) (show _ = Value.bool _ from rfl) ?_
                exact ⟨true, _, _, _, _, _, _, rfl, h, ho, BgP.struct hj1 hc⟩
              · try simp only [decide_eq_true_eq, decide_eq_false_iff_not, Bool.not_eq_true', Bool.not_eq_false', Bool.and_eq_true, Bool.or_eq_true, Bool.and_eq_false_iff, Bool.or_eq_false_iff] at c92
                have hn92 : T[j] ≠ 123 := fun h => c92 (by rw [h]; rfl)
                refine W.seq ?_
                refine W.region ?_
                refine WL.c rfl (o_eq rfl rfl ?_)
                refine WL.c rfl (o_ash (show _ = Value.bool _ from rfl) ?_)
                refine WL.nil ?_
                refine W.cond rfl (fun c103 => ?_) (fun c103 => ?_)
                · try simp only [decide_eq_true_eq, decide_eq_false_iff_not, Bool.not_eq_true', Bool.not_eq_false', Bool.and_eq_true, Bool.or_eq_true, Bool.and_eq_false_iff, Bool.or_eq_false_iff] at c103
                  have hc : T[j] = 60 := UInt8.toNat_inj.1 (show T[j].toNat = 60 by omega)
                  refine W.seq ?_
                  refine W.region ?_
                  refine WL.c rfl (o_mvh (by first | exact (show _ = Value.pointer _ from rfl) | exact rfl) ?_)
                  refine WL.c rfl (o_nil rfl ?_)
                  refine WL.c rfl (o_fa 1 TI111 rfl TI3 rfl rfl ?_)
                  refine WL.c rfl (o_ld TI3 rfl rfl (cell_of h.cell rfl) ?_)
                  refine WL.c rfl (o_addi rfl rfl (by omega) ?_)
                  refine WL.c rfl (o_nil rfl ?_)
                  refine WL.c rfl (o_fa 1 TI111 rfl TI3 rfl rfl ?_)
                  refine WL.u (o_stB TI3 rfl (show _ = Value.int _ _ from rfl) rfl h.cell (show 1 < 4 by decide) ?_)
                  intro w111 hB111 ho111 hs111
                  replace h := h.move (j2 := j + 1) hB111 ho111
                  replace ho := ho.trans (oneG ho111 h.hb)
                  clear hB111 ho111 hs111
                  refine WL.nil ?_
                  refine W.seq ?_
                  refine W.region ?_
                  refine WL.c rfl (o_mvh (by first | exact (show _ = Value.pointer _ from rfl) | exact rfl) ?_)
                  refine WL.c rfl (o_call Tryd.call65 (lc rfl (lc rfl ln)) ((vnumber_spec B g T (j + 1) nv (zn K) sv (zs K) 255 _ h (by omega) hT (by decide) (by decide)).mono ?_))
                  rintro v114 w114 ⟨rfl, h, ho2⟩
                  replace ho := ho.trans (oneG ho2 h.hb)
                  refine WL.c rfl (o_mvh (by first | exact (show _ = Value.tuple _ from rfl) | exact rfl) ?_)
                  refine WL.c rfl (o_ext rfl rfl ?_)
                  refine WL.c rfl (o_ext rfl rfl ?_)
                  refine WL.c rfl (o_ash (show _ = Value.int _ _ from rfl) ?_)
                  refine WL.c rfl (o_ash (show _ = Value.bool _ from rfl) ?_)
                  refine WL.nil ?_
                  refine W.seq ?_
                  refine W.region ?_
                  refine WL.c rfl (o_mvh (by first | exact (show _ = Value.pointer _ from rfl) | exact rfl) ?_)
                  refine WL.c rfl (o_mvh (show _ = Value.int _ _ from rfl) ?_)
                  refine WL.c rfl (o_call Tryd.call64 (lc rfl (lc rfl (lc rfl ln))) ((vdown_spec B g T (j + 1 + (numL 255 0 0 (T.drop (j + 1))).2.2) nv (zn K) sv (zs K) 6 (numL 255 0 0 (T.drop (j + 1))).1 _ h (by omega) (by omega)).mono ?_))
                  rintro v119 w119 ⟨nv2, sv2, h, ho2⟩
                  replace ho := ho.trans ho2
                  refine WL.nil ?_
                  refine W.seq ?_
                  rcases Bool.eq_false_or_eq_true (numL 255 0 0 (T.drop (j + 1))).2.1 with hr | hr
                  · skip
                    have hle := (numL_le 255 (T.drop (j + 1)) 0 0).2
                    rw [List.length_drop] at hle
                    refine W.region ?_
                    refine WL.c rfl (o_mvh (show _ = Value.bool _ from rfl) ?_)
                    refine WL.c rfl (o_mvh (show _ = Value.bool _ from rfl) ?_)
                    refine WL.g rfl (hr) rfl (o_mvh (by first | exact (show _ = Value.pointer _ from rfl) | exact rfl) ?_)
                    refine WL.g rfl (hr) rfl (o_call Tryd.call48 (lc rfl (lc rfl ln)) ((vword_spec B g T (j + 1 + (numL 255 0 0 (T.drop (j + 1))).2.2) nv2 (zn K ++ [⟨6, (numL 255 0 0 (T.drop (j + 1))).1, 1⟩]) sv2 (zs K ++ [(zn K).length]) [58] _ h (by omega) hT (by decide)).mono ?_))
                    rintro v123 w123 ⟨rfl, h, ho2⟩
                    replace ho := ho.trans (oneG ho2 h.hb)
                    refine WL.c rfl (o_pickA rfl rfl ?_)
                    refine WL.c rfl (o_ash (show _ = Value.bool _ from rfl) ?_)
                    refine WL.c rfl (o_ash (show _ = Value.bool _ from rfl) ?_)
                    refine WL.nil ?_
                    refine W.ret ?_
                    refine ret2v rfl (show _ = Value.bool _ from rfl) (show _ = Value.bool _ from rfl) ?_
                    exact ⟨true, _, _, _, _, _, _, rfl, h, ho, BgP.tag hj1 hc (fun h => by rw [hr] at h; cases h) (fun _ => ⟨by rw [hr, Bool.true_and], rfl⟩)⟩
                  · skip
                    have hle := (numL_le 255 (T.drop (j + 1)) 0 0).2
                    rw [List.length_drop] at hle
                    refine W.region ?_
                    refine WL.c rfl (o_mvh (show _ = Value.bool _ from rfl) ?_)
                    refine WL.c rfl (o_mvh (show _ = Value.bool _ from rfl) ?_)
                    refine WL.s rfl (hr) rfl ?_
                    refine WL.s rfl (hr) rfl ?_
                    refine WL.c rfl (o_pickF rfl (hr) ?_)
                    refine WL.c rfl (o_ash (show _ = Value.bool _ from rfl) ?_)
                    refine WL.c rfl (o_ash (show _ = Value.bool _ from rfl) ?_)
                    refine WL.nil ?_
                    refine W.ret ?_
                    refine ret2v rfl (show _ = Value.bool _ from rfl) (show _ = Value.bool _ from rfl) ?_
                    exact ⟨true, _, _, _, _, _, _, rfl, h, ho, BgP.tag hj1 hc (fun h => ⟨rfl, rfl⟩) (fun h => by rw [hr] at h; cases h)⟩
                · try simp only [decide_eq_true_eq, decide_eq_false_iff_not, Bool.not_eq_true', Bool.not_eq_false', Bool.and_eq_true, Bool.or_eq_true, Bool.and_eq_false_iff, Bool.or_eq_false_iff] at c103
                  have hn103 : T[j] ≠ 60 := fun h => c103 (by rw [h]; rfl)
                  refine W.skip ?_
                  refine W.seq ?_
                  refine W.region ?_
                  refine WL.c rfl (o_mvh (by first | exact (show _ = Value.pointer _ from rfl) | exact rfl) ?_)
                  refine WL.c rfl (o_call Tryd.call65 (lc rfl (lc rfl ln)) ((vnumber_spec B g T j nv (zn K) sv (zs K) 18446744073709551615 _ h (by omega) hT (by decide) (by decide)).mono ?_))
                  rintro v127 w127 ⟨rfl, h, ho2⟩
                  replace ho := ho.trans (oneG ho2 h.hb)
                  refine WL.c rfl (o_mvh (by first | exact (show _ = Value.tuple _ from rfl) | exact rfl) ?_)
                  refine WL.c rfl (o_ext rfl rfl ?_)
                  refine WL.c rfl (o_ext rfl rfl ?_)
                  refine WL.c rfl (o_ash (show _ = Value.int _ _ from rfl) ?_)
                  refine WL.c rfl (o_ash (show _ = Value.bool _ from rfl) ?_)
                  refine WL.nil ?_
                  refine W.seq ?_
                  refine W.region ?_
                  refine WL.c rfl (o_mvh (by first | exact (show _ = Value.pointer _ from rfl) | exact rfl) ?_)
                  refine WL.c rfl (o_mvh (show _ = Value.int _ _ from rfl) ?_)
                  refine WL.c rfl (o_call Tryd.call63 (lc rfl (lc rfl (lc rfl ln))) ((vput_spec B g T (j + (numL 18446744073709551615 0 0 (T.drop j)).2.2) (nv) (zn K) (sv) (zs K) 1 (numL 18446744073709551615 0 0 (T.drop j)).1 _ h (by omega) (by omega)).mono ?_))
                  rintro v132 w132 ⟨nv2, h, ho2⟩
                  replace ho := ho.trans ho2
                  refine WL.nil ?_
                  refine W.seq ?_
                  refine W.region ?_
                  refine WL.c rfl (o_mvh (show _ = Value.bool _ from rfl) ?_)
                  refine WL.c rfl (o_ash (show _ = Value.bool _ from rfl) ?_)
                  refine WL.c rfl (o_ash (show _ = Value.bool _ from rfl) ?_)
                  refine WL.nil ?_
                  refine W.ret ?_
                  refine ret2v rfl (show _ = Value.bool _ from rfl) (show _ = Value.bool _ from rfl) ?_
                  exact ⟨false, _, _, _, _, _, _, rfl, h, ho, BgP.num hj1 ⟨hn26, hn32, hn38, hn44, hn50, hn92, hn103⟩⟩
end Go.Proofs.YtgmjfcekeglhjaaDoor

set_option linter.unusedSimpArgs false
set_option linter.unusedVariables false
set_option maxRecDepth 100000
namespace Go.Proofs.YtgmjfcekeglhjaaDoor
open Go Go.Vc Go.RowKit Go.Proofs

def zk (K : List Zf) : Prop := ∀ f ∈ K, f.kind = 3 ∨ f.kind = 4 ∨ f.kind = 5 ∨ f.kind = 6
def comB (f : Zf) (T : List UInt8) (j : Nat) : Bool := (decide (f.kind = 3) || decide (f.kind = 4)) && decide (T[j]? = some 44) && decide ((f.done.len : Int) + 1 < mostK f.kind)
theorem zs_len : ∀ K : List Zf, (zs K).length ≤ (zn K).length
  | [] => Nat.le_refl _
  | f :: K => by
    have := zs_len K
    simp only [zs, zn, List.length_append, List.length_cons, List.length_nil]
    omega
theorem zn_com (f : Zf) (K : List Zf) (t : Vt) : zn ({ f with done := f.done.snoc t } :: K) = zn K ++ (⟨f.kind, f.n, (f.done.len : Int) + 1 + 1⟩ :: (f.done.flat ++ t.flat)) := by
  rw [zn]
  simp only [snoc_len, snoc_flat]
  rfl
theorem aft_nil (t : Vt) (T : List UInt8) (j : Nat) (hj : j ≤ T.length) : prsZ (.aft t) [] (T.drop j) j = if j = T.length then (some t, 0) else (none, j) := by
  by_cases h : j = T.length
  · rw [if_pos h, h, List.drop_length]; rfl
  · rw [if_neg h, at_cons (show j < T.length by omega) rfl, prs_none (show stepZ (.aft t) [] _ = none by rw [stepZ, aftS])]
theorem word1 (c : UInt8) (l : List UInt8) : ((wordC [c] l).2 = false → (wordC [c] l).1 = 0) ∧ ((wordC [c] l).2 = true → (wordC [c] l).1 = 1) := by
  cases l with
  | nil => exact ⟨fun _ => rfl, fun h => by cases h⟩
  | cons b l =>
    by_cases h : b = c
    · rw [wordC, if_pos h]; exact ⟨fun h => (by cases h), fun _ => rfl⟩
    · rw [wordC, if_neg h]; exact ⟨fun _ => rfl, fun h => by cases h⟩
theorem com_lt {f : Zf} {T : List UInt8} {j : Nat} (h : comB f T j = true) : ∃ hj : j < T.length, T[j] = 44 ∧ (f.kind = 3 ∨ f.kind = 4) ∧ (f.done.len : Int) + 1 < mostK f.kind := by
  simp only [comB, Bool.and_eq_true, Bool.or_eq_true, decide_eq_true_eq] at h
  obtain ⟨⟨h1, h2⟩, h3⟩ := h
  obtain ⟨hj, h4⟩ := List.getElem?_eq_some_iff.1 h2
  exact ⟨hj, h4, h1, h3⟩
theorem com_of {f : Zf} {T : List UInt8} {j : Nat} (hj : j < T.length) (h : (f.kind = 3 ∨ f.kind = 4) ∧ T[j] = 44 ∧ (f.done.len : Int) + 1 < mostK f.kind) : comB f T j = true := by
  simp only [comB, Bool.and_eq_true, Bool.or_eq_true, decide_eq_true_eq]
  exact ⟨⟨h.1, by rw [List.getElem?_eq_getElem hj, h.2.1]⟩, h.2.2⟩
theorem aft_comma {f : Zf} {K : List Zf} {t : Vt} {T : List UInt8} {j : Nat} (h : comB f T j = true) :
    ((wordC [32] (T.drop (j + 1))).2 = false → prsZ (.aft t) (f :: K) (T.drop j) j = (none, j + 1 + (wordC [32] (T.drop (j + 1))).1)) ∧
    ((wordC [32] (T.drop (j + 1))).2 = true → prsZ (.aft t) (f :: K) (T.drop j) j = prsZ .bgn ({ f with done := f.done.snoc t } :: K) (T.drop (j + 1 + (wordC [32] (T.drop (j + 1))).1)) (j + 1 + (wordC [32] (T.drop (j + 1))).1)) := by
  obtain ⟨hj, hc, hk, hm⟩ := com_lt h
  rw [at_cons hj hc, prs_step (m' := .word 32 [] none) (K' := { f with done := f.done.snoc t } :: K) (by rw [stepZ, aftS, if_pos ⟨hk, rfl, hm⟩]), word_run]
  have hw := word1 32 (T.drop (j + 1))
  refine ⟨fun h => by rw [if_neg (by rw [h]; exact Bool.false_ne_true)], fun h => ?_⟩
  rw [if_pos h, hw.2 h, List.drop_drop]
  rfl
theorem shutT_cases (k : Int) : shutT k = [] ∨ ∃ s, shutT k = [s] := by
  unfold shutT
  split; · exact .inr ⟨_, rfl⟩
  split; · exact .inr ⟨_, rfl⟩
  split; · exact .inr ⟨_, rfl⟩
  exact .inl rfl
theorem aft_pop {f : Zf} {K : List Zf} {t : Vt} {T : List UInt8} {j : Nat} (hj : j ≤ T.length) (h : comB f T j = false) :
    ((wordC (shutT f.kind) (T.drop j)).2 = false → prsZ (.aft t) (f :: K) (T.drop j) j = (none, j + (wordC (shutT f.kind) (T.drop j)).1)) ∧
    ((wordC (shutT f.kind) (T.drop j)).2 = true → prsZ (.aft t) (f :: K) (T.drop j) j = prsZ (.aft (clz f t)) K (T.drop (j + (wordC (shutT f.kind) (T.drop j)).1)) (j + (wordC (shutT f.kind) (T.drop j)).1)) := by
  by_cases hl : j < T.length
  · have hno : ¬ ((f.kind = 3 ∨ f.kind = 4) ∧ T[j] = 44 ∧ (f.done.len : Int) + 1 < mostK f.kind) := fun h2 => by rw [com_of hl h2] at h; cases h
    rcases shutT_cases f.kind with hs | ⟨s, hs⟩
    · rw [hs]
      refine ⟨fun h => (by cases h), fun _ => ?_⟩
      show _ = prsZ _ K (T.drop (j + 0)) (j + 0)
      rw [Nat.add_zero, at_cons hl rfl, prs_cons, prs_cons]
      rw [show stepZ (.aft t) (f :: K) T[j] = stepZ (.aft (clz f t)) K T[j] by rw [stepZ, stepZ, aftS, if_neg hno, hs]]
    · rw [hs]
      have hw := word1 s (T.drop j)
      rw [at_cons hl rfl] at hw ⊢
      by_cases hcs : T[j] = s
      · rw [wordC, if_pos hcs]
        refine ⟨fun h => (by cases h), fun _ => ?_⟩
        rw [prs_step (m' := .aft (clz f t)) (K' := K) (by rw [stepZ, aftS, if_neg hno, hs]; simp [hcs])]
        rfl
      · rw [wordC, if_neg hcs]
        refine ⟨fun _ => ?_, fun h => by cases h⟩
        rw [prs_none (by rw [stepZ, aftS, if_neg hno, hs]; simp [hcs])]
        rfl
  · rw [List.drop_eq_nil_of_le (show T.length ≤ j by omega)]
    rcases shutT_cases f.kind with hs | ⟨s, hs⟩
    · rw [hs]
      refine ⟨fun h => (by cases h), fun _ => ?_⟩
      show _ = prsZ _ K (T.drop (j + 0)) (j + 0)
      rw [Nat.add_zero, List.drop_eq_nil_of_le (show T.length ≤ j by omega)]
      show (match finA t (f :: K) with | some t => (some t, 0) | none => (none, j)) = match finA (clz f t) K with | some t => (some t, 0) | none => (none, j)
      rw [finA, if_pos hs]
    · rw [hs]
      refine ⟨fun _ => ?_, fun h => by cases h⟩
      show (match finA t (f :: K) with | some t => (some t, 0) | none => (none, j)) = (none, j)
      rw [finA, if_neg (by rw [hs]; simp)]
theorem nds_get {L M : List Nd} {x : Nd} {c : Nat} (hc : c < 3) : (nds (L ++ x :: M))[L.length * 3 + c]? = (ndV x)[c]? := by
  rw [show nds (L ++ x :: M) = nds L ++ (ndV x ++ nds M) by simp [nds], List.getElem?_append_right (by rw [nds_len]; omega), nds_len, Nat.add_sub_cancel_left, List.getElem?_append_left (by rw [ndV_len]; exact hc)]
theorem nds_kids {L M : List Nd} {k : Int} {n : Nat} {a b : Int} : (nds (L ++ ⟨k, n, a⟩ :: M)).set (L.length * 3 + 2) (.int .i64 b) = nds (L ++ ⟨k, n, b⟩ :: M) := by
  rw [show nds (L ++ ⟨k, n, a⟩ :: M) = nds L ++ (ndV ⟨k, n, a⟩ ++ nds M) by simp [nds], show nds (L ++ ⟨k, n, b⟩ :: M) = nds L ++ (ndV ⟨k, n, b⟩ ++ nds M) by simp [nds],
    List.set_append_right _ _ (by rw [nds_len]; omega), nds_len, Nat.add_sub_cancel_left]
  rfl
theorem ints_get {L : List Nat} {n : Nat} : (ints (L ++ [n]))[L.length]? = some (.int .i64 (n : Int)) := by
  rw [ints_snoc, List.getElem?_append_right (by simp [ints]), show (ints L).length = L.length by simp [ints]]
  simp

set_option maxHeartbeats 16000000 in
theorem vParse_spec (T : List UInt8) (w0 : World) (hl : T.length ≤ 9223372036854775807) : Ca Tryd.prog 24 #[st T] w0 (fun r w' => Ext w0 w' ∧ (1048576 < T.length → r = .tuple #[.slice none 0 0, .agg #[.int .i64 4, .int .i64 0]]) ∧ (T.length ≤ 1048576 → ((parZ T).1 = none → r = .tuple #[.slice none 0 0, .agg #[.int .i64 41, .int .i64 ((parZ T).2 : Int)]] ∧ (parZ T).2 ≤ T.length) ∧ ∀ u, (parZ T).1 = some u → u.flat.length ≤ T.length ∧ ∃ nv, r = .tuple #[nv, .agg #[.int .i64 0, .int .i64 0]] ∧ w'.ownsRow w0.heap.size 69 3 nv u.flat.length (nds u.flat))) := by
  refine Ca.of Tryd.func24 Tryd.ntmps24 rfl rfl ?_
  refine W.seq ?_
  refine W.region ?_
  refine WL.c rfl (o_ash (by first | exact (show _ = Value.slice _ _ _ from rfl) | exact rfl) ?_)
  refine WL.c rfl (o_alB TI64 ?_)
  intro wb hC3 hxb hsb
  obtain ⟨c3, hc3⟩ : ∃ c, c = w0.heap.size := ⟨_, rfl⟩
  rw [← hc3] at hC3 ⊢
  have hx : Ext w0 wb := hxb
  replace hC3 : wb.heap[c3]? = some (.cells #[.int .i64 0, .int .i64 0] 64 (0, 0)) := hC3
  have hsz : c3 + 1 ≤ wb.heap.size := by omega
  clear hxb hsb
  refine WL.nil ?_
  refine W.scope ?_
  refine W.seq ?_
  refine W.seq ?_
  refine W.region ?_
  refine WL.c rfl (o_mvh (show _ = Value.string _ from rfl) ?_)
  refine WL.c rfl (o_lenT TI9 rfl ?_)
  refine WL.c rfl (o_gt rfl rfl ?_)
  refine WL.nil ?_
  refine W.cond rfl (fun c13 => ?_) (fun c13 => ?_)
  · try simp only [decide_eq_true_eq, decide_eq_false_iff_not, Bool.not_eq_true', Bool.not_eq_false', Bool.and_eq_true, Bool.or_eq_true, Bool.and_eq_false_iff, Bool.or_eq_false_iff] at c13
    have hlong : 1048576 < T.length := by omega
    refine W.seq ?_
    skip
    · skip
      refine W.region ?_
      refine WL.c rfl (o_bldC (cs := [(.int .i64 4), (.int .i64 0)]) TI64 (Sizes.cons TI46 (Sizes.cons TI3 Sizes.nil)) rfl (lcp (show _ = Value.int _ _ from rfl) lnp) rfl rfl ?_)
      refine WL.c rfl (o_ash (by first | exact (show _ = Value.slice _ _ _ from rfl) | exact rfl) ?_)
      refine WL.u (o_stA TI64 rfl (show _ = Value.agg #[.int .i64 4, .int .i64 0] from rfl) rfl rfl hC3 rfl ?_)
      intro wz hCz hoz hsz
      replace hx := hx.trans' hoz (fun _ h => h) (fun b hb he => by omega)
      refine WL.nil ?_
      refine W.ret ?_
      refine retTC rfl TI64 rfl (show _ = Value.slice none 0 0 from rfl) rfl (show Cells _ c3 0 [.int .i64 4, .int .i64 0] from Cells.of hCz 0 _ (by simp)) rfl ?_
      exact ⟨hx, fun _ => rfl, fun h => absurd h (by omega)⟩
  · try simp only [decide_eq_true_eq, decide_eq_false_iff_not, Bool.not_eq_true', Bool.not_eq_false', Bool.and_eq_true, Bool.or_eq_true, Bool.and_eq_false_iff, Bool.or_eq_false_iff] at c13
    have hT : T.length ≤ 1048576 := by omega
    refine W.skip ?_
    refine W.seq ?_
    refine W.region ?_
    refine WL.c rfl (o_mvh (show _ = Value.string _ from rfl) ?_)
    refine WL.c rfl (o_bldC (cs := [_, (.int .i64 0), (.slice none 0 0), (.slice none 0 0)]) TI111 (Sizes.cons TI9 (Sizes.cons TI3 (Sizes.cons TI30 (Sizes.cons TI75 Sizes.nil)))) rfl (lcp (show _ = Value.string _ from rfl) lnp) rfl rfl ?_)
    refine WL.c rfl (o_boxB rfl ?_)
    intro w17 hC17 hx17 hs17
    obtain ⟨g, hg⟩ : ∃ b, b = wb.heap.size := ⟨_, rfl⟩
    rw [← hg] at hC17 ⊢
    replace hx := hx.tr hx17
    replace hC3 := hx17.blk hC3 (fun h => h)
    have h : RdM w17 (c3 + 1) g T 0 (.slice none 0 0) [] (.slice none 0 0) [] := ⟨hC17, World.ownsRow_nil _ _ _ _, World.ownsRow_nil _ _ _ _, by omega⟩
    clear hC17 hx17 hs17
    refine WL.c rfl (o_ash (by first | exact (show _ = Value.pointer _ from rfl) | exact rfl) ?_)
    refine WL.nil ?_
    refine W.seq ?_
    refine W.region ?_
    refine WL.c rfl (o_ash (show _ = Value.bool _ from rfl) ?_)
    refine WL.nil ?_
    refine W.seq ?_
    refine W.label ?_
    refine W.seq ?_
    refine W.block ?_
    refine W.loopN (fun c e w => ∃ (ok : Bool) (j : Nat) (nv : Value) (N : List Nd) (sv : Value) (S : List Nat), c = (if ok = true then T.length - j + 1 else 0) ∧ e 0 = st T ∧ e 3 = .pointer (some ⟨c3, 0, none⟩) ∧ e 4 = .pointer (some ⟨g, 0, none⟩) ∧ e 5 = .bool ok ∧ RdM w (c3 + 1) g T j nv N sv S ∧ j ≤ T.length ∧ w.heap[c3]? = some (.cells #[.int .i64 0, .int .i64 0] 64 (0, 0)) ∧ Ext w0 w ∧ (ok = false → parZ T = (none, j)) ∧ (ok = true → ∃ K, N = zn K ∧ S = zs K ∧ zk K ∧ N.length ≤ j ∧ parZ T = prsZ .bgn K (T.drop j) j)) ?_ ?_
    · exact ⟨_, true, 0, _, _, _, _, rfl, rfl, rfl, rfl, rfl, h, Nat.zero_le _, hC3, hx, fun h => (by cases h), fun _ => ⟨[], rfl, rfl, fun f hf => (by cases hf), Nat.zero_le _, rfl⟩⟩
    rintro c e w ⟨ok, j, nv, N, sv, S, hcn, h0, h3, h4, h5, h, hj, hC3, hx, hno, hyes⟩
    refine W.seq ?_
    refine W.seq ?_
    cases ok
    · skip
      skip
      refine W.region ?_
      refine WL.c rfl (o_mvh h5 ?_)
      refine WL.nil ?_
      refine W.condF' rfl (rfl) ?_
      refine W.exit ?_
      refine W.seq ?_
      refine W.seq ?_
      refine W.region ?_
      refine WL.c rfl (o_mvh h5 ?_)
      refine WL.c rfl (o_not' rfl ?_)
      refine WL.nil ?_
      refine W.condT' rfl (rfl) ?_
      refine W.seq ?_
      skip
      · skip
        refine W.tail 6 rfl (by kernel_rfl) ?_
        refine WS.c rfl ((SO.o rfl (o_mvh h4 ⟨rfl, rfl⟩))) ?_
        refine WS.c rfl ((SO.r (r_nil rfl))) ?_
        refine WS.c rfl ((SO.o rfl (o_fa 1 TI111 rfl TI3 rfl rfl ⟨rfl, rfl⟩))) ?_
        refine WS.c rfl ((SO.o rfl (o_ld TI3 rfl rfl (cell_of h.cell rfl) ⟨rfl, rfl⟩))) ?_
        refine WS.c rfl ((SO.o rfl (o_bldC (cs := [(.int .i64 41), _]) TI64 (Sizes.cons TI46 (Sizes.cons TI3 Sizes.nil)) rfl (lcp (show _ = Value.int _ _ from rfl) (lcp (show _ = Value.int _ _ from rfl) lnp)) rfl rfl ⟨rfl, rfl⟩))) ?_
        refine WS.c rfl ((SO.o rfl (o_ash (by first | exact (show _ = Value.slice _ _ _ from rfl) | exact rfl) ⟨rfl, rfl⟩))) ?_
        refine WS.nil ?_
        refine WL.u (o_stA TI64 h3 (show _ = Value.agg #[.int .i64 41, .int .i64 (j : Int)] from rfl) rfl rfl hC3 rfl ?_)
        intro wz hCz hoz hsz
        replace hx := (hx.tr (Only.drew _)).trans' hoz (fun _ h => h) (fun b hb he => by omega)
        refine WL.nil ?_
        refine W.ret ?_
        refine retTC rfl TI64 rfl (show _ = Value.slice none 0 0 from rfl) h3 (show Cells _ c3 0 [.int .i64 41, .int .i64 (j : Int)] from Cells.of hCz 0 _ (by simp)) rfl ?_
        have hpz0 := hno rfl
        exact ⟨hx, fun hl => absurd hl (by omega), fun _ => ⟨fun _ => ⟨by rw [hpz0], by rw [hpz0]; exact hj⟩, fun u hu => (by rw [hpz0] at hu; cases hu)⟩⟩
    · skip
      obtain ⟨K, rfl, rfl, hzk, hNj, hpz⟩ := hyes rfl
      have hsl := zs_len K
      replace hcn : c = T.length - j + 1 := hcn
      clear hno hyes
      refine W.region ?_
      refine WL.c rfl (o_mvh h5 ?_)
      refine WL.nil ?_
      refine W.condT' rfl (rfl) ?_
      refine W.skip ?_
      refine W.block ?_
      refine W.seq ?_
      refine W.region ?_
      refine WL.c rfl (o_mvh h4 ?_)
      refine WL.c rfl (o_call Tryd.call47 (lc rfl ln) ((vbegin_spec (c3 + 1) g T j nv K sv _ h hj hT (by omega) (by omega)).mono ?_))
      rintro v21 w21 ⟨goes, ok, j2, nv2, N2, sv2, S2, rfl, h, ho2, hj2, hno2, hyes2⟩
      replace hx := hx.trans' (ho2) (fun _ h => h) (fun k hk he => by omega)
      replace hC3 := (ho2).blk hC3 (fun hk => by omega)
      rw [← hpz] at hno2 hyes2
      replace hno2 : ok = false → parZ T = (none, j2) := hno2
      refine WL.c rfl (o_mvh (by first | exact (show _ = Value.tuple _ from rfl) | exact rfl) ?_)
      refine WL.c rfl (o_ext rfl rfl ?_)
      refine WL.c rfl (o_ext rfl rfl ?_)
      refine WL.c rfl (o_ash (show _ = Value.bool _ from rfl) ?_)
      refine WL.c rfl (o_ash (show _ = Value.bool _ from rfl) ?_)
      refine WL.nil ?_
      refine W.seq ?_
      refine W.region ?_
      refine WL.c rfl (o_mvh (show _ = Value.bool _ from rfl) ?_)
      refine WL.c rfl (o_ash (show _ = Value.bool _ from rfl) ?_)
      refine WL.nil ?_
      refine W.seq ?_
      refine W.seq ?_
      refine W.region ?_
      refine WL.c rfl (o_mvh (show _ = Value.bool _ from rfl) ?_)
      refine WL.nil ?_
      refine W.cond rfl (fun c25 => ?_) (fun c25 => ?_)
      · try simp only [decide_eq_true_eq, decide_eq_false_iff_not, Bool.not_eq_true', Bool.not_eq_false', Bool.and_eq_true, Bool.or_eq_true, Bool.and_eq_false_iff, Bool.or_eq_false_iff] at c25
        refine W.exit ?_
        refine ⟨_, ?_, ok, j2, _, _, _, _, rfl, h0, h3, h4, rfl, h, hj2, hC3, hx, hno2, fun hk => ?_⟩
        · cases ok with
          | false => show 0 < c; omega
          | true => have := (hyes2 rfl).1; show T.length - j2 + 1 < c; omega
        · obtain ⟨h6, h7⟩ := hyes2 hk
          rcases h7 with ⟨-, f, h8, h9, rfl, rfl, h10⟩ | ⟨h8, -⟩
          · exact ⟨f :: K, rfl, rfl, fun x hx => (List.mem_cons.1 hx).elim (fun e => e ▸ h9) (hzk x), by simp only [zn, h8, Vts.flat, List.length_append, List.length_cons, List.length_nil]; omega, h10⟩
          · rw [c25] at h8; cases h8
      · try simp only [decide_eq_true_eq, decide_eq_false_iff_not, Bool.not_eq_true', Bool.not_eq_false', Bool.and_eq_true, Bool.or_eq_true, Bool.and_eq_false_iff, Bool.or_eq_false_iff] at c25
        refine W.skip ?_
        refine W.block ?_
        refine W.loopN (fun d e w => ∃ (ok3 : Bool) (j3 : Nat) (nv3 : Value) (N3 : List Nd) (sv3 : Value) (S3 : List Nat), d = (if ok3 = true then S3.length + 1 else 0) ∧ e 0 = st T ∧ e 3 = .pointer (some ⟨c3, 0, none⟩) ∧ e 4 = .pointer (some ⟨g, 0, none⟩) ∧ e 5 = .bool ok3 ∧ RdM w (c3 + 1) g T j3 nv3 N3 sv3 S3 ∧ j3 ≤ T.length ∧ w.heap[c3]? = some (.cells #[.int .i64 0, .int .i64 0] 64 (0, 0)) ∧ Ext w0 w ∧ (ok3 = false → parZ T = (none, j3)) ∧ (ok3 = true → j < j3 ∧ ∃ K t, N3 = zn K ++ t.flat ∧ S3 = zs K ∧ zk K ∧ N3.length ≤ j3 ∧ parZ T = prsZ (.aft t) K (T.drop j3) j3)) ?_ ?_
        · refine ⟨_, ok, j2, _, _, _, _, rfl, h0, h3, h4, rfl, h, hj2, hC3, hx, hno2, fun hk => ?_⟩
          obtain ⟨h6, h7⟩ := hyes2 hk
          rcases h7 with ⟨h8, -⟩ | ⟨-, t, h8, rfl, rfl, h10⟩
          · rw [c25] at h8; cases h8
          · exact ⟨h6, K, t, rfl, rfl, hzk, by rw [List.length_append, h8]; omega, h10⟩
        rintro d e w ⟨ok3, j3, nv3, N3, sv3, S3, hdn, h0, h3, h4, h5, h, hj3, hC3, hx, hno3, hyes3⟩
        refine W.seq ?_
        refine W.seq ?_
        cases ok3
        · skip
          skip
          refine W.region ?_
          refine WL.c rfl (o_mvh h5 ?_)
          refine WL.nil ?_
          refine W.condF' rfl (rfl) ?_
          refine W.exit ?_
          exact ⟨0, by omega, false, j3, _, _, _, _, rfl, h0, h3, h4, h5, h, hj3, hC3, hx, hno3, fun h => (by cases h)⟩
        · skip
          obtain ⟨hjj, K3, t3, rfl, rfl, hzk3, hNj3, hpz3⟩ := hyes3 rfl
          have hsl3 := zs_len K3
          replace hdn : d = (zs K3).length + 1 := hdn
          clear hno3 hyes3
          refine W.region ?_
          refine WL.c rfl (o_mvh h5 ?_)
          refine WL.nil ?_
          refine W.condT' rfl (rfl) ?_
          refine W.skip ?_
          refine W.block ?_
          refine W.seq ?_
          refine W.seq ?_
          rcases K3 with _ | ⟨f, K3⟩
          · skip
            rw [aft_nil t3 T j3 hj3] at hpz3
            refine W.region ?_
            refine WL.c rfl (o_mvh h4 ?_)
            refine WL.c rfl (o_nil rfl ?_)
            refine WL.c rfl (o_fa 3 TI111 rfl TI75 rfl rfl ?_)
            refine WL.c rfl (o_ld TI75 rfl rfl (cell_of h.cell rfl) ?_)
            refine WL.c rfl (o_lenR TI75 rfl (Sl.own h.stk) ?_)
            refine WL.c rfl (o_eq rfl rfl ?_)
            refine WL.nil ?_
            refine W.condT' rfl (by simp [zs]) ?_
            refine W.seq ?_
            refine W.region ?_
            refine WL.c rfl (o_mvh h4 ?_)
            refine WL.c rfl (o_nil rfl ?_)
            refine WL.c rfl (o_fa 1 TI111 rfl TI3 rfl rfl ?_)
            refine WL.c rfl (o_ld TI3 rfl rfl (cell_of h.cell rfl) ?_)
            refine WL.c rfl (o_mvh h0 ?_)
            refine WL.c rfl (o_lenT TI9 rfl ?_)
            refine WL.c rfl (o_eq rfl rfl ?_)
            refine WL.c rfl (o_ash (show _ = Value.bool _ from rfl) ?_)
            refine WL.nil ?_
            refine W.exit ?_
            refine W.seq ?_
            refine W.seq ?_
            refine W.region ?_
            refine WL.c rfl (o_mvh (show _ = Value.bool _ from rfl) ?_)
            refine WL.c rfl (o_not' rfl ?_)
            refine WL.nil ?_
            refine W.cond rfl (fun c141 => ?_) (fun c141 => ?_)
            · try simp only [decide_eq_true_eq, decide_eq_false_iff_not, Bool.not_eq_true', Bool.not_eq_false', Bool.and_eq_true, Bool.or_eq_true, Bool.and_eq_false_iff, Bool.or_eq_false_iff] at c141
              have hne : ¬ j3 = T.length := by omega
              rw [if_neg hne] at hpz3
              refine W.seq ?_
              skip
              · skip
                refine W.tail 6 rfl (by kernel_rfl) ?_
                refine WS.c rfl ((SO.o rfl (o_mvh h4 ⟨rfl, rfl⟩))) ?_
                refine WS.c rfl ((SO.r (r_nil rfl))) ?_
                refine WS.c rfl ((SO.o rfl (o_fa 1 TI111 rfl TI3 rfl rfl ⟨rfl, rfl⟩))) ?_
                refine WS.c rfl ((SO.o rfl (o_ld TI3 rfl rfl (cell_of h.cell rfl) ⟨rfl, rfl⟩))) ?_
                refine WS.c rfl ((SO.o rfl (o_bldC (cs := [(.int .i64 41), _]) TI64 (Sizes.cons TI46 (Sizes.cons TI3 Sizes.nil)) rfl (lcp (show _ = Value.int _ _ from rfl) (lcp (show _ = Value.int _ _ from rfl) lnp)) rfl rfl ⟨rfl, rfl⟩))) ?_
                refine WS.c rfl ((SO.o rfl (o_ash (by first | exact (show _ = Value.slice _ _ _ from rfl) | exact rfl) ⟨rfl, rfl⟩))) ?_
                refine WS.nil ?_
                refine WL.u (o_stA TI64 h3 (show _ = Value.agg #[.int .i64 41, .int .i64 (j3 : Int)] from rfl) rfl rfl hC3 rfl ?_)
                intro wz hCz hoz hsz
                replace hx := (hx.tr (Only.drew _)).trans' hoz (fun _ h => h) (fun b hb he => by omega)
                refine WL.nil ?_
                refine W.ret ?_
                refine retTC rfl TI64 rfl (show _ = Value.slice none 0 0 from rfl) h3 (show Cells _ c3 0 [.int .i64 41, .int .i64 (j3 : Int)] from Cells.of hCz 0 _ (by simp)) rfl ?_
                have hpz0 := hpz3
                exact ⟨hx, fun hl => absurd hl (by omega), fun _ => ⟨fun _ => ⟨by rw [hpz0], by rw [hpz0]; exact hj3⟩, fun u hu => (by rw [hpz0] at hu; cases hu)⟩⟩
            · try simp only [decide_eq_true_eq, decide_eq_false_iff_not, Bool.not_eq_true', Bool.not_eq_false', Bool.and_eq_true, Bool.or_eq_true, Bool.and_eq_false_iff, Bool.or_eq_false_iff] at c141
              have hee : j3 = T.length := by omega
              rw [if_pos hee] at hpz3
              refine W.skip ?_
              refine W.seq ?_
              skip
              · skip
                refine W.region ?_
                refine WL.c rfl (o_mvh h4 ?_)
                refine WL.c rfl (o_nil rfl ?_)
                refine WL.c rfl (o_fa 2 TI111 rfl TI30 rfl rfl ?_)
                refine WL.c rfl (o_ld TI30 rfl rfl (cell_of h.cell rfl) ?_)
                refine WL.c rfl (o_bldC (cs := [(.int .i64 0), (.int .i64 0)]) TI64 (Sizes.cons TI46 (Sizes.cons TI3 Sizes.nil)) rfl lnp rfl rfl ?_)
                refine WL.c rfl (o_ash (by first | exact (show _ = Value.slice _ _ _ from rfl) | exact rfl) ?_)
                refine WL.u (o_stA TI64 h3 (show _ = Value.agg #[.int .i64 0, .int .i64 0] from rfl) rfl rfl hC3 rfl ?_)
                intro wz hCz hoz hsz
                replace hx := hx.trans' hoz (fun _ h => h) (fun b hb he => by omega)
                refine WL.nil ?_
                refine W.ret ?_
                refine retTC rfl TI64 rfl (show _ = nv3 from rfl) h3 (show Cells _ c3 0 [.int .i64 0, .int .i64 0] from Cells.of hCz 0 _ (by simp)) rfl ?_
                exact ⟨hx, fun hl => absurd hl (by omega), fun _ => ⟨fun hu => (by rw [hpz3] at hu; cases hu), fun u hu => by
                  rw [hpz3] at hu
                  simp only [Option.some.injEq] at hu
                  subst hu
                  refine ⟨by simpa [zn] using Nat.le_trans hNj3 hj3, nv3, rfl, ?_⟩
                  exact own_mono (own_only h.nod hoz (fun k hk he => by have := (h.nod.lt k hk).1; omega)) (by omega)⟩⟩
          · skip
            have hNe : zn (f :: K3) ++ t3.flat = (zn K3 ++ (⟨f.kind, f.n, (f.done.len : Int) + 1⟩ : Nd) :: (f.done.flat ++ t3.flat)) := by simp [zn]
            rw [hNe] at h hNj3
            replace h : RdM w (c3 + 1) g T j3 nv3 (zn K3 ++ (⟨f.kind, f.n, (f.done.len : Int) + 1⟩ : Nd) :: (f.done.flat ++ t3.flat)) sv3 (zs K3 ++ [(zn K3).length]) := h
            have hfk := hzk3 f (List.mem_cons_self ..)
            have hSl : (zs K3 ++ [(zn K3).length]).length = (zs K3).length + 1 := by simp
            have hNl : (zn K3 ++ (⟨f.kind, f.n, (f.done.len : Int) + 1⟩ : Nd) :: (f.done.flat ++ t3.flat)).length = (zn K3).length + 1 + (f.done.flat ++ t3.flat).length := by simp; omega
            have hsl4 := zs_len K3
            obtain ⟨sg, sc, rfl, hsg⟩ := own_some h.stk (by omega)
            have hsc : (zs K3).length + 1 ≤ sc := by obtain ⟨a, c, h1, h2⟩ := own_form h.stk; cases h1; omega
            obtain ⟨nb, nc, rfl, hnb⟩ := own_some h.nod (by omega)
            refine W.region ?_
            refine WL.c rfl (o_mvh h4 ?_)
            refine WL.c rfl (o_nil rfl ?_)
            refine WL.c rfl (o_fa 3 TI111 rfl TI75 rfl rfl ?_)
            refine WL.c rfl (o_ld TI75 rfl rfl (cell_of h.cell rfl) ?_)
            refine WL.c rfl (o_lenR TI75 rfl (Sl.own h.stk) ?_)
            refine WL.c rfl (o_eq rfl rfl ?_)
            refine WL.nil ?_
            refine W.condF' rfl (by simp [zs]; omega) ?_
            refine W.skip ?_
            refine W.seq ?_
            refine W.quiet rfl (by kernel_rfl) ?_
            refine WQ.c rfl ((QO.o rfl fun _ => o_mvh h4 ⟨rfl, rfl⟩)) ?_
            refine WQ.c rfl ((QO.r fun _ => r_nil rfl)) ?_
            refine WQ.c rfl ((QO.o rfl fun _ => o_fa 2 TI111 rfl TI30 rfl rfl ⟨rfl, rfl⟩)) ?_
            refine WQ.c rfl ((QO.o rfl fun _ => o_ld TI30 rfl rfl (cell_of h.cell rfl) ⟨rfl, rfl⟩)) ?_
            refine WQ.c rfl ((QO.o rfl fun _ => o_mvh h4 ⟨rfl, rfl⟩)) ?_
            refine WQ.c rfl ((QO.r fun _ => r_nil rfl)) ?_
            refine WQ.c rfl ((QO.o rfl fun _ => o_fa 3 TI111 rfl TI75 rfl rfl ⟨rfl, rfl⟩)) ?_
            refine WQ.c rfl ((QO.o rfl fun _ => o_ld TI75 rfl rfl (cell_of h.cell rfl) ⟨rfl, rfl⟩)) ?_
            refine WQ.c rfl ((QO.o rfl fun _ => o_mvh h4 ⟨rfl, rfl⟩)) ?_
            refine WQ.c rfl ((QO.r fun _ => r_nil rfl)) ?_
            refine WQ.c rfl ((QO.o rfl fun _ => o_fa 3 TI111 rfl TI75 rfl rfl ⟨rfl, rfl⟩)) ?_
            refine WQ.c rfl ((QO.o rfl fun _ => o_ld TI75 rfl rfl (cell_of h.cell rfl) ⟨rfl, rfl⟩)) ?_
            refine WQ.c rfl ((QO.r fun _ => r_lenR TI75 rfl (Sl.own h.stk))) ?_
            refine WQ.c rfl ((QO.o rfl fun _ => o_subi rfl rfl (by omega) ⟨rfl, rfl⟩)) ?_
            refine WQ.c rfl ((QO.o rfl fun _ => o_ixB (i := (zs K3).length) TI75 TI3 rfl (by show Value.int _ _ = _; congr 1; omega) (by omega) ⟨rfl, rfl⟩)) ?_
            refine WQ.c rfl ((QO.o rfl fun _ => o_ld TI3 rfl rfl (own_cell (j := 0 + (zs K3).length * 1) h.stk (by rw [Nat.zero_add, Nat.mul_one]; exact ints_get)) ⟨rfl, rfl⟩)) ?_
            refine WQ.c rfl ((QO.o rfl fun _ => o_ixB (i := (zn K3).length) TI30 TI69 rfl rfl (by omega) ⟨rfl, rfl⟩)) ?_
            refine WQ.c rfl ((QO.o rfl fun _ => o_ash (by first | exact (show _ = Value.pointer _ from rfl) | exact rfl) ⟨rfl, rfl⟩)) ?_
            refine WQ.nil ?_
            intro nq
            have hq := Only.drewN w nq
            replace h := h.ext hq
            replace hx := hx.tr hq
            replace hC3 := hq.blk hC3 (fun h => h)
            generalize World.drewN w nq = wq12 at *
            clear hq
            refine W.seq ?_
            refine W.region ?_
            refine WL.c rfl (o_mvh (by first | exact (show _ = Value.pointer _ from rfl) | exact rfl) ?_)
            refine WL.c rfl (o_nil rfl ?_)
            refine WL.c rfl (o_fa 0 TI69 rfl TI3 rfl rfl ?_)
            refine WL.c rfl (o_ld TI3 rfl rfl (own_cell (j := 0 + (zn K3).length * 3 + 0) h.nod (by rw [Nat.zero_add]; exact (nds_get (by decide)).trans rfl)) ?_)
            refine WL.c rfl (o_call Tryd.call40 (lc rfl ln) ((vkids_spec f.kind _).mono ?_))
            rintro v62 w62 ⟨rfl, rfl⟩
            refine WL.c rfl (o_mvh (by first | exact (show _ = Value.tuple _ from rfl) | exact rfl) ?_)
            refine WL.c rfl (o_ext rfl rfl ?_)
            refine WL.c rfl (o_ext rfl rfl ?_)
            refine WL.c rfl (o_ash (show _ = Value.int _ _ from rfl) ?_)
            refine WL.c rfl (o_ash (show _ = Value.int _ _ from rfl) ?_)
            refine WL.nil ?_
            refine W.seq ?_
            refine W.seq ?_
            refine W.region ?_
            refine WL.cut (fun e1 w1 => e1 102 = .bool (comB f T j3) ∧ e1 0 = st T ∧ e1 3 = .pointer (some ⟨c3, 0, none⟩) ∧ e1 4 = .pointer (some ⟨g, 0, none⟩) ∧ e1 8 = .pointer (some ⟨nb, 0 + (zn K3).length * 3, none⟩) ∧ w1 = w62) ?_ ?_
            · -- region 14
              refine WL.c rfl (o_mvh (by first | exact (show _ = Value.pointer _ from rfl) | exact rfl) ?_)
              refine WL.c rfl (o_nil rfl ?_)
              refine WL.c rfl (o_fa 0 TI69 rfl TI3 rfl rfl ?_)
              refine WL.c rfl (o_ld TI3 rfl rfl (own_cell (j := 0 + (zn K3).length * 3 + 0) h.nod (by rw [Nat.zero_add]; exact (nds_get (by decide)).trans rfl)) ?_)
              refine WL.c rfl (o_eq rfl rfl ?_)
              refine WL.c rfl (o_mvh (show _ = Value.bool _ from rfl) ?_)
              refine WL.sp 5 rfl (fun g70 => ?_) (fun g70 => ?_)
              · skip
                refine WL.s rfl (g70) rfl ?_
                refine WL.s rfl (g70) rfl ?_
                refine WL.s rfl (g70) rfl ?_
                refine WL.s rfl (g70) rfl ?_
                refine WL.s rfl (g70) rfl ?_
                refine WL.c rfl (o_pickT rfl (g70) ?_)
                refine WL.c rfl (o_mvh (show _ = Value.bool _ from rfl) ?_)
                refine WL.g rfl (rfl) rfl (o_mvh h4 ?_)
                refine WL.g rfl (rfl) rfl (o_nil rfl ?_)
                refine WL.g rfl (rfl) rfl (o_fa 1 TI111 rfl TI3 rfl rfl ?_)
                refine WL.g rfl (rfl) rfl (o_ld TI3 rfl rfl (cell_of h.cell rfl) ?_)
                refine WL.g rfl (rfl) rfl (o_mvh h0 ?_)
                refine WL.g rfl (rfl) rfl (o_lenT TI9 rfl ?_)
                refine WL.g rfl (rfl) rfl (o_lt rfl rfl ?_)
                refine WL.c rfl (o_pickA rfl rfl ?_)
                refine WL.c rfl (o_mvh (show _ = Value.bool _ from rfl) ?_)
                refine WL.sp 21 rfl (fun g86 => ?_) (fun g86 => ?_)
                · skip
                  refine WL.g rfl (g86) rfl (o_mvh h0 ?_)
                  refine WL.g rfl (g86) rfl (o_mvh h4 ?_)
                  refine WL.g rfl (g86) rfl (o_nil rfl ?_)
                  refine WL.g rfl (g86) rfl (o_fa 1 TI111 rfl TI3 rfl rfl ?_)
                  refine WL.g rfl (g86) rfl (o_ld TI3 rfl rfl (cell_of h.cell rfl) ?_)
                  refine WL.g rfl (g86) rfl (o_idT TI9 rfl rfl (by simp at g86; omega) ?_)
                  refine WL.g rfl (g86) rfl (o_eq rfl rfl ?_)
                  refine WL.c rfl (o_pickA rfl rfl ?_)
                  refine WL.c rfl (o_mvh (show _ = Value.bool _ from rfl) ?_)
                  refine WL.sp 30 rfl (fun g95 => ?_) (fun g95 => ?_)
                  · skip
                    refine WL.g rfl (g95) rfl (o_mvh (by first | exact (show _ = Value.pointer _ from rfl) | exact rfl) ?_)
                    refine WL.g rfl (g95) rfl (o_nil rfl ?_)
                    refine WL.g rfl (g95) rfl (o_fa 2 TI69 rfl TI3 rfl rfl ?_)
                    refine WL.g rfl (g95) rfl (o_ld TI3 rfl rfl (own_cell (j := 0 + (zn K3).length * 3 + 2) h.nod (by rw [Nat.zero_add]; exact (nds_get (by decide)).trans rfl)) ?_)
                    refine WL.g rfl (g95) rfl (o_mvh (show _ = Value.int _ _ from rfl) ?_)
                    refine WL.g rfl (g95) rfl (o_lt rfl rfl ?_)
                    refine WL.c rfl (o_pickA rfl rfl ?_)
                    exact WL.nil (⟨congrArg Value.bool (by
                      rw [Bool.eq_iff_iff]
                      simp only [comB]
                      by_cases hjl : j3 < T.length
                      · rw [List.getElem?_eq_getElem hjl]; simp_all [← UInt8.toNat_inj] <;> (try intro _) <;> omega
                      · rw [List.getElem?_eq_none (by omega)]; simp_all <;> omega), h0, h3, h4, rfl, rfl⟩)
                  · skip
                    refine WL.s rfl (g95) rfl ?_
                    refine WL.s rfl (g95) rfl ?_
                    refine WL.s rfl (g95) rfl ?_
                    refine WL.s rfl (g95) rfl ?_
                    refine WL.s rfl (g95) rfl ?_
                    refine WL.s rfl (g95) rfl ?_
                    refine WL.c rfl (o_pickF rfl (g95) ?_)
                    exact WL.nil (⟨congrArg Value.bool (by
                      rw [Bool.eq_iff_iff]
                      simp only [comB]
                      by_cases hjl : j3 < T.length
                      · rw [List.getElem?_eq_getElem hjl]; simp_all [← UInt8.toNat_inj] <;> (try intro _) <;> omega
                      · rw [List.getElem?_eq_none (by omega)]; simp_all <;> omega), h0, h3, h4, rfl, rfl⟩)
                · skip
                  refine WL.s rfl (g86) rfl ?_
                  refine WL.s rfl (g86) rfl ?_
                  refine WL.s rfl (g86) rfl ?_
                  refine WL.s rfl (g86) rfl ?_
                  refine WL.s rfl (g86) rfl ?_
                  refine WL.s rfl (g86) rfl ?_
                  refine WL.s rfl (g86) rfl ?_
                  refine WL.c rfl (o_pickF rfl (g86) ?_)
                  refine WL.c rfl (o_mvh (show _ = Value.bool _ from rfl) ?_)
                  refine WL.s rfl (rfl) rfl ?_
                  refine WL.s rfl (rfl) rfl ?_
                  refine WL.s rfl (rfl) rfl ?_
                  refine WL.s rfl (rfl) rfl ?_
                  refine WL.s rfl (rfl) rfl ?_
                  refine WL.s rfl (rfl) rfl ?_
                  refine WL.c rfl (o_pickF rfl (rfl) ?_)
                  exact WL.nil (⟨congrArg Value.bool (by
                    rw [Bool.eq_iff_iff]
                    simp only [comB]
                    by_cases hjl : j3 < T.length
                    · rw [List.getElem?_eq_getElem hjl]; simp_all [← UInt8.toNat_inj] <;> (try intro _) <;> omega
                    · rw [List.getElem?_eq_none (by omega)]; simp_all <;> omega), h0, h3, h4, rfl, rfl⟩)
              · skip
                refine WL.g rfl (g70) rfl (o_mvh (by first | exact (show _ = Value.pointer _ from rfl) | exact rfl) ?_)
                refine WL.g rfl (g70) rfl (o_nil rfl ?_)
                refine WL.g rfl (g70) rfl (o_fa 0 TI69 rfl TI3 rfl rfl ?_)
                refine WL.g rfl (g70) rfl (o_ld TI3 rfl rfl (own_cell (j := 0 + (zn K3).length * 3 + 0) h.nod (by rw [Nat.zero_add]; exact (nds_get (by decide)).trans rfl)) ?_)
                refine WL.g rfl (g70) rfl (o_eq rfl rfl ?_)
                refine WL.c rfl (o_pickO rfl rfl ?_)
                refine WL.c rfl (o_mvh (show _ = Value.bool _ from rfl) ?_)
                refine WL.sp 12 rfl (fun g77 => ?_) (fun g77 => ?_)
                · skip
                  refine WL.g rfl (g77) rfl (o_mvh h4 ?_)
                  refine WL.g rfl (g77) rfl (o_nil rfl ?_)
                  refine WL.g rfl (g77) rfl (o_fa 1 TI111 rfl TI3 rfl rfl ?_)
                  refine WL.g rfl (g77) rfl (o_ld TI3 rfl rfl (cell_of h.cell rfl) ?_)
                  refine WL.g rfl (g77) rfl (o_mvh h0 ?_)
                  refine WL.g rfl (g77) rfl (o_lenT TI9 rfl ?_)
                  refine WL.g rfl (g77) rfl (o_lt rfl rfl ?_)
                  refine WL.c rfl (o_pickA rfl rfl ?_)
                  refine WL.c rfl (o_mvh (show _ = Value.bool _ from rfl) ?_)
                  refine WL.sp 21 rfl (fun g86 => ?_) (fun g86 => ?_)
                  · skip
                    refine WL.g rfl (g86) rfl (o_mvh h0 ?_)
                    refine WL.g rfl (g86) rfl (o_mvh h4 ?_)
                    refine WL.g rfl (g86) rfl (o_nil rfl ?_)
                    refine WL.g rfl (g86) rfl (o_fa 1 TI111 rfl TI3 rfl rfl ?_)
                    refine WL.g rfl (g86) rfl (o_ld TI3 rfl rfl (cell_of h.cell rfl) ?_)
                    refine WL.g rfl (g86) rfl (o_idT TI9 rfl rfl (by simp at g86; omega) ?_)
                    refine WL.g rfl (g86) rfl (o_eq rfl rfl ?_)
                    refine WL.c rfl (o_pickA rfl rfl ?_)
                    refine WL.c rfl (o_mvh (show _ = Value.bool _ from rfl) ?_)
                    refine WL.sp 30 rfl (fun g95 => ?_) (fun g95 => ?_)
                    · skip
                      refine WL.g rfl (g95) rfl (o_mvh (by first | exact (show _ = Value.pointer _ from rfl) | exact rfl) ?_)
                      refine WL.g rfl (g95) rfl (o_nil rfl ?_)
                      refine WL.g rfl (g95) rfl (o_fa 2 TI69 rfl TI3 rfl rfl ?_)
                      refine WL.g rfl (g95) rfl (o_ld TI3 rfl rfl (own_cell (j := 0 + (zn K3).length * 3 + 2) h.nod (by rw [Nat.zero_add]; exact (nds_get (by decide)).trans rfl)) ?_)
                      refine WL.g rfl (g95) rfl (o_mvh (show _ = Value.int _ _ from rfl) ?_)
                      refine WL.g rfl (g95) rfl (o_lt rfl rfl ?_)
                      refine WL.c rfl (o_pickA rfl rfl ?_)
                      exact WL.nil (⟨congrArg Value.bool (by
                        rw [Bool.eq_iff_iff]
                        simp only [comB]
                        by_cases hjl : j3 < T.length
                        · rw [List.getElem?_eq_getElem hjl]; simp_all [← UInt8.toNat_inj] <;> (try intro _) <;> omega
                        · rw [List.getElem?_eq_none (by omega)]; simp_all <;> omega), h0, h3, h4, rfl, rfl⟩)
                    · skip
                      refine WL.s rfl (g95) rfl ?_
                      refine WL.s rfl (g95) rfl ?_
                      refine WL.s rfl (g95) rfl ?_
                      refine WL.s rfl (g95) rfl ?_
                      refine WL.s rfl (g95) rfl ?_
                      refine WL.s rfl (g95) rfl ?_
                      refine WL.c rfl (o_pickF rfl (g95) ?_)
                      exact WL.nil (⟨congrArg Value.bool (by
                        rw [Bool.eq_iff_iff]
                        simp only [comB]
                        by_cases hjl : j3 < T.length
                        · rw [List.getElem?_eq_getElem hjl]; simp_all [← UInt8.toNat_inj] <;> (try intro _) <;> omega
                        · rw [List.getElem?_eq_none (by omega)]; simp_all <;> omega), h0, h3, h4, rfl, rfl⟩)
                  · skip
                    refine WL.s rfl (g86) rfl ?_
                    refine WL.s rfl (g86) rfl ?_
                    refine WL.s rfl (g86) rfl ?_
                    refine WL.s rfl (g86) rfl ?_
                    refine WL.s rfl (g86) rfl ?_
                    refine WL.s rfl (g86) rfl ?_
                    refine WL.s rfl (g86) rfl ?_
                    refine WL.c rfl (o_pickF rfl (g86) ?_)
                    refine WL.c rfl (o_mvh (show _ = Value.bool _ from rfl) ?_)
                    refine WL.s rfl (rfl) rfl ?_
                    refine WL.s rfl (rfl) rfl ?_
                    refine WL.s rfl (rfl) rfl ?_
                    refine WL.s rfl (rfl) rfl ?_
                    refine WL.s rfl (rfl) rfl ?_
                    refine WL.s rfl (rfl) rfl ?_
                    refine WL.c rfl (o_pickF rfl (rfl) ?_)
                    exact WL.nil (⟨congrArg Value.bool (by
                      rw [Bool.eq_iff_iff]
                      simp only [comB]
                      by_cases hjl : j3 < T.length
                      · rw [List.getElem?_eq_getElem hjl]; simp_all [← UInt8.toNat_inj] <;> (try intro _) <;> omega
                      · rw [List.getElem?_eq_none (by omega)]; simp_all <;> omega), h0, h3, h4, rfl, rfl⟩)
                · skip
                  refine WL.s rfl (g77) rfl ?_
                  refine WL.s rfl (g77) rfl ?_
                  refine WL.s rfl (g77) rfl ?_
                  refine WL.s rfl (g77) rfl ?_
                  refine WL.s rfl (g77) rfl ?_
                  refine WL.s rfl (g77) rfl ?_
                  refine WL.s rfl (g77) rfl ?_
                  refine WL.c rfl (o_pickF rfl (g77) ?_)
                  refine WL.c rfl (o_mvh (show _ = Value.bool _ from rfl) ?_)
                  refine WL.s rfl (rfl) rfl ?_
                  refine WL.s rfl (rfl) rfl ?_
                  refine WL.s rfl (rfl) rfl ?_
                  refine WL.s rfl (rfl) rfl ?_
                  refine WL.s rfl (rfl) rfl ?_
                  refine WL.s rfl (rfl) rfl ?_
                  refine WL.s rfl (rfl) rfl ?_
                  refine WL.c rfl (o_pickF rfl (rfl) ?_)
                  refine WL.c rfl (o_mvh (show _ = Value.bool _ from rfl) ?_)
                  refine WL.s rfl (rfl) rfl ?_
                  refine WL.s rfl (rfl) rfl ?_
                  refine WL.s rfl (rfl) rfl ?_
                  refine WL.s rfl (rfl) rfl ?_
                  refine WL.s rfl (rfl) rfl ?_
                  refine WL.s rfl (rfl) rfl ?_
                  refine WL.c rfl (o_pickF rfl (rfl) ?_)
                  exact WL.nil (⟨congrArg Value.bool (by
                    rw [Bool.eq_iff_iff]
                    simp only [comB]
                    by_cases hjl : j3 < T.length
                    · rw [List.getElem?_eq_getElem hjl]; simp_all [← UInt8.toNat_inj] <;> (try intro _) <;> omega
                    · rw [List.getElem?_eq_none (by omega)]; simp_all <;> omega), h0, h3, h4, rfl, rfl⟩)
            rintro e w ⟨h102, h0, h3, h4, h8, hw1⟩
            subst hw1
            refine W.cond h102 (fun c102 => ?_) (fun c102 => ?_)
            · try simp only [decide_eq_true_eq, decide_eq_false_iff_not, Bool.not_eq_true', Bool.not_eq_false', Bool.and_eq_true, Bool.or_eq_true, Bool.and_eq_false_iff, Bool.or_eq_false_iff] at c102
              have hcb : comB f T j3 = true := by simpa using c102
              obtain ⟨hj5, -⟩ := com_lt hcb
              refine W.seq ?_
              refine W.region ?_
              refine WL.c rfl (o_mvh h4 ?_)
              refine WL.c rfl (o_nil rfl ?_)
              refine WL.c rfl (o_fa 1 TI111 rfl TI3 rfl rfl ?_)
              refine WL.c rfl (o_ld TI3 rfl rfl (cell_of h.cell rfl) ?_)
              refine WL.c rfl (o_addi rfl rfl (by omega) ?_)
              refine WL.c rfl (o_nil rfl ?_)
              refine WL.c rfl (o_fa 1 TI111 rfl TI3 rfl rfl ?_)
              refine WL.u (o_stB TI3 rfl (show _ = Value.int _ _ from rfl) rfl h.cell (show 1 < 4 by decide) ?_)
              intro w109 hB109 ho109 hs109
              replace h := h.move (j2 := j3 + 1) hB109 ho109
              have hog := oneG ho109 h.hb
              replace hx := hx.trans' (hog) (fun _ h => h) (fun k hk he => by omega)
              replace hC3 := (hog).blk hC3 (fun hk => by omega)
              clear hB109 ho109 hs109 hog
              refine WL.nil ?_
              refine W.seq ?_
              have hq4 := (wordC_le [32] (T.drop (j3 + 1))).1
              rw [List.length_drop] at hq4
              have hj4 : j3 + 1 + (wordC [32] (T.drop (j3 + 1))).1 ≤ T.length := by omega
              refine W.region ?_
              refine WL.c rfl (o_mvh h4 ?_)
              refine WL.c rfl (o_call Tryd.call48 (lc rfl (lc rfl ln)) ((vword_spec (c3 + 1) g T (j3 + 1) _ _ _ _ [32] _ h (by omega) hT (by decide)).mono ?_))
              rintro v111 w111 ⟨rfl, h, ho2⟩
              have hog := oneG ho2 h.hb
              replace hx := hx.trans' (hog) (fun _ h => h) (fun k hk he => by omega)
              replace hC3 := (hog).blk hC3 (fun hk => by omega)
              refine WL.c rfl (o_ash (show _ = Value.bool _ from rfl) ?_)
              refine WL.nil ?_
              refine W.seq ?_
              refine W.region ?_
              refine WL.c rfl (o_mvh h8 ?_)
              refine WL.c rfl (o_nil rfl ?_)
              refine WL.c rfl (o_fa 2 TI69 rfl TI3 rfl rfl ?_)
              refine WL.c rfl (o_ld TI3 rfl rfl (own_cell (j := 0 + (zn K3).length * 3 + 2) h.nod (by rw [Nat.zero_add]; exact (nds_get (by decide)).trans rfl)) ?_)
              refine WL.c rfl (o_addi rfl rfl (by have h1 := Vts.len_le f.done; have h2 : (f.done.flat ++ t3.flat).length = _ := List.length_append; show -9223372036854775808 ≤ (f.done.len : Int) + 1 + 1 ∧ (f.done.len : Int) + 1 + 1 ≤ 9223372036854775807; omega) ?_)
              refine WL.c rfl (o_nil rfl ?_)
              refine WL.c rfl (o_fa 2 TI69 rfl TI3 rfl rfl ?_)
              refine WL.u (o_stRj TI3 rfl (show 0 + (zn K3).length * 3 + 2 = (zn K3).length * 3 + 2 by omega) (show _ = Value.int .i64 ((f.done.len : Int) + 1 + 1) from rfl) rfl h.nod hnb (by omega) ?_)
              intro w118 hr118 ho118 hs118
              rw [nds_kids] at hr118
              replace h : RdM w118 (c3 + 1) g T (j3 + 1 + (wordC [32] (T.drop (j3 + 1))).1) _ (zn K3 ++ ⟨f.kind, f.n, (f.done.len : Int) + 1 + 1⟩ :: (f.done.flat ++ t3.flat)) _ _ := ⟨ho118.blk h.cell h.offn, by simpa using hr118, own_only h.stk ho118 (fun k hk hF => own_row_off h.nod h.stk (by decide) k hk hF), h.hb⟩
              have hnl : ∀ k, (Value.slice (some ⟨nb, 0, none⟩) (zn K3 ++ (⟨f.kind, f.n, (f.done.len : Int) + 1⟩ : Nd) :: (f.done.flat ++ t3.flat)).length nc).ownBlock = some k → c3 + 1 ≤ k := fun k hk => by have := (hr118.lt k hk).1; omega
              have hog2 : Only (fun k => c3 + 1 ≤ k) _ w118 := ho118.mono (fun k _ hk => hnl k hk)
              replace hx := hx.trans' (hog2) (fun _ h => h) (fun k hk he => by omega)
              replace hC3 := (hog2).blk hC3 (fun hk => by omega)
              refine WL.nil ?_
              refine W.exit ?_
              refine ⟨_, ?_, (wordC [32] (T.drop (j3 + 1))).2, _, _, _, _, _, rfl, h0, h3, h4, rfl, h, hj4, hC3, hx, fun hk => hpz3.trans ((aft_comma hcb).1 hk), fun hk => ⟨{ f with done := f.done.snoc t3 } :: K3, (zn_com f K3 t3).symm, rfl, fun x hx => (List.mem_cons.1 hx).elim (fun e => by subst e; exact hfk) (fun hx => hzk3 x (List.mem_cons_of_mem _ hx)), ?_, hpz3.trans ((aft_comma hcb).2 hk)⟩⟩
              · split <;> omega
              · rw [List.length_append, List.length_cons] at hNj3 ⊢; omega
            · try simp only [decide_eq_true_eq, decide_eq_false_iff_not, Bool.not_eq_true', Bool.not_eq_false', Bool.and_eq_true, Bool.or_eq_true, Bool.and_eq_false_iff, Bool.or_eq_false_iff] at c102
              have hcb : comB f T j3 = false := by simpa using c102
              refine W.skip ?_
              refine W.seq ?_
              have hq6 := wordC_le (shutT f.kind) (T.drop j3)
              rw [List.length_drop] at hq6
              have hsl5 := shutT_le f.kind
              have hj6 : j3 + (wordC (shutT f.kind) (T.drop j3)).1 ≤ T.length := by omega
              refine W.region ?_
              refine WL.c rfl (o_mvh h4 ?_)
              refine WL.c rfl (o_mvh h8 ?_)
              refine WL.c rfl (o_nil rfl ?_)
              refine WL.c rfl (o_fa 0 TI69 rfl TI3 rfl rfl ?_)
              refine WL.c rfl (o_ld TI3 rfl rfl (own_cell (j := 0 + (zn K3).length * 3 + 0) h.nod (by rw [Nat.zero_add]; exact (nds_get (by decide)).trans rfl)) ?_)
              refine WL.c rfl (o_call Tryd.call46 (lc rfl ln) ((vshut_spec f.kind _).mono ?_))
              rintro v124 w124 ⟨rfl, rfl⟩
              refine WL.c rfl (o_call Tryd.call48 (lc rfl (lc rfl ln)) ((vword_spec (c3 + 1) g T j3 _ _ _ _ (shutT f.kind) _ h (by omega) hT (by omega)).mono ?_))
              rintro v125 w125 ⟨rfl, h, ho2⟩
              have hog := oneG ho2 h.hb
              replace hx := hx.trans' (hog) (fun _ h => h) (fun k hk he => by omega)
              replace hC3 := (hog).blk hC3 (fun hk => by omega)
              refine WL.c rfl (o_ash (show _ = Value.bool _ from rfl) ?_)
              refine WL.nil ?_
              refine W.tail 14 rfl (by kernel_rfl) ?_
              refine WS.c rfl ((SO.o rfl (o_mvh h4 ⟨rfl, rfl⟩))) ?_
              refine WS.c rfl ((SO.o rfl (o_mvh h4 ⟨rfl, rfl⟩))) ?_
              refine WS.c rfl ((SO.r (r_nil rfl))) ?_
              refine WS.c rfl ((SO.o rfl (o_fa 3 TI111 rfl TI75 rfl rfl ⟨rfl, rfl⟩))) ?_
              refine WS.c rfl ((SO.o rfl (o_ld TI75 rfl rfl (cell_of h.cell rfl) ⟨rfl, rfl⟩))) ?_
              refine WS.c rfl ((SO.o rfl (o_mvh h4 ⟨rfl, rfl⟩))) ?_
              refine WS.c rfl ((SO.r (r_nil rfl))) ?_
              refine WS.c rfl ((SO.o rfl (o_fa 3 TI111 rfl TI75 rfl rfl ⟨rfl, rfl⟩))) ?_
              refine WS.c rfl ((SO.o rfl (o_ld TI75 rfl rfl (cell_of h.cell rfl) ⟨rfl, rfl⟩))) ?_
              refine WS.c rfl ((SO.r (r_lenR TI75 rfl (Sl.own h.stk)))) ?_
              refine WS.c rfl ((SO.o rfl (o_subi rfl rfl (by omega) ⟨rfl, rfl⟩))) ?_
              refine WS.c rfl ((SO.o rfl (o_sl0 TI75 TI3 (h := (zs K3).length) rfl (by show Value.int _ _ = _; congr 1; omega) (by omega) ⟨rfl, rfl⟩))) ?_
              refine WS.c rfl ((SO.r (r_nil rfl))) ?_
              refine WS.c rfl ((SO.o rfl (o_fa 3 TI111 rfl TI75 rfl rfl ⟨rfl, rfl⟩))) ?_
              refine WS.nil ?_
              refine WL.u (o_stB TI75 rfl (show _ = Value.slice (some ⟨sg, 0, none⟩) (zs K3).length sc from by first | rfl | assumption) rfl h.cell (show 3 < 4 by decide) ?_)
              intro w139 hB139 ho139 hs139
              have hd := Only.drew w125
              have hst := own_take h.stk (show (zs K3).length ≤ (zs K3 ++ [(zn K3).length]).length by omega)
              rw [Nat.mul_one, show (ints (zs K3 ++ [(zn K3).length])).take (zs K3).length = ints (zs K3) by rw [ints_snoc]; exact List.take_left' (by simp [ints])] at hst
              replace h : RdM w139 (c3 + 1) g T (j3 + (wordC (shutT f.kind) (T.drop j3)).1) _ (zn K3 ++ (⟨f.kind, f.n, (f.done.len : Int) + 1⟩ : Nd) :: (f.done.flat ++ t3.flat)) _ (zs K3) := ⟨hB139, own_only (own_ext h.nod hd) ho139 (fun k hk he => by subst he; exact h.offn hk), own_only (own_ext hst hd) ho139 (fun k hk he => by subst he; exact h.offs hk), h.hb⟩
              have hog2 := (hd.mono (fun _ _ h => h.elim)).trans (oneG ho139 h.hb)
              replace hx := hx.trans' (hog2) (fun _ h => h) (fun k hk he => by omega)
              replace hC3 := (hog2).blk hC3 (fun hk => by omega)
              refine WL.nil ?_
              refine ⟨_, ?_, (wordC (shutT f.kind) (T.drop j3)).2, _, _, _, _, _, rfl, h0, h3, h4, rfl, h, hj6, hC3, hx, fun hk => hpz3.trans ((aft_pop hj3 hcb).1 hk), fun hk => ⟨by omega, K3, clz f t3, by rw [clz_flat], rfl, fun x hx => hzk3 x (List.mem_cons_of_mem _ hx), ?_, hpz3.trans ((aft_pop hj3 hcb).2 hk)⟩⟩
              · rw [hdn]; simp only [zs, List.length_append, List.length_cons, List.length_nil]; split <;> omega
              · omega
end Go.Proofs.YtgmjfcekeglhjaaDoor

set_option linter.unusedSimpArgs false
set_option linter.unusedVariables false
set_option maxRecDepth 100000
namespace Go.Proofs.YtgmjfcekeglhjaaDoor
open Go Go.Vc Go.RowKit Go.Proofs

open Go Go.RowKit Go.Maps Go.WideMaps Go.ChangeMaps
theorem pk_at : (Tryd.prog).keyTypeAt 2 97 = true := by kernel_rfl
theorem pk_type : (Tryd.prog).keyType 97 = true := by kernel_rfl
theorem pk_tiled : (Tryd.prog).tiled 2 97 = true := by kernel_rfl
theorem pk_law : KeyLaw Tryd.prog 97 := deep_law (m := 2) (by omega) pk_at pk_tiled (by kernel_rfl)
theorem TI86 : Ty Tryd.prog 86 (.map 97 3) 1 8 (.map none) := ⟨Tryd.underlying86, Tryd.t86, Tryd.type86, rfl, rfl, rfl⟩
theorem MT86 : MTy Tryd.prog 86 97 3 := ⟨Keyed.of_law pk_law, by kernel_rfl, by kernel_rfl, fun w => TI3.run_zero w⟩
/-- a pair that may be a key -/
structure Pk where
  a : Nat
  b : Nat
  ha : a < 9223372036854775808
  hb : b < 9223372036854775808
deriving DecidableEq
def enP (p : Pk) : Lit := .string (keyBytes [.int .i64 (p.a : Int), .int .i64 (p.b : Int)])
theorem key_pk (p : Pk) : keyOf Tryd.prog 97 (.agg #[.int .i64 (p.a : Int), .int .i64 (p.b : Int)]) = some (enP p) := by
  have wa : (Lit.int .i64 (p.a : Int)).wf = true := wf_i64 (by have := p.ha; omega)
  have wb : (Lit.int .i64 (p.b : Int)).wf = true := wf_i64 (by have := p.hb; omega)
  have hsz : (Tryd.prog).cellsOf 97 = 2 := by kernel_rfl
  have h1 : (Tryd.prog).cellsOf 3 = 1 := by kernel_rfl
  obtain ⟨m, hm⟩ : ∃ m, (Tryd.prog).types.size = m + 1 := ⟨(Tryd.prog).types.size - 1, by kernel_rfl⟩
  have hu := Tryd.underlying97
  have hi := Tryd.underlying3
  unfold keyOf
  simp only [hu]
  rw [if_pos (by simp [pk_type, Value.formed, hu, hsz]), hm]
  unfold Program.keyLits
  simp only [hu, Value.cells]
  rw [if_pos (by rw [hsz]; exact ⟨rfl, by kernel_rfl⟩), List.mapM_cons, List.mapM_cons, List.mapM_nil]
  simp [h1, Program.keyLits, hi, wa, wb, enP]
theorem enP_inj (a b : Pk) (h : enP a = enP b) : a = b := by
  have h1 := key_pk a
  rw [h] at h1
  have h2 := pk_law.inj h1 (key_pk b)
  simp only [Value.agg.injEq, Array.mk.injEq, List.cons.injEq, Value.int.injEq, true_and, and_true] at h2
  obtain ⟨ha, hb⟩ := h2
  cases a; cases b
  simp only [Pk.mk.injEq]
  simp only at ha hb
  omega
structure Mk where
  kind : Int
  n : Nat
  par : Int
  k : Int
deriving DecidableEq
def kidsN (A : List Mk) (i : Nat) : Nat := A.countP (fun x => decide (x.par = (i : Int)))
def highN : List Mk → Nat → Int
  | [], _ => 0
  | x :: A, i => if x.par = (i : Int) then max (x.k + 1) (highN A i) else highN A i
def kidAt : List Mk → Nat → Nat → Int → Option Nat
  | [], _, _, _ => none
  | x :: A, o, p, k => if x.par = (p : Int) ∧ x.k = k then some o else kidAt A (o + 1) p k
def addV (A : List Mk) (p k kind : Int) (n : Nat) : Int × Int × List Mk :=
  if numB kind n = false then (0, 40, A)
  else if A.length = 0 then (if p = -1 then (0, 0, [⟨kind, n, -1, 0⟩]) else (0, 3, A))
  else if p < 0 ∨ (A.length : Int) ≤ p ∨ k < 0 then (0, 3, A)
  else if mostK ((A.getD p.toNat ⟨0, 0, 0, 0⟩).kind) ≤ k ∨ (kidAt A 0 p.toNat k).isSome = true then (0, 40, A)
  else ((A.length : Int), 0, A ++ [⟨kind, n, p, k⟩])
theorem kidsN_snoc (A : List Mk) (x : Mk) (i : Nat) : kidsN (A ++ [x]) i = kidsN A i + (if x.par = (i : Int) then 1 else 0) := by
  simp [kidsN, List.countP_append, List.countP_cons]
theorem highN_snoc : ∀ (A : List Mk) (x : Mk) (i : Nat), highN (A ++ [x]) i = if x.par = (i : Int) then max (highN A i) (x.k + 1) else highN A i
  | [], x, i => by
    simp only [List.nil_append, highN]
    split <;> omega
  | y :: A, x, i => by
    have := highN_snoc A x i
    simp only [List.cons_append, highN, this]
    split <;> split <;> omega
theorem kidAt_snoc : ∀ (A : List Mk) (x : Mk) (o p : Nat) (k : Int), kidAt (A ++ [x]) o p k = match kidAt A o p k with | some i => some i | none => if x.par = (p : Int) ∧ x.k = k then some (o + A.length) else none
  | [], x, o, p, k => by simp [kidAt]
  | y :: A, x, o, p, k => by
    have := kidAt_snoc A x (o + 1) p k
    simp only [List.cons_append, kidAt, this, List.length_cons]
    split
    · rfl
    · rw [show o + 1 + A.length = o + (A.length + 1) by omega]
/-- what stands of the arena in memory -/
def clV (A : List Mk) (i : Nat) (x : Mk) : List Value := [.int .i64 x.kind, .int .u64 (x.n : Int), .int .i64 (kidsN A i : Int), .int .i64 (highN A i)]
def clsG (B : List Mk) : Nat → List Mk → List Value
  | _, [] => []
  | o, x :: A => clV B o x ++ clsG B (o + 1) A
def cls (A : List Mk) : List Value := clsG A 0 A
theorem clsG_get (B : List Mk) {c : Nat} (hc : c < 4) : ∀ (A : List Mk) (o i : Nat) (x : Mk), A[i]? = some x → (clsG B o A)[i * 4 + c]? = (clV B (o + i) x)[c]?
  | [], o, i, x, h => by simp at h
  | y :: A, o, 0, x, h => by
    simp only [List.getElem?_cons_zero, Option.some.injEq] at h
    subst h
    rw [clsG, Nat.zero_mul, Nat.zero_add, List.getElem?_append_left (by simpa [clV] using hc), Nat.add_zero]
  | y :: A, o, i + 1, x, h => by
    simp only [List.getElem?_cons_succ] at h
    rw [clsG, List.getElem?_append_right (by simp only [clV, List.length_cons, List.length_nil]; omega)]
    rw [show (i + 1) * 4 + c - (clV B o y).length = i * 4 + c by simp only [clV, List.length_cons, List.length_nil]; omega, clsG_get B hc A (o + 1) i x h]
    rw [show o + 1 + i = o + (i + 1) by omega]
theorem clsG_app (B : List Mk) : ∀ (A C : List Mk) (o : Nat), clsG B o (A ++ C) = clsG B o A ++ clsG B (o + A.length) C
  | [], C, o => by simp [clsG]
  | x :: A, C, o => by
    rw [List.cons_append, clsG, clsG, clsG_app B A C, List.append_assoc, List.length_cons]
    rw [show o + 1 + A.length = o + (A.length + 1) by omega]
/-- only the parent's cells change -/
theorem clsG_other {B B2 : List Mk} : ∀ (A : List Mk) (o : Nat), (∀ i, o ≤ i → i < o + A.length → kidsN B i = kidsN B2 i ∧ highN B i = highN B2 i) → clsG B o A = clsG B2 o A
  | [], o, h => rfl
  | x :: A, o, h => by
    rw [clsG, clsG, clsG_other A (o + 1) (fun i h1 h2 => h i (by omega) (by rw [List.length_cons]; omega))]
    have := h o (Nat.le_refl _) (by rw [List.length_cons]; omega)
    rw [clV, clV, this.1, this.2]
structure Good (A : List Mk) : Prop where
  root : ∀ (x : Mk), A[0]? = some x → x.par = -1
  up : ∀ (i : Nat) (x : Mk), A[i]? = some x → 0 < i → 0 ≤ x.par ∧ x.par < (i : Int) ∧ 0 ≤ x.k ∧ x.k < mostK (A.getD x.par.toNat ⟨0, 0, 0, 0⟩).kind
  num : ∀ x ∈ A, numB x.kind x.n = true
  one : ∀ (i j : Nat) (x y : Mk), A[i]? = some x → A[j]? = some y → 0 < i → x.par = y.par → x.k = y.k → i = j


def gA (A : List Mk) (q : Pk) : Option Int := (kidAt A 0 q.a (q.b : Int)).map (fun i : Nat => (i : Int))
structure ArM (w : World) (B p mb : Nat) (cv : Value) (A : List Mk) : Prop where
  cell : w.heap[p]? = some (.cells #[cv, .map (some mb)] 89 (0, 0))
  row : w.ownsRow B 92 4 cv A.length (cls A)
  map : MapIs Tryd.prog 97 3 enP w mb A.length (gA A)
  hp : B ≤ p
  hm : B ≤ mb
  good : Good A
def AF (p mb : Nat) (cv : Value) (k : Nat) : Prop := k = p ∨ k = mb ∨ cv.ownBlock = some k
theorem map_ne_cells {P : Program} {k e : TypeId} {α : Type} {en : α → Lit} {w : World} {b n : Nat} {g : α → Option Int} (h : MapIs P k e en w b n g) {j : Nat} {cs : Array Value} {T : TypeId} {fr : Nat × Nat} (hj : w.heap[j]? = some (.cells cs T fr)) : ¬ j = b := by
  intro e
  subst e
  obtain ⟨D, ⟨es, clock, hb, r⟩, r2⟩ := h
  rw [hj] at hb
  cases hb
theorem own_nmap {P : Program} {k e : TypeId} {α : Type} {en : α → Lit} {w : World} {b n : Nat} {g : α → Option Int} (h : MapIs P k e en w b n g) {base : Nat} {el : TypeId} {s m : Nat} {v : Value} {xs : List Value} (ho : w.ownsRow base el s v m xs) : ¬ v.ownBlock = some b := by
  intro hb
  obtain ⟨cap, cur, hv, hbb, hc, -⟩ := own_blk ho hb
  exact map_ne_cells h hc rfl
theorem ArM.ext {w w' : World} {B p mb : Nat} {cv : Value} {A : List Mk} (h : ArM w B p mb cv A) (ho : Ext w w') : ArM w' B p mb cv A := ⟨ho.blk h.cell (fun h => h), own_ext h.row ho, h.map.ext ho, h.hp, h.hm, h.good⟩
theorem ArM.only {w w' : World} {F : Nat → Prop} {B p mb : Nat} {cv : Value} {A : List Mk} (h : ArM w B p mb cv A) (ho : Only F w w') (hF : ∀ k, AF p mb cv k → ¬ F k) : ArM w' B p mb cv A :=
  ⟨ho.blk h.cell (hF p (.inl rfl)), own_only h.row ho (fun k hk => hF k (.inr (.inr hk))), h.map.only ho (hF mb (.inr (.inl rfl))), h.hp, h.hm, h.good⟩
theorem ArM.lt {w : World} {B p mb : Nat} {cv : Value} {A : List Mk} (h : ArM w B p mb cv A) : ∀ k, AF p mb cv k → B ≤ k ∧ k < w.heap.size := fun k hk => by
  rcases hk with rfl | rfl | hk
  · exact ⟨h.hp, (Array.getElem?_eq_some_iff.1 h.cell).1⟩
  · exact ⟨h.hm, h.map.lt⟩
  · exact h.row.lt k hk
theorem Good.nil : Good [] := ⟨fun x h => by simp at h, fun i x h => by simp at h, fun x h => by simp at h, fun i j x y h => by simp at h⟩

theorem vnew_spec (w0 : World) : Ca Tryd.prog 12 #[] w0 (fun r w' => ∃ p mb, r = .pointer (some ⟨p, 0, none⟩) ∧ ArM w' w0.heap.size p mb (.slice none 0 0) [] ∧ Ext w0 w') := by
  refine Ca.of Tryd.func12 Tryd.ntmps12 rfl rfl ?_
  refine W.seq ?_
  refine W.region ?_
  refine WL.c rfl (o_ash (by first | exact (show _ = Value.pointer _ from rfl) | exact rfl) ?_)
  refine WL.nil ?_
  refine W.seq ?_
  refine W.region ?_
  refine WL.c rfl (o_mkM ?_)
  obtain ⟨wm, hwm⟩ : ∃ wm, wm = w0.alloc (.map #[] 0) := ⟨_, rfl⟩
  have hM : MapIs Tryd.prog 97 3 enP wm w0.heap.size 0 (gA []) := hwm ▸ MapIs.made _ _ _ _ _
  have hx : Ext w0 wm := hwm ▸ Only.alloc w0 _
  rw [← hwm]
  refine WL.c rfl (o_bldC (cs := [(.slice none 0 0), _]) TI89 (Sizes.cons TI87 (Sizes.cons TI86 Sizes.nil)) rfl (lcp rfl lnp) rfl rfl ?_)
  refine WL.c rfl (o_boxB rfl ?_)
  intro w3 hC3 hx3 hs3
  have hlt := hx.size
  refine WL.c rfl (o_ash (by first | exact (show _ = Value.pointer _ from rfl) | exact rfl) ?_)
  refine WL.nil ?_
  refine W.ret ?_
  refine ret1v rfl (show _ = Value.pointer _ from rfl) ?_
  exact ⟨wm.heap.size, w0.heap.size, rfl, ⟨hC3, World.ownsRow_nil _ _ _ _, hM.ext hx3, hlt, Nat.le_refl _, Good.nil⟩, hx.tr hx3⟩
theorem vcount_spec (B p mb : Nat) (cv : Value) (A : List Mk) (w0 : World) (h : ArM w0 B p mb cv A) : Ca Tryd.prog 19 #[.pointer (some ⟨p, 0, none⟩)] w0 (fun r w' => r = .int .i64 (A.length : Int) ∧ w' = w0) := by
  refine Ca.of Tryd.func19 Tryd.ntmps19 rfl rfl ?_
  refine W.seq ?_
  refine W.region ?_
  refine WL.c rfl (o_ash (show _ = Value.int _ _ from rfl) ?_)
  refine WL.nil ?_
  refine W.seq ?_
  refine W.region ?_
  refine WL.c rfl (o_mvh (by first | exact (show _ = Value.pointer _ from rfl) | exact rfl) ?_)
  refine WL.c rfl (o_nil rfl ?_)
  refine WL.c rfl (o_fa 0 TI89 rfl TI87 rfl rfl ?_)
  refine WL.c rfl (o_ld TI87 rfl rfl (cell_of h.cell rfl) ?_)
  refine WL.c rfl (o_lenR TI87 rfl (Sl.own h.row) ?_)
  refine WL.c rfl (o_ash (show _ = Value.int _ _ from rfl) ?_)
  refine WL.nil ?_
  refine W.ret ?_
  refine ret1v rfl (show _ = Value.int _ _ from rfl) ?_
  exact ⟨rfl, rfl⟩
end Go.Proofs.YtgmjfcekeglhjaaDoor

set_option linter.unusedSimpArgs false
set_option linter.unusedVariables false
set_option maxRecDepth 100000
namespace Go.Proofs.YtgmjfcekeglhjaaDoor
open Go Go.Vc Go.RowKit Go.Proofs
theorem o_maxI {P : Program} {e : Env} {w : World} {K : Value → World → Prop} {ty : TypeId} {x y : Operand} {t u : TypeId} {k : IntKind} {a b : Int} (hx : ev e x = .int k a) (hy : ev e y = .int k b) (kk : K (.int k (if a < b then b else a)) w) : OP P e (.call ⟨.builtin .max, #[x, y], #[t, u]⟩) ty w K := by
  refine OP.of ?_ kk
  simp [execOp, resolve, invoke, builtin, Builtin.max_, Builtin.max2, hx, hy]

open Go Go.RowKit Go.Maps Go.WideMaps Go.ChangeMaps
theorem kidAt_some : ∀ (A : List Mk) (o p : Nat) (k : Int) (i : Nat), kidAt A o p k = some i → o ≤ i ∧ ∃ x, A[i - o]? = some x ∧ x.par = (p : Int) ∧ x.k = k
  | [], o, p, k, i, h => by cases h
  | y :: A, o, p, k, i, h => by
    rw [kidAt] at h
    split at h
    · rename_i hc
      simp only [Option.some.injEq] at h
      subst h
      exact ⟨Nat.le_refl _, y, by simp, hc.1, hc.2⟩
    · obtain ⟨h1, x, h2, h3⟩ := kidAt_some A (o + 1) p k i h
      refine ⟨by omega, x, ?_, h3⟩
      rw [show i - o = i - (o + 1) + 1 by omega, List.getElem?_cons_succ]
      exact h2
theorem kidAt_none : ∀ (A : List Mk) (o p : Nat) (k : Int), kidAt A o p k = none → ∀ x ∈ A, ¬ (x.par = (p : Int) ∧ x.k = k)
  | [], o, p, k, h, x, hx => by cases hx
  | y :: A, o, p, k, h, x, hx => by
    rw [kidAt] at h
    split at h
    · cases h
    · rename_i hc
      rcases List.mem_cons.1 hx with rfl | hx
      · exact hc
      · exact kidAt_none A (o + 1) p k h x hx
theorem high_zero : ∀ (A : List Mk) (i : Nat), (∀ x ∈ A, ¬ x.par = (i : Int)) → kidsN A i = 0 ∧ highN A i = 0
  | [], i, h => ⟨rfl, rfl⟩
  | x :: A, i, h => by
    have h1 := high_zero A i (fun y hy => h y (List.mem_cons_of_mem _ hy))
    have h2 := h x (List.mem_cons_self ..)
    exact ⟨by rw [kidsN, List.countP_cons, if_neg (by simpa using h2)]; exact h1.1, by rw [highN, if_neg h2]; exact h1.2⟩
theorem Good.par {A : List Mk} (h : Good A) {x : Mk} (hx : x ∈ A) : x.par < (A.length : Int) := by
  obtain ⟨i, hi, rfl⟩ := List.getElem_of_mem hx
  by_cases h0 : 0 < i
  · have := (h.up i _ (List.getElem?_eq_getElem hi) h0).2.1
    omega
  · have : i = 0 := by omega
    subst this
    have := h.root _ (List.getElem?_eq_getElem hi)
    omega
theorem clsG_set (B2 : List Mk) {B : List Mk} {p : Nat} : ∀ (A : List Mk) (o : Nat), (∀ i, i ≠ p → o ≤ i → i < o + A.length → kidsN B i = kidsN B2 i ∧ highN B i = highN B2 i) → o ≤ p → p < o + A.length →
    ((clsG B o A).set ((p - o) * 4 + 2) (.int .i64 (kidsN B2 p : Int))).set ((p - o) * 4 + 3) (.int .i64 (highN B2 p)) = clsG B2 o A
  | [], o, h, h1, h2 => by simp at h2; omega
  | x :: A, o, h, h1, h2 => by
    rw [List.length_cons] at h2
    by_cases hp : p = o
    · subst hp
      rw [Nat.sub_self, Nat.zero_mul, clsG, clsG, clsG_other A (p + 1) (fun i h3 h4 => h i (by omega) (by omega) (by rw [List.length_cons]; omega))]
      rfl
    · have ih := clsG_set B2 (B := B) A (o + 1) (fun i h3 h4 h5 => h i h3 (by omega) (by rw [List.length_cons]; omega)) (by omega) (by omega)
      have ho := h o (Ne.symm hp) (Nat.le_refl _) (by rw [List.length_cons]; omega)
      have hl : (clV B o x).length = 4 := rfl
      rw [clsG, clsG, ← ih, show (p - o) * 4 + 2 = (clV B o x).length + ((p - (o + 1)) * 4 + 2) by rw [hl]; omega, show (p - o) * 4 + 3 = (clV B o x).length + ((p - (o + 1)) * 4 + 3) by rw [hl]; omega,
        List.set_append_right _ _ (by omega), Nat.add_sub_cancel_left, List.set_append_right _ _ (by omega), Nat.add_sub_cancel_left]
      rw [clV, clV, ho.1, ho.2]
theorem cls_add {A : List Mk} (hg : Good A) {p : Nat} (hp : p < A.length) (x : Mk) (hx : x.par = (p : Int)) :
    ((cls A).set (p * 4 + 2) (.int .i64 ((kidsN A p : Int) + 1))).set (p * 4 + 3) (.int .i64 (max (highN A p) (x.k + 1))) ++ [.int .i64 x.kind, .int .u64 (x.n : Int), .int .i64 0, .int .i64 0] = cls (A ++ [x]) := by
  have h1 : kidsN (A ++ [x]) p = kidsN A p + 1 := by rw [kidsN_snoc, if_pos hx]
  have h2 : highN (A ++ [x]) p = max (highN A p) (x.k + 1) := by rw [highN_snoc, if_pos hx]
  have h3 : ∀ i, i ≠ p → kidsN A i = kidsN (A ++ [x]) i ∧ highN A i = highN (A ++ [x]) i := fun i hi => by
    rw [kidsN_snoc, highN_snoc, if_neg (by omega), if_neg (by omega)]
    exact ⟨rfl, rfl⟩
  have hz : kidsN (A ++ [x]) A.length = 0 ∧ highN (A ++ [x]) A.length = 0 := high_zero _ _ (fun y hy => by
    rcases List.mem_append.1 hy with hy | hy
    · have := hg.par hy; omega
    · rw [List.mem_singleton.1 hy]; omega)
  have hs := clsG_set (A ++ [x]) (B := A) (p := p) A 0 (fun i hi _ _ => h3 i hi) (Nat.zero_le _) (by omega)
  rw [Nat.sub_zero, h1, h2] at hs
  rw [cls, cls, clsG_app, ← hs, Nat.zero_add]
  simp only [clsG, clV, hz.1, hz.2, List.append_nil]
  rfl
theorem gA_add {A : List Mk} {p k : Nat} (hp : p < 9223372036854775808) (hk : k < 9223372036854775808) (kd : Int) (n : Nat) (h0 : kidAt A 0 p (k : Int) = none) :
    (fun c => if c = ⟨p, k, hp, hk⟩ then some (A.length : Int) else gA A c) = gA (A ++ [⟨kd, n, (p : Int), (k : Int)⟩]) := by
  funext c
  rw [gA, gA, kidAt_snoc]
  by_cases hc : c = ⟨p, k, hp, hk⟩
  · subst hc
    rw [if_pos rfl]
    simp only
    rw [h0]
    simp
  · rw [if_neg hc]
    cases hq : kidAt A 0 c.a (c.b : Int) with
    | some i => rfl
    | none =>
      simp only
      rw [if_neg (fun h => hc (by
        obtain ⟨ca, cb, ha, hb⟩ := c
        simp only at h
        simp only [Pk.mk.injEq]
        omega))]
theorem getD_app {A : List Mk} {x d : Mk} {i : Nat} (h : i < A.length) : (A ++ [x]).getD i d = A.getD i d := by
  rw [List.getD_eq_getElem?_getD, List.getD_eq_getElem?_getD, List.getElem?_append_left h]
theorem Good.add {A : List Mk} (h : Good A) {p : Nat} (hp : p < A.length) {k kd : Int} {n : Nat} (hk : 0 ≤ k) (hn : numB kd n = true) (hm : k < mostK (A.getD p ⟨0, 0, 0, 0⟩).kind) (h0 : kidAt A 0 p k = none) : Good (A ++ [⟨kd, n, (p : Int), k⟩]) := by
  have hno := kidAt_none A 0 p k h0
  have hat : ∀ (i : Nat) (x : Mk), (A ++ [⟨kd, n, (p : Int), k⟩])[i]? = some x → A[i]? = some x ∧ i < A.length ∨ i = A.length ∧ x = ⟨kd, n, (p : Int), k⟩ := by
    intro i x hi
    by_cases hl : i < A.length
    · rw [List.getElem?_append_left hl] at hi; exact .inl ⟨hi, hl⟩
    · rw [List.getElem?_append_right (by omega)] at hi
      by_cases he : i = A.length
      · rw [he, Nat.sub_self] at hi
        simp only [List.getElem?_cons_zero, Option.some.injEq] at hi
        exact .inr ⟨he, hi.symm⟩
      · rw [show i - A.length = (i - A.length - 1) + 1 by omega] at hi
        simp at hi
  refine ⟨fun x hx => ?_, fun i x hx hi => ?_, fun x hx => ?_, fun i j x y hx hy hi h1 h2 => ?_⟩
  · rcases hat 0 x hx with ⟨h1, -⟩ | ⟨h1, -⟩
    · exact h.root x h1
    · omega
  · rcases hat i x hx with ⟨h1, h2⟩ | ⟨h1, rfl⟩
    · have := h.up i x h1 hi
      rw [getD_app (by omega)]
      exact this
    · rw [h1]
      refine ⟨by show (0 : Int) ≤ p; omega, by show (p : Int) < A.length; omega, hk, ?_⟩
      show k < mostK ((A ++ _).getD ((p : Int)).toNat _).kind
      rw [Int.toNat_natCast, getD_app hp]
      exact hm
  · rcases List.mem_append.1 hx with hx | hx
    · exact h.num x hx
    · rw [List.mem_singleton.1 hx]; exact hn
  · rcases hat i x hx with ⟨a1, a2⟩ | ⟨a1, rfl⟩ <;> rcases hat j y hy with ⟨b1, b2⟩ | ⟨b1, rfl⟩
    · exact h.one i j x y a1 b1 hi h1 h2
    · exact absurd ⟨h1, h2⟩ (hno x (List.mem_of_getElem? a1))
    · exact absurd ⟨h1.symm, h2.symm⟩ (hno y (List.mem_of_getElem? b1))
    · omega
theorem Good.first {kd : Int} {n : Nat} (hn : numB kd n = true) : Good [⟨kd, n, -1, 0⟩] := by
  refine ⟨fun x hx => ?_, fun i x hx hi => ?_, fun x hx => ?_, fun i j x y hx hy hi h1 h2 => ?_⟩
  · simp at hx; subst hx; rfl
  · rw [show i = (i - 1) + 1 by omega] at hx; simp at hx
  · rw [List.mem_singleton.1 hx]; exact hn
  · rw [show i = (i - 1) + 1 by omega] at hx; simp at hx
theorem add_cases (pa k : Int) (n : Nat) : pa < 0 ∨ (¬ pa < 0 ∧ (n : Int) ≤ pa) ∨ (¬ pa < 0 ∧ ¬ (n : Int) ≤ pa ∧ k < 0) ∨ (∃ pn kn : Nat, pa = (pn : Int) ∧ k = (kn : Int) ∧ pn < n) := by
  by_cases h1 : pa < 0
  · exact .inl h1
  · by_cases h2 : (n : Int) ≤ pa
    · exact .inr (.inl ⟨h1, h2⟩)
    · by_cases h3 : k < 0
      · exact .inr (.inr (.inl ⟨h1, h2, h3⟩))
      · exact .inr (.inr (.inr ⟨pa.toNat, k.toNat, by omega, by omega, by omega⟩))
theorem cls_get {A : List Mk} {i c : Nat} {x : Mk} (h : A[i]? = some x) (hc : c < 4) : (cls A)[i * 4 + c]? = (clV A i x)[c]? := by
  have := clsG_get A hc A 0 i x h
  rw [Nat.zero_add] at this
  exact this
theorem gA_some {A : List Mk} (q : Pk) : (gA A q).isSome = (kidAt A 0 q.a (q.b : Int)).isSome := by rw [gA]; cases kidAt A 0 q.a (q.b : Int) <;> rfl

set_option maxHeartbeats 8000000 in
theorem vadd_spec (B p mb : Nat) (cv : Value) (A : List Mk) (pa k kind : Int) (n : Nat) (w0 : World) (h : ArM w0 B p mb cv A) (hl : A.length ≤ 1000000) : Ca Tryd.prog 13 #[.pointer (some ⟨p, 0, none⟩), .int .i64 pa, .int .i64 k, .int .i64 kind, .int .u64 (n : Int)] w0 (fun r w' => r = .tuple #[.int .i64 (addV A pa k kind n).1, .int .i64 (addV A pa k kind n).2.1] ∧ ∃ cv2, ArM w' B p mb cv2 (addV A pa k kind n).2.2 ∧ Only (AF p mb cv) w0 w' ∧ ∀ j, cv2.ownBlock = some j → cv.ownBlock = some j ∨ w0.heap.size ≤ j) := by
  refine Ca.of Tryd.func13 Tryd.ntmps13 rfl rfl ?_
  refine W.seq ?_
  refine W.region ?_
  refine WL.c rfl (o_ash (show _ = Value.int _ _ from rfl) ?_)
  refine WL.c rfl (o_ash (show _ = Value.int _ _ from rfl) ?_)
  refine WL.nil ?_
  refine W.seq ?_
  refine W.seq ?_
  refine W.region ?_
  refine WL.c rfl (o_mvh (show _ = Value.int _ _ from rfl) ?_)
  refine WL.c rfl (o_mvh (show _ = Value.int _ _ from rfl) ?_)
  refine WL.c rfl (o_call Tryd.call39 (lc rfl (lc rfl ln)) ((vnum_spec kind n _).mono ?_))
  rintro v20 w20 ⟨rfl, rfl⟩
  refine WL.c rfl (o_not' rfl ?_)
  refine WL.nil ?_
  refine W.cond rfl (fun c21 => ?_) (fun c21 => ?_)
  · try simp only [decide_eq_true_eq, decide_eq_false_iff_not, Bool.not_eq_true', Bool.not_eq_false', Bool.and_eq_true, Bool.or_eq_true, Bool.and_eq_false_iff, Bool.or_eq_false_iff] at c21
    have hnum : numB kind n = false := by simpa using c21
    have hadd : addV A pa k kind n = (0, 40, A) := by rw [addV, if_pos hnum]
    refine W.seq ?_
    refine W.region ?_
    refine WL.c rfl (o_ash (show _ = Value.int _ _ from rfl) ?_)
    refine WL.c rfl (o_ash (show _ = Value.int _ _ from rfl) ?_)
    refine WL.nil ?_
    refine W.ret ?_
    refine ret2v rfl (show _ = Value.int _ _ from rfl) (show _ = Value.int _ _ from rfl) ?_
    exact ⟨by rw [hadd], cv, by rw [hadd]; exact h, Only.refl _ _, fun _ hj => .inl hj⟩
  · try simp only [decide_eq_true_eq, decide_eq_false_iff_not, Bool.not_eq_true', Bool.not_eq_false', Bool.and_eq_true, Bool.or_eq_true, Bool.and_eq_false_iff, Bool.or_eq_false_iff] at c21
    have hnum : numB kind n = true := by simpa using c21
    have hnum2 : ¬ numB kind n = false := by rw [hnum]; decide
    refine W.skip ?_
    refine W.seq ?_
    refine W.region ?_
    refine WL.c rfl (o_mvh (by first | exact (show _ = Value.pointer _ from rfl) | exact rfl) ?_)
    refine WL.c rfl (o_nil rfl ?_)
    refine WL.c rfl (o_fa 0 TI89 rfl TI87 rfl rfl ?_)
    refine WL.c rfl (o_ld TI87 rfl rfl (cell_of h.cell rfl) ?_)
    refine WL.c rfl (o_lenR TI87 rfl (Sl.own h.row) ?_)
    refine WL.c rfl (o_ash (show _ = Value.int _ _ from rfl) ?_)
    refine WL.nil ?_
    refine W.seq ?_
    refine W.seq ?_
    refine W.region ?_
    refine WL.c rfl (o_mvh (show _ = Value.int _ _ from rfl) ?_)
    refine WL.c rfl (o_eq rfl rfl ?_)
    refine WL.nil ?_
    refine W.cond rfl (fun c28 => ?_) (fun c28 => ?_)
    · try simp only [decide_eq_true_eq, decide_eq_false_iff_not, Bool.not_eq_true', Bool.not_eq_false', Bool.and_eq_true, Bool.or_eq_true, Bool.and_eq_false_iff, Bool.or_eq_false_iff] at c28
      obtain rfl : A = [] := List.eq_nil_of_length_eq_zero (by omega)
      refine W.seq ?_
      refine W.seq ?_
      refine W.region ?_
      refine WL.c rfl (o_mvh (show _ = Value.int _ _ from rfl) ?_)
      refine WL.c rfl (o_ne rfl rfl ?_)
      refine WL.nil ?_
      refine W.cond rfl (fun c30 => ?_) (fun c30 => ?_)
      · try simp only [decide_eq_true_eq, decide_eq_false_iff_not, Bool.not_eq_true', Bool.not_eq_false', Bool.and_eq_true, Bool.or_eq_true, Bool.and_eq_false_iff, Bool.or_eq_false_iff] at c30
        have hp1 : ¬ pa = -1 := by omega
        have hadd : addV [] pa k kind n = (0, 3, []) := by rw [addV, if_neg hnum2, if_pos (show ([] : List Mk).length = 0 from rfl), if_neg hp1]
        refine W.seq ?_
        refine W.region ?_
        refine WL.c rfl (o_ash (show _ = Value.int _ _ from rfl) ?_)
        refine WL.c rfl (o_ash (show _ = Value.int _ _ from rfl) ?_)
        refine WL.nil ?_
        refine W.ret ?_
        refine ret2v rfl (show _ = Value.int _ _ from rfl) (show _ = Value.int _ _ from rfl) ?_
        exact ⟨by rw [hadd], cv, by rw [hadd]; exact h, Only.refl _ _, fun _ hj => .inl hj⟩
      · try simp only [decide_eq_true_eq, decide_eq_false_iff_not, Bool.not_eq_true', Bool.not_eq_false', Bool.and_eq_true, Bool.or_eq_true, Bool.and_eq_false_iff, Bool.or_eq_false_iff] at c30
        obtain rfl : pa = -1 := by omega
        have hadd : addV [] (-1) k kind n = (0, 0, [⟨kind, n, -1, 0⟩]) := by rw [addV, if_neg hnum2, if_pos (show ([] : List Mk).length = 0 from rfl), if_pos rfl]
        refine W.skip ?_
        refine W.seq ?_
        refine W.region ?_
        refine WL.c rfl (o_mvh (by first | exact (show _ = Value.pointer _ from rfl) | exact rfl) ?_)
        refine WL.c rfl (o_mvh (by first | exact (show _ = Value.pointer _ from rfl) | exact rfl) ?_)
        refine WL.c rfl (o_nil rfl ?_)
        refine WL.c rfl (o_fa 0 TI89 rfl TI87 rfl rfl ?_)
        refine WL.c rfl (o_ld TI87 rfl rfl (cell_of h.cell rfl) ?_)
        refine WL.c rfl (o_mvh (show _ = Value.int _ _ from rfl) ?_)
        refine WL.c rfl (o_mvh (show _ = Value.int _ _ from rfl) ?_)
        refine WL.c rfl (o_bldC (cs := [_, _, (.int .i64 0), (.int .i64 0)]) TI92 (Sizes.cons TI3 (Sizes.cons TI43 (Sizes.cons TI3 (Sizes.cons TI3 Sizes.nil)))) rfl (lcp (show _ = Value.int _ _ from rfl) (lcp (show _ = Value.int _ _ from rfl) lnp)) rfl rfl ?_)
        refine WL.apO (B) rfl rfl TI87 TI92 (show _ = Value.agg #[.int .i64 kind, .int .u64 (n : Int), .int .i64 0, .int .i64 0] from rfl) rfl h.row (by decide) (by decide) rfl (fun a ha => by simp [Value.cells] at ha; rcases ha with rfl | rfl | rfl <;> rfl) rfl (by rw [maxLen_eq]; omega) (by omega) (by have := (h.lt p (.inl rfl)).1; have := (h.lt p (.inl rfl)).2; omega) ?_
        intro v40 w40 hown ho40 hb40 _hk
        have hcell := ho40.blk h.cell (own_off h.row h.cell (by decide))
        have hmp : MapIs Tryd.prog 97 3 enP w40 mb 0 (gA [⟨kind, n, -1, 0⟩]) := h.map.only ho40 (own_nmap h.map h.row)
        replace hown : w40.ownsRow B 92 4 v40 [(⟨kind, n, -1, 0⟩ : Mk)].length (cls [⟨kind, n, -1, 0⟩]) := hown
        refine WL.c rfl (o_nil rfl ?_)
        refine WL.c rfl (o_fa 0 TI89 rfl TI87 rfl rfl ?_)
        refine WL.u (o_stB TI87 rfl (show _ = v40 from rfl) (own_one hown) hcell (show 0 < 2 by decide) ?_)
        intro w42 hB42 ho42 hs42
        have hoff : ¬ v40.ownBlock = some p := own_off hown hcell (by decide)
        have h2 : ArM w42 B p mb v40 [⟨kind, n, -1, 0⟩] := ⟨hB42, own_only hown ho42 (fun j hj he => by subst he; exact hoff hj), (hmp.only ho42 (map_ne_cells hmp hcell ∘ Eq.symm)).mono (Nat.zero_le _), h.hp, h.hm, Good.first hnum⟩
        have hO := (ho40.mono (fun j _ hj => (.inr (.inr hj) : AF p mb cv j))).trans (ho42.mono (fun j _ hj => (.inl hj : AF p mb cv j)))
        refine WL.nil ?_
        refine W.seq ?_
        refine W.region ?_
        refine WL.c rfl (o_ash (show _ = Value.int _ _ from rfl) ?_)
        refine WL.c rfl (o_ash (show _ = Value.int _ _ from rfl) ?_)
        refine WL.nil ?_
        refine W.ret ?_
        refine ret2v rfl (show _ = Value.int _ _ from rfl) (show _ = Value.int _ _ from rfl) ?_
        exact ⟨by rw [hadd], v40, by rw [hadd]; exact h2, hO, fun j hj => by rcases hb40 with hb | hb; exact .inl (hb ▸ hj); rw [hb] at hj; cases hj; exact .inr (Nat.le_succ _)⟩
    · try simp only [decide_eq_true_eq, decide_eq_false_iff_not, Bool.not_eq_true', Bool.not_eq_false', Bool.and_eq_true, Bool.or_eq_true, Bool.and_eq_false_iff, Bool.or_eq_false_iff] at c28
      have h0 : ¬ A.length = 0 := by omega
      refine W.skip ?_
      refine W.seq ?_
      refine W.seq ?_
      rcases add_cases pa k A.length with hA | ⟨hA, hB⟩ | ⟨hA, hB, hC⟩ | ⟨pn, kn, rfl, rfl, hpn⟩
      · skip
        have hadd : addV A pa k kind n = (0, 3, A) := by rw [addV, if_neg hnum2, if_neg h0, if_pos (by omega)]
        refine W.region ?_
        refine WL.c rfl (o_mvh (show _ = Value.int _ _ from rfl) ?_)
        refine WL.c rfl (o_lt rfl rfl ?_)
        refine WL.c rfl (o_mvh (show _ = Value.bool _ from rfl) ?_)
        refine WL.s rfl (by simp <;> omega) rfl ?_
        refine WL.s rfl (by simp <;> omega) rfl ?_
        refine WL.s rfl (by simp <;> omega) rfl ?_
        refine WL.c rfl (o_pickT rfl (by simp <;> omega) ?_)
        refine WL.c rfl (o_mvh (show _ = Value.bool _ from rfl) ?_)
        refine WL.s rfl (rfl) rfl ?_
        refine WL.s rfl (rfl) rfl ?_
        refine WL.c rfl (o_pickT rfl (rfl) ?_)
        refine WL.nil ?_
        refine W.condT' rfl (rfl) ?_
        refine W.seq ?_
        refine W.region ?_
        refine WL.c rfl (o_ash (show _ = Value.int _ _ from rfl) ?_)
        refine WL.c rfl (o_ash (show _ = Value.int _ _ from rfl) ?_)
        refine WL.nil ?_
        refine W.ret ?_
        refine ret2v rfl (show _ = Value.int _ _ from rfl) (show _ = Value.int _ _ from rfl) ?_
        exact ⟨by rw [hadd], cv, by rw [hadd]; exact h, Only.refl _ _, fun _ hj => .inl hj⟩
      · skip
        have hadd : addV A pa k kind n = (0, 3, A) := by rw [addV, if_neg hnum2, if_neg h0, if_pos (by omega)]
        refine W.region ?_
        refine WL.c rfl (o_mvh (show _ = Value.int _ _ from rfl) ?_)
        refine WL.c rfl (o_lt rfl rfl ?_)
        refine WL.c rfl (o_mvh (show _ = Value.bool _ from rfl) ?_)
        refine WL.g rfl (by simp <;> omega) rfl (o_mvh (show _ = Value.int _ _ from rfl) ?_)
        refine WL.g rfl (by simp <;> omega) rfl (o_mvh (show _ = Value.int _ _ from rfl) ?_)
        refine WL.g rfl (by simp <;> omega) rfl (o_ge rfl rfl ?_)
        refine WL.c rfl (o_pickO rfl rfl ?_)
        refine WL.c rfl (o_mvh (show _ = Value.bool _ from rfl) ?_)
        refine WL.s rfl (by simp <;> omega) rfl ?_
        refine WL.s rfl (by simp <;> omega) rfl ?_
        refine WL.c rfl (o_pickT rfl (by simp <;> omega) ?_)
        refine WL.nil ?_
        refine W.condT' rfl (rfl) ?_
        refine W.seq ?_
        refine W.region ?_
        refine WL.c rfl (o_ash (show _ = Value.int _ _ from rfl) ?_)
        refine WL.c rfl (o_ash (show _ = Value.int _ _ from rfl) ?_)
        refine WL.nil ?_
        refine W.ret ?_
        refine ret2v rfl (show _ = Value.int _ _ from rfl) (show _ = Value.int _ _ from rfl) ?_
        exact ⟨by rw [hadd], cv, by rw [hadd]; exact h, Only.refl _ _, fun _ hj => .inl hj⟩
      · skip
        have hadd : addV A pa k kind n = (0, 3, A) := by rw [addV, if_neg hnum2, if_neg h0, if_pos (by omega)]
        refine W.region ?_
        refine WL.c rfl (o_mvh (show _ = Value.int _ _ from rfl) ?_)
        refine WL.c rfl (o_lt rfl rfl ?_)
        refine WL.c rfl (o_mvh (show _ = Value.bool _ from rfl) ?_)
        refine WL.g rfl (by simp <;> omega) rfl (o_mvh (show _ = Value.int _ _ from rfl) ?_)
        refine WL.g rfl (by simp <;> omega) rfl (o_mvh (show _ = Value.int _ _ from rfl) ?_)
        refine WL.g rfl (by simp <;> omega) rfl (o_ge rfl rfl ?_)
        refine WL.c rfl (o_pickO rfl rfl ?_)
        refine WL.c rfl (o_mvh (show _ = Value.bool _ from rfl) ?_)
        refine WL.g rfl (by simp <;> omega) rfl (o_mvh (show _ = Value.int _ _ from rfl) ?_)
        refine WL.g rfl (by simp <;> omega) rfl (o_lt rfl rfl ?_)
        refine WL.c rfl (o_pickO rfl rfl ?_)
        refine WL.nil ?_
        refine W.condT' rfl (by simp <;> omega) ?_
        refine W.seq ?_
        refine W.region ?_
        refine WL.c rfl (o_ash (show _ = Value.int _ _ from rfl) ?_)
        refine WL.c rfl (o_ash (show _ = Value.int _ _ from rfl) ?_)
        refine WL.nil ?_
        refine W.ret ?_
        refine ret2v rfl (show _ = Value.int _ _ from rfl) (show _ = Value.int _ _ from rfl) ?_
        exact ⟨by rw [hadd], cv, by rw [hadd]; exact h, Only.refl _ _, fun _ hj => .inl hj⟩
      · skip
        skip
        refine W.region ?_
        refine WL.c rfl (o_mvh (show _ = Value.int _ _ from rfl) ?_)
        refine WL.c rfl (o_lt rfl rfl ?_)
        refine WL.c rfl (o_mvh (show _ = Value.bool _ from rfl) ?_)
        refine WL.g rfl (by simp <;> omega) rfl (o_mvh (show _ = Value.int _ _ from rfl) ?_)
        refine WL.g rfl (by simp <;> omega) rfl (o_mvh (show _ = Value.int _ _ from rfl) ?_)
        refine WL.g rfl (by simp <;> omega) rfl (o_ge rfl rfl ?_)
        refine WL.c rfl (o_pickO rfl rfl ?_)
        refine WL.c rfl (o_mvh (show _ = Value.bool _ from rfl) ?_)
        refine WL.g rfl (by simp <;> omega) rfl (o_mvh (show _ = Value.int _ _ from rfl) ?_)
        refine WL.g rfl (by simp <;> omega) rfl (o_lt rfl rfl ?_)
        refine WL.c rfl (o_pickO rfl rfl ?_)
        refine WL.nil ?_
        refine W.condF' rfl (by simp <;> omega) ?_
        refine W.skip ?_
        refine W.seq ?_
        obtain ⟨nb, nc, rfl, hnb⟩ := own_some h.row (by omega)
        obtain ⟨x, hxA⟩ : ∃ x, A[pn]? = some x := ⟨_, List.getElem?_eq_getElem hpn⟩
        have hgd : A.getD pn ⟨0, 0, 0, 0⟩ = x := by rw [List.getD_eq_getElem?_getD, hxA]; rfl
        have hmx := (mostK_le x.kind).2
        have hkl : kidsN A pn ≤ A.length := List.countP_le_length
        have hpre : ¬ ((pn : Int) < 0 ∨ (A.length : Int) ≤ (pn : Int) ∨ (kn : Int) < 0) := by omega
        refine W.region ?_
        refine WL.c rfl (o_mvh (by first | exact (show _ = Value.pointer _ from rfl) | exact rfl) ?_)
        refine WL.c rfl (o_nil rfl ?_)
        refine WL.c rfl (o_fa 0 TI89 rfl TI87 rfl rfl ?_)
        refine WL.c rfl (o_ld TI87 rfl rfl (cell_of h.cell rfl) ?_)
        refine WL.c rfl (o_mvh (show _ = Value.int _ _ from rfl) ?_)
        refine WL.c rfl (o_ixB (i := pn) TI87 TI92 rfl rfl (by omega) ?_)
        refine WL.c rfl (o_ash (by first | exact (show _ = Value.pointer _ from rfl) | exact rfl) ?_)
        refine WL.nil ?_
        refine W.seq ?_
        refine W.seq ?_
        refine W.region ?_
        refine WL.c rfl (o_mvh (by first | exact (show _ = Value.pointer _ from rfl) | exact rfl) ?_)
        refine WL.c rfl (o_nil rfl ?_)
        refine WL.c rfl (o_fa 0 TI92 rfl TI3 rfl rfl ?_)
        refine WL.c rfl (o_ld TI3 rfl rfl (own_cell (j := 0 + pn * 4 + 0) h.row (by rw [Nat.zero_add]; exact (cls_get hxA (by decide)).trans rfl)) ?_)
        refine WL.c rfl (o_call Tryd.call40 (lc rfl ln) ((vkids_spec x.kind _).mono ?_))
        rintro v65 w65 ⟨rfl, rfl⟩
        refine WL.c rfl (o_mvh (by first | exact (show _ = Value.tuple _ from rfl) | exact rfl) ?_)
        refine WL.c rfl (o_ext rfl rfl ?_)
        refine WL.c rfl (o_ext rfl rfl ?_)
        refine WL.c rfl (o_ash (show _ = Value.int _ _ from rfl) ?_)
        refine WL.c rfl (o_ash (show _ = Value.int _ _ from rfl) ?_)
        refine WL.nil ?_
        refine W.seq ?_
        refine W.region ?_
        refine WL.c rfl (o_mvh (show _ = Value.int _ _ from rfl) ?_)
        refine WL.c rfl (o_mvh (show _ = Value.int _ _ from rfl) ?_)
        refine WL.c rfl (o_ge rfl rfl ?_)
        refine WL.nil ?_
        refine W.cond rfl (fun c70 => ?_) (fun c70 => ?_)
        · try simp only [decide_eq_true_eq, decide_eq_false_iff_not, Bool.not_eq_true', Bool.not_eq_false', Bool.and_eq_true, Bool.or_eq_true, Bool.and_eq_false_iff, Bool.or_eq_false_iff] at c70
          have hadd : addV A pn kn kind n = (0, 40, A) := by rw [addV, if_neg hnum2, if_neg h0, if_neg hpre, if_pos (by rw [Int.toNat_natCast, hgd]; exact .inl (by omega))]
          refine W.seq ?_
          refine W.region ?_
          refine WL.c rfl (o_ash (show _ = Value.int _ _ from rfl) ?_)
          refine WL.c rfl (o_ash (show _ = Value.int _ _ from rfl) ?_)
          refine WL.nil ?_
          refine W.ret ?_
          refine ret2v rfl (show _ = Value.int _ _ from rfl) (show _ = Value.int _ _ from rfl) ?_
          exact ⟨by rw [hadd], _, by rw [hadd]; exact h, Only.refl _ _, fun _ hj => .inl hj⟩
        · try simp only [decide_eq_true_eq, decide_eq_false_iff_not, Bool.not_eq_true', Bool.not_eq_false', Bool.and_eq_true, Bool.or_eq_true, Bool.and_eq_false_iff, Bool.or_eq_false_iff] at c70
          have hmk : (kn : Int) < mostK x.kind := by omega
          refine W.skip ?_
          refine W.seq ?_
          refine W.seq ?_
          refine W.region ?_
          refine WL.c rfl (o_mvh (by first | exact (show _ = Value.pointer _ from rfl) | exact rfl) ?_)
          refine WL.c rfl (o_nil rfl ?_)
          refine WL.c rfl (o_fa 1 TI89 rfl TI86 rfl rfl ?_)
          refine WL.c rfl (o_ld TI86 rfl rfl (cell_of h.cell rfl) ?_)
          refine WL.c rfl (o_mvh (show _ = Value.int _ _ from rfl) ?_)
          refine WL.c rfl (o_mvh (show _ = Value.int _ _ from rfl) ?_)
          refine WL.c rfl (o_bldC (cs := [_, _]) TI97 (Sizes.cons TI3 (Sizes.cons TI3 Sizes.nil)) rfl (lcp (show _ = Value.int _ _ from rfl) (lcp (show _ = Value.int _ _ from rfl) lnp)) rfl rfl ?_)
          refine WL.c rfl (o_lkO MT86 rfl h.map rfl (key_pk ⟨pn, kn, by omega, by omega⟩) ?_)
          refine WL.c rfl (o_mvh (by first | exact (show _ = Value.tuple _ from rfl) | exact rfl) ?_)
          refine WL.c rfl (o_ext rfl rfl ?_)
          refine WL.c rfl (o_ext rfl rfl ?_)
          refine WL.c rfl (o_ash (show _ = Value.int _ _ from rfl) ?_)
          refine WL.c rfl (o_ash (show _ = Value.bool _ from rfl) ?_)
          refine WL.nil ?_
          refine W.seq ?_
          refine W.region ?_
          refine WL.c rfl (o_mvh (show _ = Value.bool _ from rfl) ?_)
          refine WL.nil ?_
          refine W.cond rfl (fun c82 => ?_) (fun c82 => ?_)
          · try simp only [decide_eq_true_eq, decide_eq_false_iff_not, Bool.not_eq_true', Bool.not_eq_false', Bool.and_eq_true, Bool.or_eq_true, Bool.and_eq_false_iff, Bool.or_eq_false_iff] at c82
            rw [gA_some] at c82
            have hadd : addV A pn kn kind n = (0, 40, A) := by rw [addV, if_neg hnum2, if_neg h0, if_neg hpre, if_pos (by rw [Int.toNat_natCast]; exact .inr c82)]
            refine W.seq ?_
            refine W.region ?_
            refine WL.c rfl (o_ash (show _ = Value.int _ _ from rfl) ?_)
            refine WL.c rfl (o_ash (show _ = Value.int _ _ from rfl) ?_)
            refine WL.nil ?_
            refine W.ret ?_
            refine ret2v rfl (show _ = Value.int _ _ from rfl) (show _ = Value.int _ _ from rfl) ?_
            exact ⟨by rw [hadd], _, by rw [hadd]; exact h, Only.refl _ _, fun _ hj => .inl hj⟩
          · try simp only [decide_eq_true_eq, decide_eq_false_iff_not, Bool.not_eq_true', Bool.not_eq_false', Bool.and_eq_true, Bool.or_eq_true, Bool.and_eq_false_iff, Bool.or_eq_false_iff] at c82
            rw [gA_some] at c82
            have hno : kidAt A 0 pn (kn : Int) = none := by cases hq : kidAt A 0 pn (kn : Int) with | none => rfl | some i => simp [hq] at c82
            have hadd : addV A pn kn kind n = ((A.length : Int), 0, A ++ [⟨kind, n, (pn : Int), (kn : Int)⟩]) := by rw [addV, if_neg hnum2, if_neg h0, if_neg hpre, if_neg (by rw [Int.toNat_natCast, hgd, hno]; simp; omega)]
            refine W.skip ?_
            refine W.seq ?_
            refine W.region ?_
            refine WL.c rfl (o_mvh (by first | exact (show _ = Value.pointer _ from rfl) | exact rfl) ?_)
            refine WL.c rfl (o_nil rfl ?_)
            refine WL.c rfl (o_fa 2 TI92 rfl TI3 rfl rfl ?_)
            refine WL.c rfl (o_ld TI3 rfl rfl (own_cell (j := 0 + pn * 4 + 2) h.row (by rw [Nat.zero_add]; exact (cls_get hxA (by decide)).trans rfl)) ?_)
            refine WL.c rfl (o_addi rfl rfl (by omega) ?_)
            refine WL.c rfl (o_nil rfl ?_)
            refine WL.c rfl (o_fa 2 TI92 rfl TI3 rfl rfl ?_)
            refine WL.u (o_stRj TI3 rfl (show 0 + pn * 4 + 2 = pn * 4 + 2 by omega) (show _ = Value.int .i64 ((kidsN A pn : Int) + 1) from rfl) rfl h.row hnb (by omega) ?_)
            intro w89 hr89 ho89 hs89
            have hcell := ho89.blk h.cell (own_off h.row h.cell (by decide))
            have hmp := h.map.only ho89 (own_nmap h.map h.row)
            refine WL.nil ?_
            refine W.seq ?_
            refine W.region ?_
            refine WL.c rfl (o_mvh (by first | exact (show _ = Value.pointer _ from rfl) | exact rfl) ?_)
            refine WL.c rfl (o_mvh (by first | exact (show _ = Value.pointer _ from rfl) | exact rfl) ?_)
            refine WL.c rfl (o_nil rfl ?_)
            refine WL.c rfl (o_fa 3 TI92 rfl TI3 rfl rfl ?_)
            refine WL.c rfl (o_ld TI3 rfl rfl (own_cell (j := 0 + pn * 4 + 3) hr89 (by rw [Nat.zero_add, List.getElem?_set_ne (by omega)]; exact (cls_get hxA (by decide)).trans rfl)) ?_)
            refine WL.c rfl (o_mvh (show _ = Value.int _ _ from rfl) ?_)
            refine WL.c rfl (o_addi rfl rfl (by omega) ?_)
            refine WL.c rfl (o_maxI rfl rfl ?_)
            refine WL.c rfl (o_nil rfl ?_)
            refine WL.c rfl (o_fa 3 TI92 rfl TI3 rfl rfl ?_)
            refine WL.u (o_stRj TI3 rfl (show 0 + pn * 4 + 3 = pn * 4 + 3 by omega) (show _ = Value.int .i64 (max (highN A pn) ((kn : Int) + 1)) from by show Value.int _ _ = Value.int _ _; congr 1; rw [Int.max_def]; split <;> split <;> omega) rfl hr89 hnb (by omega) ?_)
            intro w99 hr99 ho99 hs99
            replace hcell := ho99.blk hcell (own_off hr89 hcell (by decide))
            replace hmp := hmp.only ho99 (own_nmap hmp hr89)
            have ho := ho89.trans ho99
            refine WL.nil ?_
            refine W.seq ?_
            refine W.region ?_
            refine WL.c rfl (o_mvh (by first | exact (show _ = Value.pointer _ from rfl) | exact rfl) ?_)
            refine WL.c rfl (o_nil rfl ?_)
            refine WL.c rfl (o_fa 1 TI89 rfl TI86 rfl rfl ?_)
            refine WL.c rfl (o_ld TI86 rfl rfl (cell_of hcell rfl) ?_)
            refine WL.c rfl (o_mvh (show _ = Value.int _ _ from rfl) ?_)
            refine WL.c rfl (o_mvh (show _ = Value.int _ _ from rfl) ?_)
            refine WL.c rfl (o_bldC (cs := [_, _]) TI97 (Sizes.cons TI3 (Sizes.cons TI3 Sizes.nil)) rfl (lcp (show _ = Value.int _ _ from rfl) (lcp (show _ = Value.int _ _ from rfl) lnp)) rfl rfl ?_)
            refine WL.c rfl (o_mvh (show _ = Value.int _ _ from rfl) ?_)
            refine WL.u (o_mu enP_inj MT86 rfl hmp rfl (key_pk ⟨pn, kn, by omega, by omega⟩) rfl (wf_i64 (by omega)) (by rw [maxLen_eq]; omega) ?_)
            intro wm hmp2 hom hsm
            rw [gA_add _ _ kind n hno] at hmp2
            have hrow := own_only hr99 hom (fun j hj he => by subst he; exact own_nmap hmp hr99 hj)
            replace hcell := hom.blk hcell (map_ne_cells hmp hcell)
            refine WL.nil ?_
            refine W.seq ?_
            refine W.region ?_
            refine WL.c rfl (o_mvh (by first | exact (show _ = Value.pointer _ from rfl) | exact rfl) ?_)
            refine WL.c rfl (o_mvh (by first | exact (show _ = Value.pointer _ from rfl) | exact rfl) ?_)
            refine WL.c rfl (o_nil rfl ?_)
            refine WL.c rfl (o_fa 0 TI89 rfl TI87 rfl rfl ?_)
            refine WL.c rfl (o_ld TI87 rfl rfl (cell_of hcell rfl) ?_)
            refine WL.c rfl (o_mvh (show _ = Value.int _ _ from rfl) ?_)
            refine WL.c rfl (o_mvh (show _ = Value.int _ _ from rfl) ?_)
            refine WL.c rfl (o_bldC (cs := [_, _, (.int .i64 0), (.int .i64 0)]) TI92 (Sizes.cons TI3 (Sizes.cons TI43 (Sizes.cons TI3 (Sizes.cons TI3 Sizes.nil)))) rfl (lcp (show _ = Value.int _ _ from rfl) (lcp (show _ = Value.int _ _ from rfl) lnp)) rfl rfl ?_)
            refine WL.apO (B) rfl rfl TI87 TI92 (show _ = Value.agg #[.int .i64 kind, .int .u64 (n : Int), .int .i64 0, .int .i64 0] from rfl) rfl hrow (by decide) (by decide) rfl (fun a ha => by simp [Value.cells] at ha; rcases ha with rfl | rfl | rfl <;> rfl) rfl (by rw [maxLen_eq]; omega) (by omega) (by have := (h.lt p (.inl rfl)).1; have := (h.lt p (.inl rfl)).2; omega) ?_
            intro v117 w117 hown ho117 hb117 _hk
            have hmp3 := hmp2.only ho117 (own_nmap hmp2 hrow)
            replace hcell := ho117.blk hcell (own_off hrow hcell (by decide))
            replace hown : w117.ownsRow B 92 4 v117 (A ++ [(⟨kind, n, (pn : Int), (kn : Int)⟩ : Mk)]).length (cls (A ++ [⟨kind, n, (pn : Int), (kn : Int)⟩])) := by rw [← cls_add h.good hpn _ rfl, List.length_append]; exact hown
            refine WL.c rfl (o_nil rfl ?_)
            refine WL.c rfl (o_fa 0 TI89 rfl TI87 rfl rfl ?_)
            refine WL.u (o_stB TI87 rfl (show _ = v117 from rfl) (own_one hown) hcell (show 0 < 2 by decide) ?_)
            intro w119 hB119 ho119 hs119
            have hoff : ¬ v117.ownBlock = some p := own_off hown hcell (by decide)
            have hg2 : Good (A ++ [⟨kind, n, (pn : Int), (kn : Int)⟩]) := h.good.add hpn (by omega) hnum (by rw [hgd]; exact hmk) hno
            have h2 : ArM w119 B p mb v117 (A ++ [⟨kind, n, (pn : Int), (kn : Int)⟩]) := ⟨hB119, own_only hown ho119 (fun j hj he => by subst he; exact hoff hj), by rw [List.length_append]; exact hmp3.only ho119 (fun e => map_ne_cells hmp3 hcell e.symm), h.hp, h.hm, hg2⟩
            have hO := (((ho.mono (fun j _ hj => (.inr (.inr hj) : AF p mb (Value.slice (some ⟨nb, 0, none⟩) A.length nc) j))).trans (hom.mono (fun j _ hj => (.inr (.inl hj) : AF p mb (Value.slice (some ⟨nb, 0, none⟩) A.length nc) j)))).trans (ho117.mono (fun j _ hj => (.inr (.inr hj) : AF p mb (Value.slice (some ⟨nb, 0, none⟩) A.length nc) j)))).trans (ho119.mono (fun j _ hj => (.inl hj : AF p mb (Value.slice (some ⟨nb, 0, none⟩) A.length nc) j)))
            refine WL.nil ?_
            refine W.seq ?_
            refine W.region ?_
            refine WL.c rfl (o_mvh (show _ = Value.int _ _ from rfl) ?_)
            refine WL.c rfl (o_ash (show _ = Value.int _ _ from rfl) ?_)
            refine WL.c rfl (o_ash (show _ = Value.int _ _ from rfl) ?_)
            refine WL.nil ?_
            refine W.ret ?_
            refine ret2v rfl (show _ = Value.int _ _ from rfl) (show _ = Value.int _ _ from rfl) ?_
            exact ⟨by rw [hadd], v117, by rw [hadd]; exact h2, hO, fun j hj => by rcases hb117 with hb | hb; exact .inl (hb ▸ hj); rw [hb] at hj; cases hj; exact .inr (by have := ho.size; have := hom.size; omega)⟩
end Go.Proofs.YtgmjfcekeglhjaaDoor

set_option linter.unusedSimpArgs false
set_option linter.unusedVariables false
set_option maxRecDepth 100000
namespace Go.Proofs.YtgmjfcekeglhjaaDoor
open Go Go.Vc Go.RowKit Go.Proofs
theorem nodup_len : ∀ (n : Nat) (l : List Nat), l.Nodup → (∀ x ∈ l, x < n) → l.length ≤ n
  | 0, l, _, h => by
    cases l with
    | nil => exact Nat.le_refl _
    | cons a l => exact absurd (h a (List.mem_cons_self ..)) (by omega)
  | n + 1, l, hn, h => by
    have h1 := nodup_len n (l.erase n) (hn.erase n) (fun x hx => by
      have h2 := h x (List.mem_of_mem_erase hx)
      have h3 : x ≠ n := fun e => by
        subst e
        exact (hn.mem_erase_iff.1 hx).1 rfl
      omega)
    by_cases hm : n ∈ l
    · rw [List.length_erase_of_mem hm] at h1
      have := List.length_pos_of_mem hm
      omega
    · rw [List.erase_of_not_mem hm] at h1
      omega

theorem fm_same {α β : Type} {f g : α → List β} : ∀ {l : List α}, (∀ x ∈ l, f x = g x) → l.flatMap f = l.flatMap g
  | [], _ => rfl
  | a :: l, h => by rw [List.flatMap_cons, List.flatMap_cons, h a (List.mem_cons_self ..), fm_same (fun x hx => h x (List.mem_cons_of_mem _ hx))]
def kidO (A : List Mk) (i k : Nat) : Nat := (kidAt A 0 i (k : Int)).getD 0
def badC (A : List Mk) (i : Nat) (x : Mk) : Prop := (kidsN A i : Int) ≠ highN A i ∨ (kidsN A i : Int) < leastK x.kind
def fullP (A : List Mk) : Prop := 0 < A.length ∧ ∀ (i : Nat) (x : Mk), A[i]? = some x → ¬ badC A i x
def kidL (A : List Mk) (i : Nat) : List Nat := (List.range (kidsN A i)).map (kidO A i)
/-- the node's value -/
def told (A : List Mk) : Nat → Nat → List Nd
  | 0, _ => []
  | f + 1, i => ⟨(A.getD i ⟨0, 0, 0, 0⟩).kind, (A.getD i ⟨0, 0, 0, 0⟩).n, (kidsN A i : Int)⟩ :: (kidL A i).flatMap (told A f)
theorem high_ge : ∀ (A : List Mk) (i : Nat) (x : Mk), x ∈ A → x.par = (i : Int) → x.k + 1 ≤ highN A i
  | [], i, x, h, _ => by cases h
  | y :: A, i, x, h, hp => by
    rw [highN]
    rcases List.mem_cons.1 h with rfl | h
    · rw [if_pos hp]; omega
    · have := high_ge A i x h hp
      split <;> omega
theorem kids_all {A : List Mk} (hg : Good A) {i : Nat} (hh : (kidsN A i : Int) = highN A i) {k : Nat} (hk : k < kidsN A i) : ∃ j, kidAt A 0 i (k : Int) = some j := by
  cases hq : kidAt A 0 i (k : Int) with
  | some j => exact ⟨j, rfl⟩
  | none =>
    exfalso
    have hno := kidAt_none A 0 i k hq
    let l := (A.filter (fun x => decide (x.par = (i : Int)))).map (fun x => x.k.toNat)
    have hlen : l.length = kidsN A i := by show ((A.filter _).map _).length = _; rw [List.length_map, kidsN, List.countP_eq_length_filter]
    have hpos : ∀ x ∈ A, x.par = (i : Int) → 0 ≤ x.k := by
      intro x hx hp
      obtain ⟨j, hj, rfl⟩ := List.getElem_of_mem hx
      by_cases h0 : 0 < j
      · exact (hg.up j _ (List.getElem?_eq_getElem hj) h0).2.2.1
      · have : j = 0 := by omega
        subst this
        have := hg.root _ (List.getElem?_eq_getElem hj)
        omega
    have hnd : l.Nodup := by
      show ((A.filter _).map _).Nodup
      rw [List.Nodup, List.pairwise_map, List.pairwise_filter, List.pairwise_iff_getElem]
      intro a b ha hb hab h1 h2 he
      simp only [decide_eq_true_eq] at h1 h2
      have ka := hpos _ (List.getElem_mem ha) h1
      have kb := hpos _ (List.getElem_mem hb) h2
      have a0 : 0 < b := by omega
      have := hg.one b a _ _ (List.getElem?_eq_getElem hb) (List.getElem?_eq_getElem ha) a0 (by rw [h1, h2]) (by omega)
      omega
    have hlt : ∀ y ∈ l, y < kidsN A i := by
      intro y hy
      obtain ⟨x, hx, rfl⟩ := List.mem_map.1 hy
      obtain ⟨hxA, hxp⟩ := List.mem_filter.1 hx
      simp only [decide_eq_true_eq] at hxp
      have h1 := high_ge A i x hxA hxp
      have h2 := hpos x hxA hxp
      show x.k.toNat < _
      omega
    have hkn : k ∉ l := by
      intro hy
      obtain ⟨x, hx, he⟩ := List.mem_map.1 hy
      obtain ⟨hxA, hxp⟩ := List.mem_filter.1 hx
      simp only [decide_eq_true_eq] at hxp
      have h2 := hpos x hxA hxp
      exact hno x hxA ⟨hxp, by omega⟩
    have := nodup_len (kidsN A i) (k :: l) (List.nodup_cons.2 ⟨hkn, hnd⟩) (fun y hy => by rcases List.mem_cons.1 hy with rfl | hy; exact hk; exact hlt y hy)
    rw [List.length_cons, hlen] at this
    omega
theorem kidO_spec {A : List Mk} (hg : Good A) {i : Nat} (hh : (kidsN A i : Int) = highN A i) {k : Nat} (hk : k < kidsN A i) : ∃ x, kidAt A 0 i (k : Int) = some (kidO A i k) ∧ A[kidO A i k]? = some x ∧ x.par = (i : Int) ∧ x.k = (k : Int) ∧ i < kidO A i k ∧ kidO A i k < A.length := by
  obtain ⟨j, hj⟩ := kids_all hg hh hk
  have hO : kidO A i k = j := by rw [kidO, hj]; rfl
  obtain ⟨-, x, hx, hp, hxk⟩ := kidAt_some A 0 i k j hj
  rw [Nat.sub_zero] at hx
  have hjl : j < A.length := (List.getElem?_eq_some_iff.1 hx).1
  have hj0 : 0 < j := by
    by_cases h0 : 0 < j
    · exact h0
    · have : j = 0 := by omega
      subst this
      have := hg.root _ hx
      omega
  have := (hg.up j x hx hj0).2.1
  rw [hO]
  exact ⟨x, hj, hx, hp, hxk, by omega, hjl⟩
theorem fullP.kids {A : List Mk} (hf : fullP A) {i : Nat} (hi : i < A.length) : (kidsN A i : Int) = highN A i := by
  have := hf.2 i _ (List.getElem?_eq_getElem hi)
  simp only [badC, not_or, Classical.not_not] at this
  exact this.1
theorem kidL_mem {A : List Mk} (hg : Good A) (hf : fullP A) {i : Nat} (hi : i < A.length) {j : Nat} (hj : j ∈ kidL A i) : ∃ x, A[j]? = some x ∧ x.par = (i : Int) ∧ i < j ∧ j < A.length := by
  obtain ⟨k, hk, rfl⟩ := List.mem_map.1 hj
  obtain ⟨x, -, h1, h2, -, h3, h4⟩ := kidO_spec hg (hf.kids hi) (List.mem_range.1 hk)
  exact ⟨x, h1, h2, h3, h4⟩
theorem kidL_nodup {A : List Mk} (hg : Good A) (hf : fullP A) {i : Nat} (hi : i < A.length) : (kidL A i).Nodup := by
  rw [kidL, List.Nodup, List.pairwise_map, List.pairwise_iff_getElem]
  intro a b ha hb hab he
  simp only [List.length_range] at ha hb
  simp only [List.getElem_range] at he
  obtain ⟨x, -, h1, -, h2, -⟩ := kidO_spec hg (hf.kids hi) ha
  obtain ⟨y, -, h3, -, h4, -⟩ := kidO_spec hg (hf.kids hi) hb
  rw [he] at h1
  rw [h1] at h3
  cases h3
  omega
theorem told_fuel {A : List Mk} (hg : Good A) (hf : fullP A) : ∀ (f g i : Nat), i < A.length → A.length ≤ f + i → A.length ≤ g + i → told A f i = told A g i
  | 0, _, i, h1, h2, _ => by omega
  | _, 0, i, h1, _, h2 => by omega
  | f + 1, g + 1, i, h1, h2, h3 => by
    rw [told, told]
    congr 1
    refine fm_same (fun j hj => ?_)
    obtain ⟨x, -, -, h4, h5⟩ := kidL_mem hg hf h1 hj
    exact told_fuel hg hf f g j h5 (by omega) (by omega)
theorem told_step {A : List Mk} (hg : Good A) (hf : fullP A) {i : Nat} (hi : i < A.length) : told A A.length i = ⟨(A.getD i ⟨0, 0, 0, 0⟩).kind, (A.getD i ⟨0, 0, 0, 0⟩).n, (kidsN A i : Int)⟩ :: (kidL A i).flatMap (told A A.length) := by
  obtain ⟨m, hm⟩ : ∃ m, A.length = m + 1 := ⟨A.length - 1, by omega⟩
  rw [show told A A.length i = told A (m + 1) i by rw [hm], told]
  congr 1
  refine fm_same (fun j hj => ?_)
  obtain ⟨x, -, -, h4, h5⟩ := kidL_mem hg hf hi hj
  exact told_fuel hg hf m A.length j h5 (by omega) (by omega)
/-- on the way: D is told, S is open -/
structure Dfs (A : List Mk) (D S : List Nat) (out : List Nd) : Prop where
  eq : out ++ S.reverse.flatMap (told A A.length) = told A A.length 0
  nd : (D ++ S).Nodup
  lt : ∀ x ∈ D ++ S, x < A.length
  up : ∀ x ∈ D ++ S, x ≠ 0 → ∃ y ∈ D, (A.getD x ⟨0, 0, 0, 0⟩).par = (y : Int)
  len : out.length = D.length
theorem Dfs.start {A : List Mk} (hf : fullP A) : Dfs A [] [0] [] :=
  ⟨by simp, by simp, fun x hx => by simp at hx; subst hx; exact hf.1, fun x hx h => by simp at hx; exact absurd hx h, rfl⟩
theorem Dfs.step {A : List Mk} (hg : Good A) (hf : fullP A) {D S : List Nat} {i : Nat} {out : List Nd} (h : Dfs A D (S ++ [i]) out) :
    Dfs A (D ++ [i]) (S ++ (kidL A i).reverse) (out ++ [⟨(A.getD i ⟨0, 0, 0, 0⟩).kind, (A.getD i ⟨0, 0, 0, 0⟩).n, (kidsN A i : Int)⟩]) := by
  have hi : i < A.length := h.lt i (by simp)
  have hnd := h.nd
  rw [← List.append_assoc, List.nodup_append] at hnd
  obtain ⟨h1, -, h2⟩ := hnd
  have hiD : i ∉ D := fun hd => h2 i (List.mem_append_left _ hd) i (List.mem_singleton.2 rfl) rfl
  have hkn : ∀ j ∈ kidL A i, j ∉ D ++ S ∧ j ≠ i := fun j hj => by
    obtain ⟨x, hx, hp, h4, h5⟩ := kidL_mem hg hf hi hj
    refine ⟨fun hm => ?_, by omega⟩
    obtain ⟨y, hy, he⟩ := h.up j (by rw [← List.append_assoc]; exact List.mem_append_left _ hm) (by omega)
    rw [List.getD_eq_getElem?_getD, hx] at he
    have : y = i := by
      have : x.par = (y : Int) := he
      omega
    exact hiD (this ▸ hy)
  refine ⟨?_, ?_, ?_, ?_, by rw [List.length_append, List.length_append, h.len]; rfl⟩
  · rw [← h.eq, List.reverse_append, List.reverse_append, List.reverse_reverse, List.flatMap_append, List.flatMap_append]
    simp only [List.reverse_cons, List.reverse_nil, List.nil_append, List.flatMap_cons, List.flatMap_nil, List.append_nil, List.append_assoc]
    rw [told_step hg hf hi]
    simp
  · rw [List.append_assoc, ← List.append_assoc [i] S, List.nodup_append]
    have h3 := List.nodup_append.1 h1
    refine ⟨h3.1, List.nodup_append.2 ⟨List.nodup_cons.2 ⟨fun hs => h2 i (List.mem_append_right _ hs) i (List.mem_singleton.2 rfl) rfl, h3.2.1⟩, (by rw [List.Nodup, List.pairwise_reverse]; exact (kidL_nodup hg hf hi).imp Ne.symm), fun a ha b hb he => ?_⟩, fun a ha b hb he => ?_⟩
    · subst he
      have := hkn a (List.mem_reverse.1 hb)
      rcases List.mem_cons.1 ha with rfl | ha
      · exact this.2 rfl
      · exact this.1 (List.mem_append_right _ ha)
    · subst he
      rcases List.mem_append.1 hb with hb | hb
      · rcases List.mem_cons.1 hb with rfl | hb
        · exact hiD ha
        · exact h3.2.2 a ha a hb rfl
      · exact (hkn a (List.mem_reverse.1 hb)).1 (List.mem_append_left _ ha)
  · intro x hx
    simp only [List.mem_append, List.mem_singleton, List.mem_reverse] at hx
    rcases hx with (hx | rfl) | hx | hx
    · exact h.lt x (List.mem_append_left _ hx)
    · exact hi
    · exact h.lt x (List.mem_append_right _ (List.mem_append_left _ hx))
    · obtain ⟨_, -, -, -, h5⟩ := kidL_mem hg hf hi hx; exact h5
  · intro x hx h0
    simp only [List.mem_append, List.mem_singleton, List.mem_reverse] at hx
    rcases hx with (hx | rfl) | hx | hx
    · obtain ⟨y, hy, he⟩ := h.up x (List.mem_append_left _ hx) h0
      exact ⟨y, List.mem_append_left _ hy, he⟩
    · obtain ⟨y, hy, he⟩ := h.up x (by simp) h0
      exact ⟨y, List.mem_append_left _ hy, he⟩
    · obtain ⟨y, hy, he⟩ := h.up x (List.mem_append_right _ (List.mem_append_left _ hx)) h0
      exact ⟨y, List.mem_append_left _ hy, he⟩
    · obtain ⟨z, hz, hp, -, -⟩ := kidL_mem hg hf hi hx
      exact ⟨i, by simp, by rw [List.getD_eq_getElem?_getD, hz]; exact hp⟩
theorem Dfs.bound {A : List Mk} {D S : List Nat} {out : List Nd} (h : Dfs A D S out) : D.length + S.length ≤ A.length := by
  have := nodup_len A.length (D ++ S) h.nd h.lt
  rwa [List.length_append] at this
theorem kidL_len (A : List Mk) (i : Nat) : (kidL A i).length = kidsN A i := by rw [kidL, List.length_map, List.length_range]
theorem kidL_drop {A : List Mk} {i k : Nat} (hk : k < kidsN A i) : ((kidL A i).drop k).reverse = ((kidL A i).drop (k + 1)).reverse ++ [kidO A i k] := by
  have hl : k < (kidL A i).length := by rw [kidL_len]; exact hk
  rw [← List.getElem_cons_drop hl, List.reverse_cons]
  congr 2
  simp [kidL]
theorem gA_getD (A : List Mk) (q : Pk) : (gA A q).getD 0 = (kidO A q.a q.b : Int) := by
  rw [gA, kidO]
  cases kidAt A 0 q.a (q.b : Int) <;> rfl
theorem clsG_take (B : List Mk) : ∀ (A : List Mk) (o i : Nat) (x : Mk), A[i]? = some x → ((clsG B o A).drop (i * 4)).take 4 = clV B (o + i) x
  | [], o, i, x, h => by simp at h
  | y :: A, o, 0, x, h => by
    simp only [List.getElem?_cons_zero, Option.some.injEq] at h
    subst h
    rw [clsG, Nat.zero_mul, List.drop_zero, Nat.add_zero]
    rfl
  | y :: A, o, i + 1, x, h => by
    simp only [List.getElem?_cons_succ] at h
    rw [clsG, show (i + 1) * 4 = (clV B o y).length + i * 4 by simp only [clV, List.length_cons, List.length_nil]; omega, List.drop_append, List.drop_eq_nil_of_le (by omega), List.nil_append, Nat.add_sub_cancel_left, clsG_take B A (o + 1) i x h]
    rw [show o + 1 + i = o + (i + 1) by omega]
theorem ArM.at {w : World} {B p mb : Nat} {cv : Value} {A : List Mk} (h : ArM w B p mb cv A) {i : Nat} {x : Mk} (hx : A[i]? = some x) : ∃ nb nc, cv = .slice (some ⟨nb, 0, none⟩) A.length nc ∧ Cells w nb (0 + i * 4) (clV A i x) := by
  have hi := (List.getElem?_eq_some_iff.1 hx).1
  obtain ⟨nb, nc, rfl, hnb⟩ := own_some h.row (by omega)
  have h1 := own_cellsAt h.row i
  have h2 := clsG_take A A 0 i x hx
  rw [Nat.zero_add] at h2
  rw [cls, h2] at h1
  exact ⟨nb, nc, rfl, h1⟩
theorem last_of {S : List Nat} (h : 0 < S.length) : ∃ S1 i, S = S1 ++ [i] := by
  rcases List.eq_nil_or_concat S with rfl | ⟨S1, i, rfl⟩
  · simp at h
  · exact ⟨S1, i, List.concat_eq_append⟩

set_option maxHeartbeats 16000000 in
theorem vvalue_spec (B p mb : Nat) (cv : Value) (A : List Mk) (w0 : World) (h : ArM w0 B p mb cv A) (hB : B ≤ w0.heap.size) (hl : A.length ≤ 1000000) : Ca Tryd.prog 16 #[.pointer (some ⟨p, 0, none⟩)] w0 (fun r w' => Ext w0 w' ∧ (¬ fullP A → r = .tuple #[.slice none 0 0, .int .i64 40]) ∧ (fullP A → (told A A.length 0).length ≤ A.length ∧ ∃ nv, r = .tuple #[nv, .int .i64 0] ∧ w'.ownsRow w0.heap.size 69 3 nv (told A A.length 0).length (nds (told A A.length 0)))) := by
  have hx : Ext w0 w0 := Only.refl _ _
  have hlow : ∀ j, AF p mb cv j → j < w0.heap.size := fun j hj => (h.lt j hj).2
  refine Ca.of Tryd.func16 Tryd.ntmps16 rfl rfl ?_
  refine W.seq ?_
  refine W.region ?_
  refine WL.c rfl (o_ash (by first | exact (show _ = Value.slice _ _ _ from rfl) | exact rfl) ?_)
  refine WL.c rfl (o_ash (show _ = Value.int _ _ from rfl) ?_)
  refine WL.nil ?_
  refine W.seq ?_
  refine W.seq ?_
  refine W.region ?_
  refine WL.c rfl (o_mvh (by first | exact (show _ = Value.pointer _ from rfl) | exact rfl) ?_)
  refine WL.c rfl (o_nil rfl ?_)
  refine WL.c rfl (o_fa 0 TI89 rfl TI87 rfl rfl ?_)
  refine WL.c rfl (o_ld TI87 rfl rfl (cell_of h.cell rfl) ?_)
  refine WL.c rfl (o_lenR TI87 rfl (Sl.own h.row) ?_)
  refine WL.c rfl (o_mvh (show _ = Value.int _ _ from rfl) ?_)
  refine WL.nil ?_
  refine W.block ?_
  refine W.loop (fun e w => ∃ i : Nat, i ≤ A.length ∧ e 0 = .pointer (some ⟨p, 0, none⟩) ∧ e 16 = cv ∧ e 17 = .int .i64 (A.length : Int) ∧ e 18 = .int .i64 (i : Int) ∧ (∀ j x, j < i → A[j]? = some x → ¬ badC A j x) ∧ ArM w B p mb cv A ∧ Ext w0 w) (fun e w => A.length - (intOf (e 18)).toNat) ?_ ?_
  · exact ⟨0, Nat.zero_le _, rfl, rfl, rfl, rfl, fun j x hj => absurd hj (Nat.not_lt_zero _), h, hx⟩
  rintro e w ⟨i, hi, h0, h16, h17, h18, hall, h, hx⟩
  have hm18 := h18
  refine W.seq ?_
  refine W.region ?_
  refine WL.c rfl (o_lt h18 h17 ?_)
  refine WL.nil ?_
  refine W.seq ?_
  refine W.cond rfl (fun c19 => ?_) (fun c19 => ?_)
  · try simp only [decide_eq_true_eq, decide_eq_false_iff_not, Bool.not_eq_true', Bool.not_eq_false', Bool.and_eq_true, Bool.or_eq_true, Bool.and_eq_false_iff, Bool.or_eq_false_iff] at c19
    have hi1 : i < A.length := by omega
    obtain ⟨x, hxA⟩ : ∃ x, A[i]? = some x := ⟨_, List.getElem?_eq_getElem hi1⟩
    obtain ⟨nb, nc, hcv, hxc⟩ := h.at hxA
    rw [hcv] at h16
    have hkl : kidsN A i ≤ A.length := List.countP_le_length
    refine W.skip ?_
    refine W.seq ?_
    refine W.block ?_
    refine W.seq ?_
    refine W.region ?_
    refine WL.c rfl (o_ixB (i := i) TI87 TI92 (show _ = Value.slice (some ⟨nb, 0, none⟩) A.length nc from by first | rfl | assumption) (show _ = Value.int .i64 (i : Int) from by first | rfl | assumption) (by omega) ?_)
    refine WL.c rfl (o_ldA TI92 rfl rfl hxc rfl ?_)
    refine WL.c rfl (o_alB TI92 ?_)
    intro wa hCa hxa hsa
    refine WL.u (o_stA TI92 rfl (show _ = Value.agg (clV A i x).toArray from rfl) rfl rfl hCa rfl ?_)
    intro wb5 hC5 hob hsb
    have hxb := Ext.own hxa (Nat.le_refl _) hob
    obtain ⟨b5, hb5⟩ : ∃ b, b = w.heap.size := ⟨_, rfl⟩
    rw [← hb5] at hC5 ⊢
    clear hCa hxa hsa hob hsb
    replace hx := hx.tr hxb
    replace h := h.ext hxb
    clear hxb
    refine WL.nil ?_
    refine W.seq ?_
    refine W.region ?_
    refine WL.c rfl (o_fa 0 TI92 rfl TI3 rfl rfl ?_)
    refine WL.c rfl (o_ld TI3 rfl rfl (cell_of hC5 rfl) ?_)
    refine WL.c rfl (o_call Tryd.call40 (lc rfl ln) ((vkids_spec x.kind _).mono ?_))
    rintro v25 w25 ⟨rfl, rfl⟩
    refine WL.c rfl (o_mvh (by first | exact (show _ = Value.tuple _ from rfl) | exact rfl) ?_)
    refine WL.c rfl (o_ext rfl rfl ?_)
    refine WL.c rfl (o_ext rfl rfl ?_)
    refine WL.c rfl (o_ash (show _ = Value.int _ _ from rfl) ?_)
    refine WL.c rfl (o_ash (show _ = Value.int _ _ from rfl) ?_)
    refine WL.nil ?_
    refine W.seq ?_
    refine W.region ?_
    refine WL.c rfl (o_fa 2 TI92 rfl TI3 rfl rfl ?_)
    refine WL.c rfl (o_ld TI3 rfl rfl (cell_of hC5 rfl) ?_)
    refine WL.c rfl (o_fa 3 TI92 rfl TI3 rfl rfl ?_)
    refine WL.c rfl (o_ld TI3 rfl rfl (cell_of hC5 rfl) ?_)
    refine WL.c rfl (o_ne rfl rfl ?_)
    refine WL.c rfl (o_mvh (show _ = Value.bool _ from rfl) ?_)
    refine WL.sp 5 rfl (fun g33 => ?_) (fun g33 => ?_)
    · skip
      refine WL.s rfl (g33) rfl ?_
      refine WL.s rfl (g33) rfl ?_
      refine WL.s rfl (g33) rfl ?_
      refine WL.s rfl (g33) rfl ?_
      refine WL.c rfl (o_pickT rfl (g33) ?_)
      refine WL.nil ?_
      refine W.cond rfl (fun c38 => ?_) (fun c38 => ?_)
      · try simp only [decide_eq_true_eq, decide_eq_false_iff_not, Bool.not_eq_true', Bool.not_eq_false', Bool.and_eq_true, Bool.or_eq_true, Bool.and_eq_false_iff, Bool.or_eq_false_iff] at c38
        have hbad : badC A i x := by unfold badC; first | omega | (simp_all; done) | (simp_all; omega)
        refine W.seq ?_
        refine W.region ?_
        refine WL.c rfl (o_ash (by first | exact (show _ = Value.slice _ _ _ from rfl) | exact rfl) ?_)
        refine WL.c rfl (o_ash (show _ = Value.int _ _ from rfl) ?_)
        refine WL.nil ?_
        refine W.ret ?_
        refine ret2v rfl rfl (show _ = Value.int _ _ from rfl) ?_
        exact ⟨hx, fun _ => rfl, fun hf => absurd hbad (hf.2 i x hxA)⟩
      · try simp only [decide_eq_true_eq, decide_eq_false_iff_not, Bool.not_eq_true', Bool.not_eq_false', Bool.and_eq_true, Bool.or_eq_true, Bool.and_eq_false_iff, Bool.or_eq_false_iff] at c38
        have hok : ¬ badC A i x := by unfold badC; first | omega | (simp_all; done) | (simp_all; omega)
        refine W.skip ?_
        refine W.region ?_
        refine WL.c rfl (o_addi h18 rfl (by omega) ?_)
        refine WL.c rfl (o_mvh (show _ = Value.int _ _ from rfl) ?_)
        refine WL.nil ?_
        refine ⟨⟨i + 1, by omega, h0, h16.trans hcv.symm, h17, rfl, fun j y hj hy => ?_, h, hx⟩, ?_⟩
        · rcases Nat.lt_or_ge j i with h1 | h1
          · exact hall j y h1 hy
          · have : j = i := by omega
            subst this
            rw [hxA] at hy
            cases hy
            exact hok
        · show A.length - ((i : Int) + 1).toNat < _
          rw [hm18]; simp [intOf]; omega
    · skip
      refine WL.g rfl (g33) rfl (o_fa 2 TI92 rfl TI3 rfl rfl ?_)
      refine WL.g rfl (g33) rfl (o_ld TI3 rfl rfl (cell_of hC5 rfl) ?_)
      refine WL.g rfl (g33) rfl (o_mvh (show _ = Value.int _ _ from rfl) ?_)
      refine WL.g rfl (g33) rfl (o_lt rfl rfl ?_)
      refine WL.c rfl (o_pickO rfl rfl ?_)
      refine WL.nil ?_
      refine W.cond rfl (fun c38 => ?_) (fun c38 => ?_)
      · try simp only [decide_eq_true_eq, decide_eq_false_iff_not, Bool.not_eq_true', Bool.not_eq_false', Bool.and_eq_true, Bool.or_eq_true, Bool.and_eq_false_iff, Bool.or_eq_false_iff] at c38
        have hbad : badC A i x := by unfold badC; first | omega | (simp_all; done) | (simp_all; omega)
        refine W.seq ?_
        refine W.region ?_
        refine WL.c rfl (o_ash (by first | exact (show _ = Value.slice _ _ _ from rfl) | exact rfl) ?_)
        refine WL.c rfl (o_ash (show _ = Value.int _ _ from rfl) ?_)
        refine WL.nil ?_
        refine W.ret ?_
        refine ret2v rfl rfl (show _ = Value.int _ _ from rfl) ?_
        exact ⟨hx, fun _ => rfl, fun hf => absurd hbad (hf.2 i x hxA)⟩
      · try simp only [decide_eq_true_eq, decide_eq_false_iff_not, Bool.not_eq_true', Bool.not_eq_false', Bool.and_eq_true, Bool.or_eq_true, Bool.and_eq_false_iff, Bool.or_eq_false_iff] at c38
        have hok : ¬ badC A i x := by unfold badC; first | omega | (simp_all; done) | (simp_all; omega)
        refine W.skip ?_
        refine W.region ?_
        refine WL.c rfl (o_addi h18 rfl (by omega) ?_)
        refine WL.c rfl (o_mvh (show _ = Value.int _ _ from rfl) ?_)
        refine WL.nil ?_
        refine ⟨⟨i + 1, by omega, h0, h16.trans hcv.symm, h17, rfl, fun j y hj hy => ?_, h, hx⟩, ?_⟩
        · rcases Nat.lt_or_ge j i with h1 | h1
          · exact hall j y h1 hy
          · have : j = i := by omega
            subst this
            rw [hxA] at hy
            cases hy
            exact hok
        · show A.length - ((i : Int) + 1).toNat < _
          rw [hm18]; simp [intOf]; omega
  · try simp only [decide_eq_true_eq, decide_eq_false_iff_not, Bool.not_eq_true', Bool.not_eq_false', Bool.and_eq_true, Bool.or_eq_true, Bool.and_eq_false_iff, Bool.or_eq_false_iff] at c19
    have hi1 : i = A.length := by omega
    have hall2 : ∀ j x, A[j]? = some x → ¬ badC A j x := fun j x hj => hall j x (by have := (List.getElem?_eq_some_iff.1 hj).1; omega) hj
    refine W.exit ?_
    refine W.seq ?_
    refine W.seq ?_
    refine W.region ?_
    refine WL.c rfl (o_mvh h0 ?_)
    refine WL.c rfl (o_nil rfl ?_)
    refine WL.c rfl (o_fa 0 TI89 rfl TI87 rfl rfl ?_)
    refine WL.c rfl (o_ld TI87 rfl rfl (cell_of h.cell rfl) ?_)
    refine WL.c rfl (o_lenR TI87 rfl (Sl.own h.row) ?_)
    refine WL.c rfl (o_eq rfl rfl ?_)
    refine WL.nil ?_
    refine W.cond rfl (fun c45 => ?_) (fun c45 => ?_)
    · try simp only [decide_eq_true_eq, decide_eq_false_iff_not, Bool.not_eq_true', Bool.not_eq_false', Bool.and_eq_true, Bool.or_eq_true, Bool.and_eq_false_iff, Bool.or_eq_false_iff] at c45
      refine W.seq ?_
      refine W.region ?_
      refine WL.c rfl (o_ash (by first | exact (show _ = Value.slice _ _ _ from rfl) | exact rfl) ?_)
      refine WL.c rfl (o_ash (show _ = Value.int _ _ from rfl) ?_)
      refine WL.nil ?_
      refine W.ret ?_
      refine ret2v rfl rfl (show _ = Value.int _ _ from rfl) ?_
      exact ⟨hx, fun _ => rfl, fun hf => absurd hf.1 (by omega)⟩
    · try simp only [decide_eq_true_eq, decide_eq_false_iff_not, Bool.not_eq_true', Bool.not_eq_false', Bool.and_eq_true, Bool.or_eq_true, Bool.and_eq_false_iff, Bool.or_eq_false_iff] at c45
      have hf : fullP A := ⟨by omega, hall2⟩
      clear hall hall2
      refine W.skip ?_
      refine W.seq ?_
      refine W.region ?_
      refine WL.c rfl (o_ash (by first | exact (show _ = Value.slice _ _ _ from rfl) | exact rfl) ?_)
      refine WL.nil ?_
      refine W.seq ?_
      refine W.seq ?_
      refine W.region ?_
      refine WL.c rfl (o_bs1 TI75 TI3 (show _ = Value.int _ _ from rfl) (by decide) (by decide) rfl ?_)
      have hsv : (w.alloc (.cells (Value.int .i64 0).cells 3)).ownsRow w.heap.size 3 1 (.slice (some ⟨w.heap.size, 0, none⟩) 1 1) [0].length (ints [0]) := own_new1 rfl
      have hxa : Ext w (w.alloc (.cells (Value.int .i64 0).cells 3)) := Only.alloc w _
      replace hsv := own_mono hsv hx.size
      replace h := h.ext hxa
      replace hx := hx.tr hxa
      generalize w.alloc (.cells (Value.int .i64 0).cells 3) = wa at *
      refine WL.c rfl (o_ash (by first | exact (show _ = Value.slice _ _ _ from rfl) | exact rfl) ?_)
      refine WL.nil ?_
      refine W.block ?_
      refine W.loopN (fun c e w => ∃ (D S : List Nat) (out : List Nd) (ov sv : Value), c = A.length - D.length ∧ e 0 = .pointer (some ⟨p, 0, none⟩) ∧ e 8 = ov ∧ e 9 = sv ∧ Dfs A D S out ∧ w.ownsRow w0.heap.size 69 3 ov out.length (nds out) ∧ w.ownsRow w0.heap.size 3 1 sv (S).length (ints (S)) ∧ ArM w B p mb cv A ∧ Ext w0 w) ?_ ?_
      · exact ⟨_, [], [0], [], _, _, rfl, h0, rfl, rfl, Dfs.start hf, World.ownsRow_nil _ _ _ _, hsv, h, hx⟩
      rintro c e w ⟨D, S, out, ov, sv, hc, h0, h8, h9, hd, hov, hsv, h, hx⟩
      have hdb := hd.bound
      have hol := hd.len
      refine W.seq ?_
      refine W.seq ?_
      refine W.region ?_
      refine WL.c rfl (o_mvh h9 ?_)
      refine WL.c rfl (o_lenR TI75 rfl (Sl.own hsv) ?_)
      refine WL.c rfl (o_gt rfl rfl ?_)
      refine WL.nil ?_
      refine W.cond rfl (fun c49 => ?_) (fun c49 => ?_)
      · try simp only [decide_eq_true_eq, decide_eq_false_iff_not, Bool.not_eq_true', Bool.not_eq_false', Bool.and_eq_true, Bool.or_eq_true, Bool.and_eq_false_iff, Bool.or_eq_false_iff] at c49
        obtain ⟨S1, i, rfl⟩ := last_of (S := S) (by omega)
        have hS1 : (S1 ++ [i]).length = S1.length + 1 := by simp
        obtain ⟨sg, sc, rfl, hsg⟩ := own_some hsv (by omega)
        have hsc : S1.length + 1 ≤ sc := by obtain ⟨a, c, h1, h2⟩ := own_form hsv; cases h1; omega
        have hi1 : i < A.length := hd.lt i (by simp)
        obtain ⟨x, hxA⟩ : ∃ x, A[i]? = some x := ⟨_, List.getElem?_eq_getElem hi1⟩
        have hgd : A.getD i ⟨0, 0, 0, 0⟩ = x := by rw [List.getD_eq_getElem?_getD, hxA]; rfl
        have hkl : kidsN A i ≤ A.length := List.countP_le_length
        refine W.skip ?_
        refine W.block ?_
        refine W.seq ?_
        refine W.region ?_
        refine WL.c rfl (o_mvh h9 ?_)
        refine WL.c rfl (o_mvh h9 ?_)
        refine WL.c rfl (o_lenR TI75 rfl (Sl.own hsv) ?_)
        refine WL.c rfl (o_subi rfl rfl (by omega) ?_)
        refine WL.c rfl (o_ixB (i := S1.length) TI75 TI3 (show _ = Value.slice (some ⟨sg, 0, none⟩) (S1 ++ [i]).length sc from by first | rfl | assumption) (by show Value.int _ _ = _; congr 1; omega) (by omega) ?_)
        refine WL.c rfl (o_ld TI3 rfl rfl (own_cell (j := 0 + S1.length * 1) hsv (by rw [Nat.zero_add, Nat.mul_one]; exact ints_get)) ?_)
        refine WL.c rfl (o_ash (show _ = Value.int _ _ from rfl) ?_)
        refine WL.nil ?_
        refine W.seq ?_
        refine W.region ?_
        refine WL.c rfl (o_mvh h9 ?_)
        refine WL.c rfl (o_mvh h9 ?_)
        refine WL.c rfl (o_lenR TI75 rfl (Sl.own hsv) ?_)
        refine WL.c rfl (o_subi rfl rfl (by omega) ?_)
        refine WL.c rfl (o_sl0 TI75 TI3 (h := S1.length) (show _ = Value.slice (some ⟨sg, 0, none⟩) (S1 ++ [i]).length sc from by first | rfl | assumption) (by show Value.int _ _ = _; congr 1; omega) (by omega) ?_)
        refine WL.c rfl (o_ash (by first | exact (show _ = Value.slice _ _ _ from rfl) | exact rfl) ?_)
        refine WL.nil ?_
        have hsv1 := own_take hsv (show S1.length ≤ (S1 ++ [i]).length by omega)
        rw [Nat.mul_one, show (ints (S1 ++ [i])).take S1.length = ints S1 by rw [ints_snoc]; exact List.take_left' (by simp [ints])] at hsv1
        clear hsv
        have hsv := hsv1
        clear hsv1
        obtain ⟨nb, nc, hcv, hxc⟩ := h.at hxA
        refine W.seq ?_
        refine W.region ?_
        refine WL.c rfl (o_mvh h0 ?_)
        refine WL.c rfl (o_nil rfl ?_)
        refine WL.c rfl (o_fa 0 TI89 rfl TI87 rfl rfl ?_)
        refine WL.c rfl (o_ld TI87 rfl rfl (cell_of h.cell rfl) ?_)
        refine WL.c rfl (o_mvh (show _ = Value.int _ _ from rfl) ?_)
        refine WL.c rfl (o_ixB (i := i) TI87 TI92 (show _ = Value.slice (some ⟨nb, 0, none⟩) A.length nc from hcv) (show _ = Value.int .i64 (i : Int) from by first | rfl | assumption) (by omega) ?_)
        refine WL.c rfl (o_ldA TI92 rfl rfl hxc rfl ?_)
        refine WL.c rfl (o_alB TI92 ?_)
        intro wa hCa hxa hsa
        refine WL.u (o_stA TI92 rfl (show _ = Value.agg (clV A i x).toArray from rfl) rfl rfl hCa rfl ?_)
        intro wb11 hC11 hob hsb
        have hxb := Ext.own hxa (Nat.le_refl _) hob
        obtain ⟨b11, hb11⟩ : ∃ b, b = w.heap.size := ⟨_, rfl⟩
        rw [← hb11] at hC11 ⊢
        clear hCa hxa hsa hob hsb
        replace hx := hx.tr hxb
        replace h := h.ext hxb
        replace hov := own_ext hov hxb
        replace hsv := own_ext hsv hxb
        clear hxb
        refine WL.nil ?_
        refine W.seq ?_
        refine W.region ?_
        refine WL.c rfl (o_mvh h8 ?_)
        refine WL.c rfl (o_fa 0 TI92 rfl TI3 rfl rfl ?_)
        refine WL.c rfl (o_ld TI3 rfl rfl (cell_of hC11 rfl) ?_)
        refine WL.c rfl (o_fa 1 TI92 rfl TI43 rfl rfl ?_)
        refine WL.c rfl (o_ld TI43 rfl rfl (cell_of hC11 rfl) ?_)
        refine WL.c rfl (o_fa 2 TI92 rfl TI3 rfl rfl ?_)
        refine WL.c rfl (o_ld TI3 rfl rfl (cell_of hC11 rfl) ?_)
        refine WL.c rfl (o_bldC (cs := [_, _, _]) TI69 (Sizes.cons TI3 (Sizes.cons TI43 (Sizes.cons TI3 Sizes.nil))) rfl (lcp (show _ = Value.int _ _ from rfl) (lcp (show _ = Value.int _ _ from rfl) (lcp (show _ = Value.int _ _ from rfl) lnp))) rfl rfl ?_)
        refine WL.ap1 (w0.heap.size) rfl rfl TI30 TI69 (show _ = Value.agg #[.int .i64 x.kind, .int .u64 (x.n : Int), .int .i64 (kidsN A i : Int)] from rfl) rfl hov (by decide) (by decide) rfl (fun a ha => by simp [Value.cells] at ha; rcases ha with rfl | rfl | rfl <;> rfl) rfl (by rw [maxLen_eq]; omega) (by omega) hx.size ?_
        intro v77 w77 hown ho
        replace hsv := own_only hsv ho (fun b hb e => own_row_off hov hsv (by decide) b hb e)
        replace hC11 := ho.blk hC11 (own_off hov hC11 (by decide))
        replace h := h.only ho (fun j hj he => by have := (hov.lt j he).1; have := (h.lt j hj); have := hlow j hj; omega)
        replace hx := hx.trans' ho (fun _ h => h) (fun b hb he => by have := (hov.lt b he).1; omega)
        replace hown : w77.ownsRow w0.heap.size 69 3 v77 (out ++ [(⟨x.kind, x.n, (kidsN A i : Int)⟩ : Nd)]).length (nds (out ++ [(⟨x.kind, x.n, (kidsN A i : Int)⟩ : Nd)])) := by rw [nds_snoc, List.length_append]; exact hown
        clear hov
        have hov := hown
        clear hown ho
        refine WL.c rfl (o_ash (by first | exact (show _ = Value.slice _ _ _ from rfl) | exact rfl) ?_)
        refine WL.nil ?_
        refine W.seq ?_
        refine W.region ?_
        refine WL.c rfl (o_fa 2 TI92 rfl TI3 rfl rfl ?_)
        refine WL.c rfl (o_ld TI3 rfl rfl (cell_of hC11 rfl) ?_)
        refine WL.c rfl (o_subi rfl rfl (by omega) ?_)
        refine WL.c rfl (o_ash (show _ = Value.int _ _ from rfl) ?_)
        refine WL.nil ?_
        refine W.block ?_
        refine W.loop (fun e w => ∃ (m : Nat) (sv : Value), m ≤ kidsN A i ∧ e 0 = .pointer (some ⟨p, 0, none⟩) ∧ e 8 = v77 ∧ e 9 = sv ∧ e 10 = .int .i64 (i : Int) ∧ e 12 = .int .i64 ((m : Int) - 1) ∧ w.ownsRow w0.heap.size 69 3 v77 (out ++ [(⟨x.kind, x.n, (kidsN A i : Int)⟩ : Nd)]).length (nds (out ++ [(⟨x.kind, x.n, (kidsN A i : Int)⟩ : Nd)])) ∧ w.ownsRow w0.heap.size 3 1 sv (S1 ++ ((kidL A i).drop m).reverse).length (ints (S1 ++ ((kidL A i).drop m).reverse)) ∧ ArM w B p mb cv A ∧ Ext w0 w) (fun e w => (intOf (e 12) + 1).toNat) ?_ ?_
        · exact ⟨kidsN A i, _, Nat.le_refl _, h0, rfl, rfl, rfl, rfl, hov, by rw [List.drop_eq_nil_of_le (by rw [kidL_len]; exact Nat.le_refl _), List.reverse_nil, List.append_nil]; exact hsv, h, hx⟩
        rintro e w ⟨m, sv, hm, h0, h8, h9, h10, h12, hov, hsv, h, hx⟩
        have hm12 := h12
        refine W.seq ?_
        refine W.seq ?_
        refine W.region ?_
        refine WL.c rfl (o_mvh h12 ?_)
        refine WL.c rfl (o_ge rfl rfl ?_)
        refine WL.nil ?_
        refine W.cond rfl (fun c82 => ?_) (fun c82 => ?_)
        · try simp only [decide_eq_true_eq, decide_eq_false_iff_not, Bool.not_eq_true', Bool.not_eq_false', Bool.and_eq_true, Bool.or_eq_true, Bool.and_eq_false_iff, Bool.or_eq_false_iff] at c82
          obtain ⟨k, rfl⟩ : ∃ k, m = k + 1 := ⟨m - 1, by omega⟩
          replace h12 : e 12 = .int .i64 (k : Int) := h12.trans (by congr 1; omega)
          have hsl : (S1 ++ ((kidL A i).drop (k + 1)).reverse).length ≤ 2000000 := by rw [List.length_append, List.length_reverse, List.length_drop, kidL_len]; omega
          refine W.skip ?_
          refine W.seq ?_
          refine W.block ?_
          refine W.region ?_
          refine WL.c rfl (o_mvh h9 ?_)
          refine WL.c rfl (o_mvh h0 ?_)
          refine WL.c rfl (o_nil rfl ?_)
          refine WL.c rfl (o_fa 1 TI89 rfl TI86 rfl rfl ?_)
          refine WL.c rfl (o_ld TI86 rfl rfl (cell_of h.cell rfl) ?_)
          refine WL.c rfl (o_mvh h10 ?_)
          refine WL.c rfl (o_mvh h12 ?_)
          refine WL.c rfl (o_bldC (cs := [_, _]) TI97 (Sizes.cons TI3 (Sizes.cons TI3 Sizes.nil)) rfl (lcp (show _ = Value.int _ _ from rfl) (lcp (show _ = Value.int _ _ from rfl) lnp)) rfl rfl ?_)
          refine WL.c rfl (o_lk MT86 rfl h.map rfl (key_pk ⟨i, k, by omega, by omega⟩) ?_)
          refine WL.ap1 (w0.heap.size) rfl rfl TI75 TI3 (show _ = Value.int _ _ from rfl) rfl hsv (by decide) (by decide) rfl (fun a ha => by simp [Value.cells] at ha; rw [ha]; rfl) rfl (by rw [maxLen_eq]; omega) (by omega) hx.size ?_
          intro v95 w95 hown ho
          replace hov := own_only hov ho (fun b hb e => own_row_off hsv hov (by decide) b hb e)
          replace h := h.only ho (fun j hj he => by have := (hsv.lt j he).1; have := hlow j hj; omega)
          replace hx := hx.trans' ho (fun _ h => h) (fun b hb he => by have := (hsv.lt b he).1; omega)
          replace hown : w95.ownsRow w0.heap.size 3 1 v95 (S1 ++ ((kidL A i).drop k).reverse).length (ints (S1 ++ ((kidL A i).drop k).reverse)) := by
            rw [kidL_drop (by omega), ← List.append_assoc, ints_snoc, List.length_append, ← gA_getD A ⟨i, k, by omega, by omega⟩]
            exact hown
          clear hsv
          have hsv := hown
          clear hown ho
          refine WL.c rfl (o_ash (by first | exact (show _ = Value.slice _ _ _ from rfl) | exact rfl) ?_)
          refine WL.nil ?_
          refine W.region ?_
          refine WL.c rfl (o_mvh h12 ?_)
          refine WL.c rfl (o_subi rfl rfl (by omega) ?_)
          refine WL.c rfl (o_ash (show _ = Value.int _ _ from rfl) ?_)
          refine WL.nil ?_
          refine ⟨⟨k, _, by omega, h0, h8, rfl, h10, rfl, hov, hsv, h, hx⟩, ?_⟩
          show ((k : Int) - 1 + 1).toNat < _
          rw [hm12]; simp only [intOf]; omega
        · try simp only [decide_eq_true_eq, decide_eq_false_iff_not, Bool.not_eq_true', Bool.not_eq_false', Bool.and_eq_true, Bool.or_eq_true, Bool.and_eq_false_iff, Bool.or_eq_false_iff] at c82
          obtain rfl : m = 0 := by omega
          rw [List.drop_zero] at hsv
          refine W.exit ?_
          have hd2 := hd.step h.good hf
          rw [hgd] at hd2
          have hll : (D ++ [i]).length = D.length + 1 := by simp
          exact ⟨A.length - (D ++ [i]).length, by rw [hll]; omega, _, _, _, _, _, rfl, h0, h8, h9, hd2, hov, hsv, h, hx⟩
      · try simp only [decide_eq_true_eq, decide_eq_false_iff_not, Bool.not_eq_true', Bool.not_eq_false', Bool.and_eq_true, Bool.or_eq_true, Bool.and_eq_false_iff, Bool.or_eq_false_iff] at c49
        obtain rfl : S = [] := List.eq_nil_of_length_eq_zero (by omega)
        have hout : out = told A A.length 0 := by have := hd.eq; simpa using this
        refine W.exit ?_
        refine W.seq ?_
        refine W.region ?_
        refine WL.c rfl (o_mvh h8 ?_)
        refine WL.c rfl (o_ash (by first | exact (show _ = Value.slice _ _ _ from rfl) | exact rfl) ?_)
        refine WL.c rfl (o_ash (show _ = Value.int _ _ from rfl) ?_)
        refine WL.nil ?_
        refine W.ret ?_
        refine ret2v rfl rfl (show _ = Value.int _ _ from rfl) ?_
        exact ⟨hx, fun hn => absurd hf hn, fun _ => ⟨by rw [← hout]; omega, ov, rfl, by rw [← hout]; exact hov⟩⟩
end Go.Proofs.YtgmjfcekeglhjaaDoor

set_option linter.unusedSimpArgs false
set_option linter.unusedVariables false
set_option maxRecDepth 100000
namespace Go.Proofs.YtgmjfcekeglhjaaDoor
open Go Go.Vc Go.RowKit Go.Proofs

def tA : Vt := .node ⟨3, 0, 3⟩ (.cons (.node ⟨4, 0, 2⟩ (.cons (.node ⟨1, 1, 0⟩ .nil) (.cons (.node ⟨5, 0, 0⟩ .nil) .nil))) (.cons (.node ⟨6, 5, 1⟩ (.cons (.node ⟨2, 1, 0⟩ .nil) .nil)) (.cons (.node ⟨5, 0, 1⟩ (.cons (.node ⟨1, 3, 0⟩ .nil) .nil)) .nil)))
def LA : List Nd := [⟨3, 0, 3⟩, ⟨4, 0, 2⟩, ⟨1, 1, 0⟩, ⟨5, 0, 0⟩, ⟨6, 5, 1⟩, ⟨2, 1, 0⟩, ⟨5, 0, 1⟩, ⟨1, 3, 0⟩]
theorem tA_flat : tA.flat = LA := rfl
theorem tA_wf : tA.wf := by
  simp only [tA, Vt.wf, Vts.wf, rightN, numB, leastK, mostK, Vts.len]
  decide
theorem tA_n : NOk tA.flat := by
  rw [tA_flat]
  intro x hx
  simp only [LA, List.mem_cons, List.not_mem_nil, or_false] at hx
  rcases hx with rfl | rfl | rfl | rfl | rfl | rfl | rfl | rfl <;> decide
theorem tA_txt : tA.txt = [91, 123, 49, 44, 32, 110, 111, 110, 101, 125, 44, 32, 60, 53, 58, 116, 114, 117, 101, 62, 44, 32, 115, 111, 109, 101, 32, 51, 93] := by
  simp [tA, Vt.txt, Vts.txtS, leafT, shutT, digL_lt]
theorem tA_par : parZ [91, 123, 49, 44, 32, 110, 111, 110, 101, 125, 44, 32, 60, 53, 58, 116, 114, 117, 101, 62, 44, 32, 115, 111, 109, 101, 32, 51, 93] = (some tA, 0) := by
  rw [← tA_txt]
  exact par_txt ⟨tA_wf, tA_n⟩
theorem tB_par : parZ [91, 49, 44, 32, 93] = (none, 4) := by rfl
theorem LA_next : nextV LA 1 = 4 := by decide
theorem ints_cell {ps : List Nat} {i : Nat} (hi : i < ps.length) : (ints ps)[i]? = some (.int .i64 (ps[i] : Int)) := by simp [ints, hi]
theorem Sl.intat {w : World} {v : Value} {ps : List Nat} (h : Sl w 1 v ps.length (ints ps)) {i : Nat} (hi : i < ps.length) : ∃ b o c, v = .slice (some ⟨b, o, none⟩) ps.length c ∧ w.cell? ⟨b, o + i * 1, none⟩ = some (.int .i64 (ps[i] : Int)) := by
  rcases h.val with ⟨hz, h0⟩ | ⟨b, o, c, rfl, hnc, hc⟩
  · omega
  · exact ⟨b, o, c, rfl, by rw [Nat.mul_one]; exact hc i _ (ints_cell hi)⟩
theorem num_spec (er : Int) (w0 : World) : Ca Tryd.prog 15 #[.int .i64 er] w0 (fun v w' => v = .int .i64 er ∧ w' = w0) := by
  refine Ca.of Tryd.func15 Tryd.ntmps15 rfl rfl ?_
  refine W.seq ?_
  refine W.region ?_
  refine WL.c rfl (o_ash (show _ = Value.int _ _ from rfl) ?_)
  refine WL.nil ?_
  refine W.seq ?_
  refine W.region ?_
  refine WL.c rfl (o_mvh (show _ = Value.int _ _ from rfl) ?_)
  refine WL.c rfl (o_ash (show _ = Value.int _ _ from rfl) ?_)
  refine WL.nil ?_
  refine W.ret ?_
  refine ret1v rfl (show _ = Value.int _ _ from rfl) ?_
  exact ⟨rfl, rfl⟩
theorem fault_spec (e1 a1 er at_ : Int) (w0 : World) : Ca Tryd.prog 25 #[.agg #[.int .i64 e1, .int .i64 a1], .int .i64 er, .int .i64 at_] w0 (fun v w' => v = .bool (decide (e1 = er ∧ a1 = at_)) ∧ Ext w0 w') := by
  refine Ca.of Tryd.func25 Tryd.ntmps25 rfl rfl ?_
  refine W.seq ?_
  refine W.region ?_
  refine WL.c rfl (o_boxB rfl ?_)
  intro w3 hC3 hx3 hs3
  obtain ⟨b3, hb3⟩ : ∃ b, b = w0.heap.size := ⟨_, rfl⟩
  rw [← hb3] at hC3 ⊢
  replace hC3 : w3.heap[b3]? = some (.cells ([.int .i64 e1, .int .i64 a1]).toArray 64 (0, 0)) := hC3
  have hx := hx3
  refine WL.c rfl (o_ash (show _ = Value.bool _ from rfl) ?_)
  refine WL.nil ?_
  refine W.seq ?_
  refine W.region ?_
  refine WL.c rfl (o_fa 0 TI64 rfl TI46 rfl rfl ?_)
  refine WL.c rfl (o_ld TI46 rfl rfl (cell_of hC3 rfl) ?_)
  refine WL.c rfl (o_call Tryd.call15 (lc rfl ln) ((num_spec e1 _).mono ?_))
  rintro v9 w9 ⟨rfl, rfl⟩
  refine WL.c rfl (o_mvh (show _ = Value.int _ _ from rfl) ?_)
  refine WL.c rfl (o_eq rfl rfl ?_)
  refine WL.c rfl (o_mvh (show _ = Value.bool _ from rfl) ?_)
  refine WL.sp 5 rfl (fun g12 => ?_) (fun g12 => ?_)
  · skip
    refine WL.g rfl (g12) rfl (o_fa 1 TI64 rfl TI3 rfl rfl ?_)
    refine WL.g rfl (g12) rfl (o_ld TI3 rfl rfl (cell_of hC3 rfl) ?_)
    refine WL.g rfl (g12) rfl (o_mvh (show _ = Value.int _ _ from rfl) ?_)
    refine WL.g rfl (g12) rfl (o_eq rfl rfl ?_)
    refine WL.c rfl (o_pickA rfl rfl ?_)
    refine WL.c rfl (o_ash (show _ = Value.bool _ from rfl) ?_)
    refine WL.nil ?_
    refine W.ret ?_
    refine ret1v rfl (show _ = Value.bool _ from rfl) ?_
    exact ⟨congrArg Value.bool (by rw [Bool.eq_iff_iff]; simp_all), hx⟩
  · skip
    refine WL.s rfl (g12) rfl ?_
    refine WL.s rfl (g12) rfl ?_
    refine WL.s rfl (g12) rfl ?_
    refine WL.s rfl (g12) rfl ?_
    refine WL.c rfl (o_pickF rfl (g12) ?_)
    refine WL.c rfl (o_ash (show _ = Value.bool _ from rfl) ?_)
    refine WL.nil ?_
    refine W.ret ?_
    refine ret1v rfl (show _ = Value.bool _ from rfl) ?_
    exact ⟨congrArg Value.bool (by rw [Bool.eq_iff_iff]; simp_all), hx⟩
set_option maxHeartbeats 2000000 in
theorem sameints_spec (ps qs : List Nat) (v u : Value) (w0 : World) (hS : Sl w0 1 v ps.length (ints ps)) (hT : Sl w0 1 u qs.length (ints qs)) (hl : ps.length ≤ 9223372036854775807) : Ca Tryd.prog 33 #[v, u] w0 (fun r w' => r = .bool (decide (ps = qs)) ∧ Ext w0 w') := by
  have hx : Ext w0 w0 := Only.refl _ _
  refine Ca.of Tryd.func33 Tryd.ntmps33 rfl rfl ?_
  refine W.seq ?_
  refine W.region ?_
  refine WL.c rfl (o_ash (show _ = Value.bool _ from rfl) ?_)
  refine WL.nil ?_
  refine W.seq ?_
  refine W.seq ?_
  refine W.region ?_
  refine WL.c rfl (o_mvh (by first | exact (show _ = Value.slice _ _ _ from rfl) | exact rfl) ?_)
  refine WL.c rfl (o_lenR TI75 rfl hS ?_)
  refine WL.c rfl (o_mvh (by first | exact (show _ = Value.slice _ _ _ from rfl) | exact rfl) ?_)
  refine WL.c rfl (o_lenR TI75 rfl hT ?_)
  refine WL.c rfl (o_ne rfl rfl ?_)
  refine WL.nil ?_
  refine W.cond rfl (fun c10 => ?_) (fun c10 => ?_)
  · try simp only [decide_eq_true_eq, decide_eq_false_iff_not, Bool.not_eq_true', Bool.not_eq_false', Bool.and_eq_true, Bool.or_eq_true, Bool.and_eq_false_iff, Bool.or_eq_false_iff] at c10
    have hn : ¬ ps.length = qs.length := by omega
    refine W.seq ?_
    refine W.region ?_
    refine WL.c rfl (o_ash (show _ = Value.bool _ from rfl) ?_)
    refine WL.nil ?_
    refine W.ret ?_
    refine ret1v rfl (show _ = Value.bool _ from rfl) ?_
    exact ⟨congrArg Value.bool (decide_eq_false (fun h => hn (by rw [h]))).symm, hx⟩
  · try simp only [decide_eq_true_eq, decide_eq_false_iff_not, Bool.not_eq_true', Bool.not_eq_false', Bool.and_eq_true, Bool.or_eq_true, Bool.and_eq_false_iff, Bool.or_eq_false_iff] at c10
    have hn : ps.length = qs.length := by omega
    refine W.skip ?_
    refine W.seq ?_
    refine W.seq ?_
    refine W.region ?_
    refine WL.c rfl (o_ash (show _ = Value.int _ _ from rfl) ?_)
    refine WL.nil ?_
    refine W.block ?_
    refine W.loop (fun e w => ∃ i : Nat, i ≤ ps.length ∧ e 0 = v ∧ e 1 = u ∧ e 5 = .int .i64 (i : Int) ∧ ps.take i = qs.take i ∧ Ext w0 w) (fun e w => ps.length - (intOf (e 5)).toNat) ?_ ?_
    · exact ⟨0, Nat.zero_le _, rfl, rfl, rfl, rfl, hx⟩
    rintro e w ⟨i, hi, h0, h1, h5, htk, hx⟩
    have hm5 := h5
    refine W.seq ?_
    refine W.seq ?_
    refine W.region ?_
    refine WL.c rfl (o_mvh h5 ?_)
    refine WL.c rfl (o_mvh h0 ?_)
    refine WL.c rfl (o_lenR TI75 rfl (hS.ext hx) ?_)
    refine WL.c rfl (o_lt rfl rfl ?_)
    refine WL.nil ?_
    refine W.cond rfl (fun c14 => ?_) (fun c14 => ?_)
    · try simp only [decide_eq_true_eq, decide_eq_false_iff_not, Bool.not_eq_true', Bool.not_eq_false', Bool.and_eq_true, Bool.or_eq_true, Bool.and_eq_false_iff, Bool.or_eq_false_iff] at c14
      have hi1 : i < ps.length := by omega
      have hi2 : i < qs.length := by omega
      obtain ⟨ub, uo, uc, hv, huc⟩ := Sl.intat (hS.ext hx) hi1
      obtain ⟨vb, vo, vc, hu, hvc⟩ := Sl.intat (hT.ext hx) hi2
      rw [hv] at h0
      rw [hu] at h1
      refine W.skip ?_
      refine W.seq ?_
      refine W.block ?_
      refine W.seq ?_
      refine W.quiet rfl (by kernel_rfl) ?_
      refine WQ.c rfl ((QO.o rfl fun _ => o_mvh h0 ⟨rfl, rfl⟩)) ?_
      refine WQ.c rfl ((QO.o rfl fun _ => o_mvh h5 ⟨rfl, rfl⟩)) ?_
      refine WQ.c rfl ((QO.o rfl fun _ => o_ixB (i := i) TI75 TI3 (show _ = Value.slice (some ⟨ub, uo, none⟩) ps.length uc from by first | rfl | assumption) (show _ = Value.int .i64 (i : Int) from by first | rfl | assumption) (by omega) ⟨rfl, rfl⟩)) ?_
      refine WQ.c rfl ((QO.o rfl fun _ => o_ld TI3 rfl rfl huc ⟨rfl, rfl⟩)) ?_
      refine WQ.c rfl ((QO.o rfl fun _ => o_mvh h1 ⟨rfl, rfl⟩)) ?_
      refine WQ.c rfl ((QO.o rfl fun _ => o_mvh h5 ⟨rfl, rfl⟩)) ?_
      refine WQ.c rfl ((QO.o rfl fun _ => o_ixB (i := i) TI75 TI3 (show _ = Value.slice (some ⟨vb, vo, none⟩) qs.length vc from by first | rfl | assumption) (show _ = Value.int .i64 (i : Int) from by first | rfl | assumption) (by omega) ⟨rfl, rfl⟩)) ?_
      refine WQ.c rfl ((QO.o rfl fun _ => o_ld TI3 rfl rfl hvc ⟨rfl, rfl⟩)) ?_
      refine WQ.c rfl ((QO.o rfl fun _ => o_ne rfl rfl ⟨rfl, rfl⟩)) ?_
      refine WQ.nil ?_
      intro nq
      refine W.cond rfl (fun c25 => ?_) (fun c25 => ?_)
      · try simp only [decide_eq_true_eq, decide_eq_false_iff_not, Bool.not_eq_true', Bool.not_eq_false', Bool.and_eq_true, Bool.or_eq_true, Bool.and_eq_false_iff, Bool.or_eq_false_iff] at c25
        have hne : ¬ ps[i] = qs[i] := by omega
        refine W.seq ?_
        refine W.region ?_
        refine WL.c rfl (o_ash (show _ = Value.bool _ from rfl) ?_)
        refine WL.nil ?_
        refine W.ret ?_
        refine ret1v rfl (show _ = Value.bool _ from rfl) ?_
        exact ⟨congrArg Value.bool (decide_eq_false (fun h => hne (by subst h; rfl))).symm, hx.tr (Only.drewN _ _)⟩
      · try simp only [decide_eq_true_eq, decide_eq_false_iff_not, Bool.not_eq_true', Bool.not_eq_false', Bool.and_eq_true, Bool.or_eq_true, Bool.and_eq_false_iff, Bool.or_eq_false_iff] at c25
        have hxy : ps[i] = qs[i] := by omega
        refine W.skip ?_
        refine W.region ?_
        refine WL.c rfl (o_mvh h5 ?_)
        refine WL.c rfl (o_addi rfl rfl (by omega) ?_)
        refine WL.c rfl (o_ash (show _ = Value.int _ _ from rfl) ?_)
        refine WL.nil ?_
        have hxd := Only.drewN w nq
        refine ⟨⟨i + 1, by omega, h0.trans hv.symm, h1.trans hu.symm, rfl, ?_, hx.tr hxd⟩, ?_⟩
        · rw [List.take_succ_eq_append_getElem hi1, List.take_succ_eq_append_getElem hi2, htk, hxy]
        · show ps.length - ((i : Int) + 1).toNat < _
          rw [hm5]; simp [intOf]; omega
    · try simp only [decide_eq_true_eq, decide_eq_false_iff_not, Bool.not_eq_true', Bool.not_eq_false', Bool.and_eq_true, Bool.or_eq_true, Bool.and_eq_false_iff, Bool.or_eq_false_iff] at c14
      have hi1 : i = ps.length := by omega
      refine W.exit ?_
      refine W.seq ?_
      refine W.region ?_
      refine WL.c rfl (o_ash (show _ = Value.bool _ from rfl) ?_)
      refine WL.nil ?_
      refine W.ret ?_
      refine ret1v rfl (show _ = Value.bool _ from rfl) ?_
      exact ⟨congrArg Value.bool (decide_eq_true (by rw [hi1, List.take_length, hn, List.take_length] at htk; exact htk)).symm, hx⟩
set_option maxHeartbeats 2000000 in
theorem requal_spec (L M : List Nd) (v u : Value) (w0 : World) (hS : Sl w0 3 v L.length (nds L)) (hT : Sl w0 3 u M.length (nds M)) (hl : L.length ≤ 5864062014805) : Ca Tryd.prog 18 #[v, u] w0 (fun r w' => r = .bool (decide (L = M)) ∧ Ext w0 w') := by
  have hx : Ext w0 w0 := Only.refl _ _
  refine Ca.of Tryd.func18 Tryd.ntmps18 rfl rfl ?_
  refine W.seq ?_
  refine W.region ?_
  refine WL.c rfl (o_ash (show _ = Value.bool _ from rfl) ?_)
  refine WL.nil ?_
  refine W.seq ?_
  refine W.seq ?_
  refine W.region ?_
  refine WL.c rfl (o_mvh (by first | exact (show _ = Value.slice _ _ _ from rfl) | exact rfl) ?_)
  refine WL.c rfl (o_lenR TI30 rfl hS ?_)
  refine WL.c rfl (o_mvh (by first | exact (show _ = Value.slice _ _ _ from rfl) | exact rfl) ?_)
  refine WL.c rfl (o_lenR TI30 rfl hT ?_)
  refine WL.c rfl (o_ne rfl rfl ?_)
  refine WL.nil ?_
  refine W.cond rfl (fun c10 => ?_) (fun c10 => ?_)
  · try simp only [decide_eq_true_eq, decide_eq_false_iff_not, Bool.not_eq_true', Bool.not_eq_false', Bool.and_eq_true, Bool.or_eq_true, Bool.and_eq_false_iff, Bool.or_eq_false_iff] at c10
    have hn : ¬ L.length = M.length := by omega
    refine W.seq ?_
    refine W.region ?_
    refine WL.c rfl (o_ash (show _ = Value.bool _ from rfl) ?_)
    refine WL.nil ?_
    refine W.ret ?_
    refine ret1v rfl (show _ = Value.bool _ from rfl) ?_
    exact ⟨congrArg Value.bool (decide_eq_false (fun h => hn (by rw [h]))).symm, hx⟩
  · try simp only [decide_eq_true_eq, decide_eq_false_iff_not, Bool.not_eq_true', Bool.not_eq_false', Bool.and_eq_true, Bool.or_eq_true, Bool.and_eq_false_iff, Bool.or_eq_false_iff] at c10
    have hn : L.length = M.length := by omega
    refine W.skip ?_
    refine W.seq ?_
    refine W.seq ?_
    refine W.region ?_
    refine WL.c rfl (o_ash (show _ = Value.int _ _ from rfl) ?_)
    refine WL.nil ?_
    refine W.block ?_
    refine W.loop (fun e w => ∃ i : Nat, i ≤ L.length ∧ e 0 = v ∧ e 1 = u ∧ e 5 = .int .i64 (i : Int) ∧ L.take i = M.take i ∧ Ext w0 w) (fun e w => L.length - (intOf (e 5)).toNat) ?_ ?_
    · exact ⟨0, Nat.zero_le _, rfl, rfl, rfl, rfl, hx⟩
    rintro e w ⟨i, hi, h0, h1, h5, htk, hx⟩
    have hm5 := h5
    refine W.seq ?_
    refine W.seq ?_
    refine W.region ?_
    refine WL.c rfl (o_mvh h5 ?_)
    refine WL.c rfl (o_mvh h0 ?_)
    refine WL.c rfl (o_lenR TI30 rfl (hS.ext hx) ?_)
    refine WL.c rfl (o_lt rfl rfl ?_)
    refine WL.nil ?_
    refine W.cond rfl (fun c14 => ?_) (fun c14 => ?_)
    · try simp only [decide_eq_true_eq, decide_eq_false_iff_not, Bool.not_eq_true', Bool.not_eq_false', Bool.and_eq_true, Bool.or_eq_true, Bool.and_eq_false_iff, Bool.or_eq_false_iff] at c14
      have hi1 : i < L.length := by omega
      have hi2 : i < M.length := by omega
      obtain ⟨ub, uo, uc, hv, huc⟩ := Sl.nd (hS.ext hx) hi1
      obtain ⟨vb, vo, vc, hu, hvc⟩ := Sl.nd (hT.ext hx) hi2
      rw [hv] at h0
      rw [hu] at h1
      refine W.skip ?_
      refine W.seq ?_
      refine W.block ?_
      refine W.seq ?_
      refine W.quiet rfl (by kernel_rfl) ?_
      refine WQ.c rfl ((QO.o rfl fun _ => o_mvh h0 ⟨rfl, rfl⟩)) ?_
      refine WQ.c rfl ((QO.o rfl fun _ => o_mvh h5 ⟨rfl, rfl⟩)) ?_
      refine WQ.c rfl ((QO.o rfl fun _ => o_ixB (i := i) TI30 TI69 (show _ = Value.slice (some ⟨ub, uo, none⟩) L.length uc from by first | rfl | assumption) (show _ = Value.int .i64 (i : Int) from by first | rfl | assumption) (by omega) ⟨rfl, rfl⟩)) ?_
      refine WQ.c rfl ((QO.o rfl fun _ => o_ldA TI69 rfl rfl (Cells.only (F := No) huc (Only.drewN _ _) (fun h => h)) rfl ⟨rfl, rfl⟩)) ?_
      refine WQ.c rfl ((QO.o rfl fun _ => o_mvh h1 ⟨rfl, rfl⟩)) ?_
      refine WQ.c rfl ((QO.o rfl fun _ => o_mvh h5 ⟨rfl, rfl⟩)) ?_
      refine WQ.c rfl ((QO.o rfl fun _ => o_ixB (i := i) TI30 TI69 (show _ = Value.slice (some ⟨vb, vo, none⟩) M.length vc from by first | rfl | assumption) (show _ = Value.int .i64 (i : Int) from by first | rfl | assumption) (by omega) ⟨rfl, rfl⟩)) ?_
      refine WQ.c rfl ((QO.o rfl fun _ => o_ldA TI69 rfl rfl (Cells.only (F := No) hvc (Only.drewN _ _) (fun h => h)) rfl ⟨rfl, rfl⟩)) ?_
      refine WQ.c rfl ((QO.o rfl fun _ => o_neR TI69 (by kernel_rfl) (by kernel_rfl) rfl rfl (.int TI3 (by decide) rfl rfl (.int TI43 (by decide) rfl rfl (.int TI3 (by decide) rfl rfl .nil))) ⟨rfl, rfl⟩)) ?_
      refine WQ.nil ?_
      intro nq
      refine W.cond rfl (fun c25 => ?_) (fun c25 => ?_)
      · try simp only [decide_eq_true_eq, decide_eq_false_iff_not, Bool.not_eq_true', Bool.not_eq_false', Bool.and_eq_true, Bool.or_eq_true, Bool.and_eq_false_iff, Bool.or_eq_false_iff] at c25
        have hne : ¬ L[i] = M[i] := fun h => by rw [h] at c25; simp at c25
        refine W.seq ?_
        refine W.region ?_
        refine WL.c rfl (o_ash (show _ = Value.bool _ from rfl) ?_)
        refine WL.nil ?_
        refine W.ret ?_
        refine ret1v rfl (show _ = Value.bool _ from rfl) ?_
        exact ⟨congrArg Value.bool (decide_eq_false (fun h => hne (by subst h; rfl))).symm, hx.tr (Only.drewN _ _)⟩
      · try simp only [decide_eq_true_eq, decide_eq_false_iff_not, Bool.not_eq_true', Bool.not_eq_false', Bool.and_eq_true, Bool.or_eq_true, Bool.and_eq_false_iff, Bool.or_eq_false_iff] at c25
        have hxy : L[i] = M[i] := nd_ext c25.1 (by omega) c25.2.2.1
        refine W.skip ?_
        refine W.region ?_
        refine WL.c rfl (o_mvh h5 ?_)
        refine WL.c rfl (o_addi rfl rfl (by omega) ?_)
        refine WL.c rfl (o_ash (show _ = Value.int _ _ from rfl) ?_)
        refine WL.nil ?_
        have hxd := Only.drewN w nq
        refine ⟨⟨i + 1, by omega, h0.trans hv.symm, h1.trans hu.symm, rfl, ?_, hx.tr hxd⟩, ?_⟩
        · rw [List.take_succ_eq_append_getElem hi1, List.take_succ_eq_append_getElem hi2, htk, hxy]
        · show L.length - ((i : Int) + 1).toNat < _
          rw [hm5]; simp [intOf]; omega
    · try simp only [decide_eq_true_eq, decide_eq_false_iff_not, Bool.not_eq_true', Bool.not_eq_false', Bool.and_eq_true, Bool.or_eq_true, Bool.and_eq_false_iff, Bool.or_eq_false_iff] at c14
      have hi1 : i = L.length := by omega
      refine W.exit ?_
      refine W.seq ?_
      refine W.region ?_
      refine WL.c rfl (o_ash (show _ = Value.bool _ from rfl) ?_)
      refine WL.nil ?_
      refine W.ret ?_
      refine ret1v rfl (show _ = Value.bool _ from rfl) ?_
      exact ⟨congrArg Value.bool (decide_eq_true (by rw [hi1, List.take_length, hn, List.take_length] at htk; exact htk)).symm, hx⟩
end Go.Proofs.YtgmjfcekeglhjaaDoor

set_option linter.unusedSimpArgs false
set_option linter.unusedVariables false
set_option maxRecDepth 100000
namespace Go.Proofs.YtgmjfcekeglhjaaDoor
open Go Go.Vc Go.RowKit Go.Proofs
theorem Sl.ofRow {w : World} {s n : Nat} {cs : List Value} {el : TypeId} (hl : cs.length = n * s) : Sl (w.alloc (.cells cs.toArray el)) s (.slice (some ⟨w.heap.size, 0, none⟩) n n) n cs :=
  Sl.blk (heap_alloc_new w _) 0 cs hl (Nat.le_refl _) (fun i v h => by simpa using h)

theorem LA_chk2 : chkV LA = (0, 0) := by decide
theorem LA_th1 : thereV LA 1 = 0 := by decide
theorem LA_th3 : thereV LA 3 = 0 := by decide
theorem LA_kid : kidE LA 0 2 = 0 ∧ kidP LA 1 2 = 6 := by decide
theorem LA_way : Way LA 3 0 [0, 1] := .step (k := 0) (by decide) (by decide) (by decide) (.step (k := 1) (by decide) (by decide) (by decide) .done)
theorem LA_len : LA.length ≤ 5864062014805 := by decide
theorem tA_n2 : NOk LA := tA_n
def A1 : List Mk := [⟨3, 0, -1, 0⟩]
def A2 : List Mk := [⟨3, 0, -1, 0⟩, ⟨1, 9, 0, 0⟩]
theorem add_1 : addV [] (-1) 0 3 0 = (0, 0, A1) := by decide
theorem add_2 : addV A1 0 0 1 9 = (1, 0, A2) := by decide
theorem add_3 : addV A2 1 0 1 9 = (0, 40, A2) := by decide
theorem A2_full : fullP A2 := ⟨by decide, fun i x hx => by
  match i, hx with
  | 0, hx => simp only [A2, List.getElem?_cons_zero, Option.some.injEq] at hx; subst hx; unfold badC; decide
  | 1, hx => simp only [A2, List.getElem?_cons_succ, List.getElem?_cons_zero, Option.some.injEq] at hx; subst hx; unfold badC; decide
  | i + 2, hx => simp [A2] at hx⟩
theorem A2_told : told A2 A2.length 0 = [⟨3, 0, 1⟩, ⟨1, 9, 0⟩] := by decide

theorem ArM.szB {w : World} {B p mb : Nat} {cv : Value} {A : List Mk} (h : ArM w B p mb cv A) : B ≤ w.heap.size := by
  have := (h.lt p (.inl rfl)).1
  have := (h.lt p (.inl rfl)).2
  omega

set_option maxHeartbeats 16000000 in
theorem awake_spec (w0 : World) (hT : Tab w0) (h00 : 0 < w0.heap.size) : Ca Tryd.prog 9 #[] w0 (fun r w' => r = .bool true ∧ Ext w0 w') := by
  have hx : Ext w0 w0 := Only.refl _ _
  refine Ca.of Tryd.func9 Tryd.ntmps9 rfl rfl ?_
  refine W.seq ?_
  refine W.region ?_
  refine WL.c rfl (o_ash (show _ = Value.bool _ from rfl) ?_)
  refine WL.nil ?_
  refine W.seq ?_
  refine W.region ?_
  refine WL.c rfl (o_call Tryd.call24 (lc rfl ln) ((vParse_spec [91, 123, 49, 44, 32, 110, 111, 110, 101, 125, 44, 32, 60, 53, 58, 116, 114, 117, 101, 62, 44, 32, 115, 111, 109, 101, 32, 51, 93] _ (by decide)).mono ?_))
  rintro v23 w23 ⟨hx23, -, hp⟩
  obtain ⟨-, hp2⟩ := hp (by decide)
  obtain ⟨hln, nv, rfl, hnv⟩ := hp2 tA (by rw [tA_par])
  rw [tA_flat] at hnv hln
  clear hp hp2
  replace hx := hx.tr hx23
  replace hT := hT.ext hx23
  refine WL.c rfl (o_mvh (by first | exact (show _ = Value.tuple _ from rfl) | exact rfl) ?_)
  refine WL.c rfl (o_ext rfl rfl ?_)
  refine WL.c rfl (o_ext rfl rfl ?_)
  refine WL.c rfl (o_alB TI64 ?_)
  intro wa hCa hxa hsa
  refine WL.c rfl (o_ash (by first | exact (show _ = Value.slice _ _ _ from rfl) | exact rfl) ?_)
  refine WL.u (o_stA TI64 rfl (show _ = Value.agg ([.int .i64 0, .int .i64 0]).toArray from rfl) rfl rfl hCa rfl ?_)
  intro wb2 hC2 hob hsb
  have hxb := Ext.own hxa (Nat.le_refl _) hob
  obtain ⟨b2, hb2⟩ : ∃ b, b = w23.heap.size := ⟨_, rfl⟩
  rw [← hb2] at hC2 ⊢
  clear hCa hxa hsa hob hsb
  replace hx := hx.tr hxb
  replace hT := hT.ext hxb
  replace hnv := own_ext hnv hxb
  clear hxb
  refine WL.nil ?_
  refine W.seq ?_
  refine W.region ?_
  refine WL.c rfl (o_mvh (by first | exact (show _ = Value.slice _ _ _ from rfl) | exact rfl) ?_)
  refine WL.c rfl (o_call Tryd.call23 (lc rfl ln) ((vPrint_spec LA nv _ (Sl.own hnv) LA_len tA_n2 hT (by have := hx.size; omega)).mono ?_))
  rintro v28 w28 ⟨hx28, -, hp28⟩
  replace hp28 := hp28 tA tA_wf tA_flat
  rw [tA_txt, if_neg (by decide)] at hp28
  subst hp28
  replace hx := hx.tr hx28
  replace hT := hT.ext hx28
  replace hnv := own_ext hnv hx28
  replace hC2 := hx28.blk hC2 (fun h => h)
  refine WL.c rfl (o_mvh (by first | exact (show _ = Value.tuple _ from rfl) | exact rfl) ?_)
  refine WL.c rfl (o_ext rfl rfl ?_)
  refine WL.c rfl (o_ext rfl rfl ?_)
  refine WL.c rfl (o_ash (show _ = Value.string _ from rfl) ?_)
  refine WL.c rfl (o_ash (show _ = Value.int _ _ from rfl) ?_)
  refine WL.nil ?_
  refine W.seq ?_
  refine W.seq ?_
  refine W.region ?_
  refine WL.c rfl (o_ldA TI64 rfl rfl (show Cells _ b2 0 [.int .i64 0, .int .i64 0] from Cells.of hC2 0 _ (by simp)) rfl ?_)
  refine WL.c rfl (o_call Tryd.call25 (lc rfl (lc rfl (lc rfl ln))) ((fault_spec 0 0 0 0 _).mono ?_))
  rintro v32 w32 ⟨rfl, hx32⟩
  replace hx := hx.tr hx32
  replace hT := hT.ext hx32
  replace hnv := own_ext hnv hx32
  replace hC2 := hx32.blk hC2 (fun h => h)
  refine WL.c rfl (o_not' rfl ?_)
  refine WL.c rfl (o_mvh (show _ = Value.bool _ from rfl) ?_)
  refine WL.g rfl (by decide) rfl (o_mvh (by first | exact (show _ = Value.slice _ _ _ from rfl) | exact rfl) ?_)
  refine WL.g rfl (by decide) rfl (o_lenR TI30 rfl (Sl.own hnv) ?_)
  refine WL.g rfl (by decide) rfl (o_ne rfl rfl ?_)
  refine WL.c rfl (o_pickO rfl rfl ?_)
  refine WL.c rfl (o_mvh (show _ = Value.bool _ from rfl) ?_)
  refine WL.g rfl (by decide) rfl (o_mvh (show _ = Value.int _ _ from rfl) ?_)
  refine WL.g rfl (by decide) rfl (o_call Tryd.call15 (lc rfl ln) ((num_spec 0 _).mono ?_))
  rintro v41 w41 ⟨rfl, rfl⟩
  refine WL.g rfl (by decide) rfl (o_ne rfl rfl ?_)
  refine WL.c rfl (o_pickO rfl rfl ?_)
  refine WL.c rfl (o_mvh (show _ = Value.bool _ from rfl) ?_)
  refine WL.g rfl (by decide) rfl (o_mvh (show _ = Value.string _ from rfl) ?_)
  refine WL.g rfl (by decide) rfl (o_neT rfl rfl ?_)
  refine WL.c rfl (o_pickO rfl rfl ?_)
  refine WL.c rfl (o_mvh (show _ = Value.bool _ from rfl) ?_)
  refine WL.g rfl (by decide) rfl (o_mvh (by first | exact (show _ = Value.slice _ _ _ from rfl) | exact rfl) ?_)
  refine WL.g rfl (by decide) rfl (o_call Tryd.call27 (lc rfl ln) ((vcheck_spec LA nv _ (Sl.own hnv) LA_len).mono ?_))
  rintro v50 w50 ⟨rfl, hx50⟩
  rw [LA_chk2]
  replace hx := hx.tr hx50
  replace hT := hT.ext hx50
  replace hnv := own_ext hnv hx50
  replace hC2 := hx50.blk hC2 (fun h => h)
  refine WL.g rfl (by decide) rfl (o_call Tryd.call25 (lc rfl (lc rfl (lc rfl ln))) ((fault_spec 0 0 0 0 _).mono ?_))
  rintro v51 w51 ⟨rfl, hx51⟩
  replace hx := hx.tr hx51
  replace hT := hT.ext hx51
  replace hnv := own_ext hnv hx51
  replace hC2 := hx51.blk hC2 (fun h => h)
  refine WL.g rfl (by decide) rfl (o_not' rfl ?_)
  refine WL.c rfl (o_pickO rfl rfl ?_)
  refine WL.nil ?_
  refine W.condF' rfl (by decide) ?_
  refine W.skip ?_
  refine W.seq ?_
  refine W.region ?_
  refine WL.c rfl (o_mvh (by first | exact (show _ = Value.slice _ _ _ from rfl) | exact rfl) ?_)
  refine WL.c rfl (o_call Tryd.call31 (lc rfl (lc rfl ln)) ((vNext_spec LA nv 1 _ (Sl.own hnv) LA_len).mono ?_))
  rintro v56 w56 ⟨hv, hx56⟩
  rw [LA_th1, if_pos rfl, show (1 : Int).toNat = 1 from rfl, LA_next] at hv
  subst hv
  replace hx := hx.tr hx56
  replace hT := hT.ext hx56
  replace hnv := own_ext hnv hx56
  refine WL.c rfl (o_mvh (by first | exact (show _ = Value.tuple _ from rfl) | exact rfl) ?_)
  refine WL.c rfl (o_ext rfl rfl ?_)
  refine WL.c rfl (o_ext rfl rfl ?_)
  refine WL.c rfl (o_ash (show _ = Value.int _ _ from rfl) ?_)
  refine WL.c rfl (o_ash (show _ = Value.int _ _ from rfl) ?_)
  refine WL.nil ?_
  refine W.seq ?_
  refine W.region ?_
  refine WL.c rfl (o_mvh (by first | exact (show _ = Value.slice _ _ _ from rfl) | exact rfl) ?_)
  refine WL.c rfl (o_call Tryd.call30 (lc rfl (lc rfl (lc rfl ln))) ((vKid_spec LA nv 0 2 _ (Sl.own hnv) LA_len).mono ?_))
  rintro v61 w61 ⟨hv, hx61⟩
  rw [LA_kid.1, if_pos rfl, show (0 : Int).toNat + 1 = 1 from rfl, show (2 : Int).toNat = 2 from rfl, LA_kid.2] at hv
  subst hv
  replace hx := hx.tr hx61
  replace hT := hT.ext hx61
  replace hnv := own_ext hnv hx61
  refine WL.c rfl (o_mvh (by first | exact (show _ = Value.tuple _ from rfl) | exact rfl) ?_)
  refine WL.c rfl (o_ext rfl rfl ?_)
  refine WL.c rfl (o_ext rfl rfl ?_)
  refine WL.c rfl (o_ash (show _ = Value.int _ _ from rfl) ?_)
  refine WL.c rfl (o_ash (show _ = Value.int _ _ from rfl) ?_)
  refine WL.nil ?_
  refine W.seq ?_
  refine W.region ?_
  refine WL.c rfl (o_mvh (by first | exact (show _ = Value.slice _ _ _ from rfl) | exact rfl) ?_)
  refine WL.c rfl (o_call Tryd.call29 (lc rfl (lc rfl ln)) ((vPath_spec LA nv 3 _ (Sl.own hnv) LA_len).mono ?_))
  rintro v66 w66 ⟨pv, ps, hv, hpv, hw, -, -, hx66⟩
  rw [LA_th3] at hv hw
  subst hv
  obtain rfl := Way.uniq (hw rfl) LA_way
  replace hx := hx.tr hx66
  replace hT := hT.ext hx66
  replace hnv := own_ext hnv hx66
  refine WL.c rfl (o_mvh (by first | exact (show _ = Value.tuple _ from rfl) | exact rfl) ?_)
  refine WL.c rfl (o_ext rfl rfl ?_)
  refine WL.c rfl (o_ext rfl rfl ?_)
  refine WL.c rfl (o_ash (by first | exact (show _ = Value.slice _ _ _ from rfl) | exact rfl) ?_)
  refine WL.c rfl (o_ash (show _ = Value.int _ _ from rfl) ?_)
  refine WL.nil ?_
  refine W.seq ?_
  refine W.region ?_
  refine WL.c rfl (o_call Tryd.call24 (lc rfl ln) ((vParse_spec [91, 49, 44, 32, 93] _ (by decide)).mono ?_))
  rintro v70 w70 ⟨hx70, -, hp⟩
  obtain ⟨hp2, -⟩ := hp (by decide)
  rw [tB_par] at hp2
  obtain ⟨rfl, -⟩ := hp2 rfl
  clear hp
  replace hx := hx.tr hx70
  replace hT := hT.ext hx70
  replace hnv := own_ext hnv hx70
  replace hpv := own_ext hpv hx70
  refine WL.c rfl (o_mvh (by first | exact (show _ = Value.tuple _ from rfl) | exact rfl) ?_)
  refine WL.c rfl (o_ext rfl rfl ?_)
  refine WL.c rfl (o_ext rfl rfl ?_)
  refine WL.c rfl (o_alB TI64 ?_)
  intro wa hCa hxa hsa
  refine WL.c rfl (o_ash (by first | exact (show _ = Value.slice _ _ _ from rfl) | exact rfl) ?_)
  refine WL.u (o_stA TI64 rfl (show _ = Value.agg ([.int .i64 41, .int .i64 4]).toArray from rfl) rfl rfl hCa rfl ?_)
  intro wb12 hC12 hob hsb
  have hxb := Ext.own hxa (Nat.le_refl _) hob
  obtain ⟨b12, hb12⟩ : ∃ b, b = w70.heap.size := ⟨_, rfl⟩
  rw [← hb12] at hC12 ⊢
  clear hCa hxa hsa hob hsb
  replace hx := hx.tr hxb
  replace hT := hT.ext hxb
  replace hnv := own_ext hnv hxb
  replace hpv := own_ext hpv hxb
  clear hxb
  refine WL.nil ?_
  refine W.seq ?_
  refine W.seq ?_
  refine W.region ?_
  refine WL.c rfl (o_mvh (show _ = Value.int _ _ from rfl) ?_)
  refine WL.c rfl (o_ne rfl rfl ?_)
  refine WL.c rfl (o_mvh (show _ = Value.bool _ from rfl) ?_)
  refine WL.g rfl (by decide) rfl (o_mvh (show _ = Value.int _ _ from rfl) ?_)
  refine WL.g rfl (by decide) rfl (o_call Tryd.call15 (lc rfl ln) ((num_spec 0 _).mono ?_))
  rintro v77 w77 ⟨rfl, rfl⟩
  refine WL.g rfl (by decide) rfl (o_ne rfl rfl ?_)
  refine WL.c rfl (o_pickO rfl rfl ?_)
  refine WL.c rfl (o_mvh (show _ = Value.bool _ from rfl) ?_)
  refine WL.g rfl (by decide) rfl (o_mvh (show _ = Value.int _ _ from rfl) ?_)
  refine WL.g rfl (by decide) rfl (o_ne rfl rfl ?_)
  refine WL.c rfl (o_pickO rfl rfl ?_)
  refine WL.c rfl (o_mvh (show _ = Value.bool _ from rfl) ?_)
  refine WL.g rfl (by decide) rfl (o_mvh (show _ = Value.int _ _ from rfl) ?_)
  refine WL.g rfl (by decide) rfl (o_call Tryd.call15 (lc rfl ln) ((num_spec 0 _).mono ?_))
  rintro v86 w86 ⟨rfl, rfl⟩
  refine WL.g rfl (by decide) rfl (o_ne rfl rfl ?_)
  refine WL.c rfl (o_pickO rfl rfl ?_)
  refine WL.c rfl (o_mvh (show _ = Value.bool _ from rfl) ?_)
  refine WL.g rfl (by decide) rfl (o_mvh (show _ = Value.int _ _ from rfl) ?_)
  refine WL.g rfl (by decide) rfl (o_call Tryd.call15 (lc rfl ln) ((num_spec 0 _).mono ?_))
  rintro v91 w91 ⟨rfl, rfl⟩
  refine WL.g rfl (by decide) rfl (o_ne rfl rfl ?_)
  refine WL.c rfl (o_pickO rfl rfl ?_)
  refine WL.c rfl (o_mvh (show _ = Value.bool _ from rfl) ?_)
  refine WL.g rfl (by decide) rfl (o_mvh (by first | exact (show _ = Value.slice _ _ _ from rfl) | exact rfl) ?_)
  refine WL.g rfl (by decide) rfl (o_bsn (vs := (ints [0, 1])) (xs := [(.const (.int .i64 0)), (.const (.int .i64 1))]) TI75 TI3 rfl (lc (show _ = Value.int _ _ from rfl) (lc (show _ = Value.int _ _ from rfl) ln)) rfl rfl (by decide) (by decide) ?_)
  have hT96 : Sl (w91.alloc (.cells (ints [0, 1]).toArray 3)) 1 (.slice (some ⟨w91.heap.size, 0, none⟩) 2 2) 2 (ints [0, 1]) := Sl.ofRow rfl
  have hxr : Ext w91 (w91.alloc (.cells (ints [0, 1]).toArray 3)) := Only.alloc w91 _
  obtain ⟨g96, hg96⟩ : ∃ g, g = w91.heap.size := ⟨_, rfl⟩
  rw [← hg96] at hT96 ⊢
  generalize w91.alloc (.cells (ints [0, 1]).toArray 3) = w96 at hT96 hxr ⊢
  replace hx := hx.tr hxr
  replace hT := hT.ext hxr
  replace hnv := own_ext hnv hxr
  replace hpv := own_ext hpv hxr
  replace hC12 := hxr.blk hC12 (fun h => h)
  refine WL.g rfl (by decide) rfl (o_call Tryd.call33 (lc rfl (lc rfl ln)) ((sameints_spec [0, 1] [0, 1] _ _ _ (Sl.own hpv) hT96 (by decide)).mono ?_))
  rintro v97 w97 ⟨rfl, hx97⟩
  replace hx := hx.tr hx97
  replace hT := hT.ext hx97
  replace hnv := own_ext hnv hx97
  replace hC12 := hx97.blk hC12 (fun h => h)
  refine WL.g rfl (by decide) rfl (o_not' rfl ?_)
  refine WL.c rfl (o_pickO rfl rfl ?_)
  refine WL.c rfl (o_mvh (show _ = Value.bool _ from rfl) ?_)
  refine WL.g rfl (by decide) rfl (o_ldA TI64 rfl rfl (show Cells _ b12 0 [.int .i64 41, .int .i64 4] from Cells.of hC12 0 _ (by simp)) rfl ?_)
  refine WL.g rfl (by decide) rfl (o_call Tryd.call25 (lc rfl (lc rfl (lc rfl ln))) ((fault_spec 41 4 41 4 _).mono ?_))
  rintro v102 w102 ⟨rfl, hx102⟩
  replace hx := hx.tr hx102
  replace hT := hT.ext hx102
  replace hnv := own_ext hnv hx102
  refine WL.g rfl (by decide) rfl (o_not' rfl ?_)
  refine WL.c rfl (o_pickO rfl rfl ?_)
  refine WL.c rfl (o_mvh (show _ = Value.bool _ from rfl) ?_)
  refine WL.g rfl (by decide) rfl (o_mvh (by first | exact (show _ = Value.slice _ _ _ from rfl) | exact rfl) ?_)
  refine WL.g rfl (by decide) rfl (o_mvh (by first | exact (show _ = Value.slice _ _ _ from rfl) | exact rfl) ?_)
  refine WL.g rfl (by decide) rfl (o_call Tryd.call26 (lc rfl (lc rfl ln)) ((vEqual_spec LA LA nv nv _ (Sl.own hnv) (Sl.own hnv) LA_len).mono ?_))
  rintro v108 w108 ⟨rfl, hx108⟩
  replace hx := hx.tr hx108
  replace hT := hT.ext hx108
  replace hnv := own_ext hnv hx108
  refine WL.g rfl (by decide) rfl (o_not' rfl ?_)
  refine WL.c rfl (o_pickO rfl rfl ?_)
  refine WL.c rfl (o_mvh (show _ = Value.bool _ from rfl) ?_)
  refine WL.g rfl (by decide) rfl (o_mvh (by first | exact (show _ = Value.slice _ _ _ from rfl) | exact rfl) ?_)
  refine WL.g rfl (by decide) rfl (o_call Tryd.call26 (lc rfl (lc rfl ln)) ((vEqual_spec LA [] nv (.slice none 0 0) _ (Sl.own hnv) (Sl.own (World.ownsRow_nil _ w108.heap.size 69 3)) LA_len).mono ?_))
  rintro v113 w113 ⟨rfl, hx113⟩
  replace hx := hx.tr hx113
  replace hT := hT.ext hx113
  refine WL.c rfl (o_pickO rfl rfl ?_)
  refine WL.nil ?_
  refine W.condF' rfl (by decide) ?_
  refine W.skip ?_
  refine W.seq ?_
  refine W.region ?_
  refine WL.c rfl (o_call Tryd.call12 ln ((vnew_spec _).mono ?_))
  rintro v115 w115 ⟨p, mb, rfl, hA, hx115⟩
  obtain ⟨B, hB⟩ : ∃ B, B = w113.heap.size := ⟨_, rfl⟩
  rw [← hB] at hA
  have hB0 : w0.heap.size ≤ B := by rw [hB]; exact hx.size
  replace hx := hx.tr hx115
  replace hT := hT.ext hx115
  refine WL.c rfl (o_ash (by first | exact (show _ = Value.pointer _ from rfl) | exact rfl) ?_)
  refine WL.nil ?_
  refine W.seq ?_
  refine W.seq ?_
  refine W.region ?_
  refine WL.c rfl (o_mvh (by first | exact (show _ = Value.pointer _ from rfl) | exact rfl) ?_)
  refine WL.c rfl (o_eqN TI35 rfl rfl ?_)
  refine WL.nil ?_
  refine W.condF' rfl (rfl) ?_
  refine W.skip ?_
  refine W.seq ?_
  refine W.region ?_
  refine WL.c rfl (o_mvh (by first | exact (show _ = Value.pointer _ from rfl) | exact rfl) ?_)
  refine WL.c rfl (o_call Tryd.call13 (lc rfl (lc rfl (lc rfl (lc rfl (lc rfl ln))))) ((vadd_spec B p mb _ [] (-1) 0 3 0 _ hA (by decide)).mono ?_))
  rintro v120 w120 ⟨hv, cv2, hA2, ho2, -⟩
  rw [add_1] at hv hA2
  subst hv
  replace hx := hx.trans' ho2 (fun _ h => h) (fun k hk hF => by have := (hA.lt k hF).1; omega)
  clear hA ho2
  have hA := hA2
  clear hA2
  refine WL.c rfl (o_mvh (by first | exact (show _ = Value.tuple _ from rfl) | exact rfl) ?_)
  refine WL.c rfl (o_ext rfl rfl ?_)
  refine WL.c rfl (o_ext rfl rfl ?_)
  refine WL.c rfl (o_ash (show _ = Value.int _ _ from rfl) ?_)
  refine WL.c rfl (o_ash (show _ = Value.int _ _ from rfl) ?_)
  refine WL.nil ?_
  refine W.seq ?_
  refine W.region ?_
  refine WL.c rfl (o_mvh (by first | exact (show _ = Value.pointer _ from rfl) | exact rfl) ?_)
  refine WL.c rfl (o_mvh (show _ = Value.int _ _ from rfl) ?_)
  refine WL.c rfl (o_call Tryd.call13 (lc rfl (lc rfl (lc rfl (lc rfl (lc rfl ln))))) ((vadd_spec B p mb _ A1 (0) 0 1 9 _ hA (by decide)).mono ?_))
  rintro v126 w126 ⟨hv, cv2, hA2, ho2, -⟩
  rw [add_2] at hv hA2
  subst hv
  replace hx := hx.trans' ho2 (fun _ h => h) (fun k hk hF => by have := (hA.lt k hF).1; omega)
  clear hA ho2
  have hA := hA2
  clear hA2
  refine WL.c rfl (o_mvh (by first | exact (show _ = Value.tuple _ from rfl) | exact rfl) ?_)
  refine WL.c rfl (o_ext rfl rfl ?_)
  refine WL.c rfl (o_ext rfl rfl ?_)
  refine WL.c rfl (o_ash (show _ = Value.int _ _ from rfl) ?_)
  refine WL.c rfl (o_ash (show _ = Value.int _ _ from rfl) ?_)
  refine WL.nil ?_
  refine W.seq ?_
  refine W.region ?_
  refine WL.c rfl (o_mvh (by first | exact (show _ = Value.pointer _ from rfl) | exact rfl) ?_)
  refine WL.c rfl (o_call Tryd.call16 (lc rfl ln) ((vvalue_spec B p mb _ A2 _ hA hA.szB (by decide)).mono ?_))
  rintro v131 w131 ⟨hx131, -, hp⟩
  obtain ⟨-, wv, rfl, hwv⟩ := hp A2_full
  rw [A2_told] at hwv
  clear hp
  have hlow := fun k hk => (hA.lt k hk).2
  replace hA := hA.ext hx131
  replace hx := hx.tr hx131
  refine WL.c rfl (o_mvh (by first | exact (show _ = Value.tuple _ from rfl) | exact rfl) ?_)
  refine WL.c rfl (o_ext rfl rfl ?_)
  refine WL.c rfl (o_ext rfl rfl ?_)
  refine WL.c rfl (o_ash (by first | exact (show _ = Value.slice _ _ _ from rfl) | exact rfl) ?_)
  refine WL.c rfl (o_ash (show _ = Value.int _ _ from rfl) ?_)
  refine WL.nil ?_
  refine W.seq ?_
  refine W.region ?_
  refine WL.c rfl (o_mvh (by first | exact (show _ = Value.pointer _ from rfl) | exact rfl) ?_)
  refine WL.c rfl (o_mvh (show _ = Value.int _ _ from rfl) ?_)
  refine WL.c rfl (o_call Tryd.call13 (lc rfl (lc rfl (lc rfl (lc rfl (lc rfl ln))))) ((vadd_spec B p mb _ A2 (1) 0 1 9 _ hA (by decide)).mono ?_))
  rintro v137 w137 ⟨hv, cv2, hA2, ho2, -⟩
  rw [add_3] at hv hA2
  subst hv
  replace hx := hx.trans' ho2 (fun _ h => h) (fun k hk hF => by have := (hA.lt k hF).1; omega)
  replace hwv := own_only hwv ho2 (fun k hk hF => by have := (hwv.lt k hk).1; have := hlow k hF; omega)
  clear hA ho2
  have hA := hA2
  clear hA2
  refine WL.c rfl (o_mvh (by first | exact (show _ = Value.tuple _ from rfl) | exact rfl) ?_)
  refine WL.c rfl (o_ext rfl rfl ?_)
  refine WL.c rfl (o_ext rfl rfl ?_)
  refine WL.c rfl (o_ash (show _ = Value.int _ _ from rfl) ?_)
  refine WL.c rfl (o_ash (show _ = Value.int _ _ from rfl) ?_)
  refine WL.nil ?_
  refine W.seq ?_
  refine W.region ?_
  refine WL.c rfl (o_mvh (show _ = Value.int _ _ from rfl) ?_)
  refine WL.c rfl (o_eq rfl rfl ?_)
  refine WL.c rfl (o_mvh (show _ = Value.bool _ from rfl) ?_)
  refine WL.g rfl (by decide) rfl (o_mvh (show _ = Value.int _ _ from rfl) ?_)
  refine WL.g rfl (by decide) rfl (o_eq rfl rfl ?_)
  refine WL.c rfl (o_pickA rfl rfl ?_)
  refine WL.c rfl (o_mvh (show _ = Value.bool _ from rfl) ?_)
  refine WL.g rfl (by decide) rfl (o_mvh (show _ = Value.int _ _ from rfl) ?_)
  refine WL.g rfl (by decide) rfl (o_call Tryd.call15 (lc rfl ln) ((num_spec 0 _).mono ?_))
  rintro v148 w148 ⟨rfl, rfl⟩
  refine WL.g rfl (by decide) rfl (o_eq rfl rfl ?_)
  refine WL.c rfl (o_pickA rfl rfl ?_)
  refine WL.c rfl (o_mvh (show _ = Value.bool _ from rfl) ?_)
  refine WL.g rfl (by decide) rfl (o_mvh (show _ = Value.int _ _ from rfl) ?_)
  refine WL.g rfl (by decide) rfl (o_call Tryd.call15 (lc rfl ln) ((num_spec 0 _).mono ?_))
  rintro v153 w153 ⟨rfl, rfl⟩
  refine WL.g rfl (by decide) rfl (o_eq rfl rfl ?_)
  refine WL.c rfl (o_pickA rfl rfl ?_)
  refine WL.c rfl (o_mvh (show _ = Value.bool _ from rfl) ?_)
  refine WL.g rfl (by decide) rfl (o_mvh (show _ = Value.int _ _ from rfl) ?_)
  refine WL.g rfl (by decide) rfl (o_call Tryd.call15 (lc rfl ln) ((num_spec 0 _).mono ?_))
  rintro v158 w158 ⟨rfl, rfl⟩
  refine WL.g rfl (by decide) rfl (o_eq rfl rfl ?_)
  refine WL.c rfl (o_pickA rfl rfl ?_)
  refine WL.c rfl (o_mvh (show _ = Value.bool _ from rfl) ?_)
  refine WL.g rfl (by decide) rfl (o_mvh (show _ = Value.int _ _ from rfl) ?_)
  refine WL.g rfl (by decide) rfl (o_call Tryd.call15 (lc rfl ln) ((num_spec 40 _).mono ?_))
  rintro v163 w163 ⟨rfl, rfl⟩
  refine WL.g rfl (by decide) rfl (o_eq rfl rfl ?_)
  refine WL.c rfl (o_pickA rfl rfl ?_)
  refine WL.c rfl (o_mvh (show _ = Value.bool _ from rfl) ?_)
  refine WL.g rfl (by decide) rfl (o_mvh (by first | exact (show _ = Value.pointer _ from rfl) | exact rfl) ?_)
  refine WL.g rfl (by decide) rfl (o_call Tryd.call19 (lc rfl ln) ((vcount_spec B p mb _ A2 _ hA).mono ?_))
  rintro v168 w168 ⟨rfl, rfl⟩
  refine WL.g rfl (by decide) rfl (o_eq rfl rfl ?_)
  refine WL.c rfl (o_pickA rfl rfl ?_)
  refine WL.c rfl (o_mvh (show _ = Value.bool _ from rfl) ?_)
  refine WL.g rfl (by decide) rfl (o_mvh (by first | exact (show _ = Value.slice _ _ _ from rfl) | exact rfl) ?_)
  refine WL.g rfl (by decide) rfl (o_bldC (cs := [(.int .i64 3), (.int .u64 0), (.int .i64 1)]) TI69 (Sizes.cons TI3 (Sizes.cons TI43 (Sizes.cons TI3 Sizes.nil))) rfl (lcp (show _ = Value.int _ _ from rfl) (lcp (show _ = Value.int _ _ from rfl) lnp)) rfl rfl ?_)
  refine WL.g rfl (by decide) rfl (o_bldC (cs := [(.int .i64 1), (.int .u64 9), (.int .i64 0)]) TI69 (Sizes.cons TI3 (Sizes.cons TI43 (Sizes.cons TI3 Sizes.nil))) rfl (lcp (show _ = Value.int _ _ from rfl) (lcp (show _ = Value.int _ _ from rfl) lnp)) rfl rfl ?_)
  refine WL.g rfl (by decide) rfl (o_bsA (xs := [(.tmp 173), (.tmp 174)]) (cs := nds [⟨3, 0, 1⟩, ⟨1, 9, 0⟩]) TI30 TI69 rfl (lc rfl (lc rfl ln)) rfl rfl (by decide) (by decide) rfl ?_)
  have hT175 : Sl (w168.alloc (.cells (nds [⟨3, 0, 1⟩, ⟨1, 9, 0⟩]).toArray 69)) 3 (.slice (some ⟨w168.heap.size, 0, none⟩) 2 2) 2 (nds [⟨3, 0, 1⟩, ⟨1, 9, 0⟩]) := Sl.ofRow rfl
  have hxr : Ext w168 (w168.alloc (.cells (nds [⟨3, 0, 1⟩, ⟨1, 9, 0⟩]).toArray 69)) := Only.alloc w168 _
  obtain ⟨g175, hg175⟩ : ∃ g, g = w168.heap.size := ⟨_, rfl⟩
  rw [← hg175] at hT175 ⊢
  generalize w168.alloc (.cells (nds [⟨3, 0, 1⟩, ⟨1, 9, 0⟩]).toArray 69) = w175 at hT175 hxr ⊢
  replace hx := hx.tr hxr
  replace hwv := own_ext hwv hxr
  refine WL.g rfl (by decide) rfl (o_call Tryd.call18 (lc rfl (lc rfl ln)) ((requal_spec [⟨3, 0, 1⟩, ⟨1, 9, 0⟩] [⟨3, 0, 1⟩, ⟨1, 9, 0⟩] _ _ _ (Sl.own hwv) hT175 (by decide)).mono ?_))
  rintro v176 w176 ⟨rfl, hx176⟩
  replace hx := hx.tr hx176
  refine WL.c rfl (o_pickA rfl rfl ?_)
  refine WL.c rfl (o_ash (show _ = Value.bool _ from rfl) ?_)
  refine WL.nil ?_
  refine W.ret ?_
  refine ret1v rfl (show _ = Value.bool _ from rfl) ?_
  exact ⟨rfl, hx⟩
end Go.Proofs.YtgmjfcekeglhjaaDoor

set_option linter.unusedSimpArgs false
set_option linter.unusedVariables false
set_option maxRecDepth 100000
namespace Go.Proofs.YtgmjfcekeglhjaaDoor
open Go Go.Vc Go.RowKit Go.Proofs

theorem there_in {L : List Nd} (hc : (chkV L).1 = 0) {p : Nat} (hp : p < L.length) : thereV L p = 0 := by
  rw [thereV, if_neg (fun h => h hc), if_neg (by omega)]
theorem next_0 {L : List Nd} (hc : (chkV L).1 = 0) : nextV L 0 = L.length := by
  obtain ⟨t, hw, rfl⟩ := chk_ok.1 hc
  have := next_tree (v := t.flat) (p := 0) (t := t) (post := []) (by simp) hw
  rw [Nat.zero_add] at this
  exact this
theorem nds_at {L : List Nd} {p c : Nat} (hp : p < L.length) (hc : c < 3) : (nds L)[p * 3 + c]? = (ndV L[p])[c]? := by
  have h := nds_get (L := L.take p) (M := L.drop (p + 1)) (x := L[p]) hc
  rw [List.getElem_cons_drop hp, List.take_append_drop, List.length_take, Nat.min_eq_left (by omega)] at h
  exact h

theorem nds_take : ∀ (L : List Nd) (p : Nat), (nds L).take (p * 3) = nds (L.take p)
  | [], p => by simp [nds]
  | x :: L, 0 => by simp [nds]
  | x :: L, p + 1 => by
    have := nds_take L p
    rw [show nds (x :: L) = ndV x ++ nds L by simp [nds], List.take_succ_cons, show nds (x :: L.take p) = ndV x ++ nds (L.take p) by simp [nds], ← this, show (p + 1) * 3 = (ndV x).length + p * 3 by rw [ndV_len]; omega, List.take_length_add_append]

end Go.Proofs.YtgmjfcekeglhjaaDoor

set_option linter.unusedSimpArgs false
set_option linter.unusedVariables false
namespace Go.Vc
open Go Go.RowKit Go.ChangeShapes Go.WideShapes

theorem addr_add (a : Addr) (m k : Nat) : (a.add m).add k = a.add (m + k) := by
  unfold Addr.add
  by_cases hm : m = 0 <;> by_cases hk : k = 0 <;> simp [hm, hk, Nat.add_assoc]

theorem list_of {α : Type} (p : Nat → α → Prop) : ∀ n, (∀ i, i < n → ∃ o, p i o) → ∃ os : List α, os.length = n ∧ ∀ i (h : i < os.length), p i os[i]
  | 0, _ => ⟨[], rfl, fun i h => by simp at h⟩
  | n + 1, h => by
    obtain ⟨os, h1, h2⟩ := list_of p n (fun i hi => h i (by omega))
    obtain ⟨o, ho⟩ := h n (by omega)
    refine ⟨os ++ [o], by simp [h1], fun i hi => ?_⟩
    by_cases e : i < os.length
    · rw [List.getElem_append_left e]; exact h2 i e
    · simp at hi
      have e2 : i = n := by omega
      subst e2
      rw [List.getElem_append_right (by omega)]
      simpa [h1] using ho
theorem flatMap_get {α : Type} {cells : α → List Value} {s : Nat} (hlen : ∀ o, (cells o).length = s) : ∀ (os : List α) (idx : Nat) (v : Value), (os.flatMap cells)[idx]? = some v → ∃ i j, ∃ h : i < os.length, idx = i * s + j ∧ (cells os[i])[j]? = some v
  | [], idx, v, h => by simp at h
  | o :: os, idx, v, h => by
    rw [List.flatMap_cons] at h
    by_cases e : idx < s
    · rw [List.getElem?_append_left (by rw [hlen]; exact e)] at h
      exact ⟨0, idx, by simp, by omega, h⟩
    · rw [List.getElem?_append_right (by rw [hlen]; omega), hlen] at h
      obtain ⟨i, j, hi, h1, h2⟩ := flatMap_get hlen os (idx - s) v h
      refine ⟨i + 1, j, by simp; omega, ?_, by simpa using h2⟩
      rw [Nat.add_mul]; omega
/-- its weights are within reach -/
def Small {H : Type} (P : Program) (t : TypeId) (d : DataW H) : Prop := ∀ n ∈ d.weights P t, n ≤ reachBytes
theorem Small.top {H : Type} {P : Program} {ts : List TypeId} {ds : List (DataW H)} {j : Nat} {t : TypeId} {d : DataW H} (h : (DataW.weightsEach P ts ds).all (· ≤ reachBytes) = true) (ht : ts[j]? = some t) (hd : ds[j]? = some d) : Small P t d := fun n hn => by
  have := List.all_eq_true.1 h _ (DataW.weights_mem_each ht hd n hn)
  simpa using this
theorem Small.size {H : Type} {P : Program} {t e : TypeId} {elems spare : List (DataW H)} (h : Small P t (.slice elems spare)) (hu : P.underlying t = some (.slice e)) : (elems.length + spare.length) * P.bytesOf e ≤ reachBytes :=
  h _ (by simp only [DataW.weights, hu]; exact List.mem_cons_self ..)
theorem Small.part {H : Type} {P : Program} {t u : TypeId} {fs : Array Field} {parts : List (DataW H)} {i : Nat} {d : DataW H} (h : Small P t (.agg parts)) (hu : P.underlying t = some (.struct fs)) (hf : (fs.toList.map (·.type))[i]? = some u) (hd : parts[i]? = some d) : Small P u d := fun n hn =>
  h n (by simp only [DataW.weights, hu]; exact DataW.weights_mem_each hf hd n hn)
section
variable {H : Type} {enc : TypeId × Value → H} {P : Program} {W : World} {held : Bool}
theorem open_struct_len {t : TypeId} {fs : Array Field} {s : Nat} (hu : P.underlying t = some (.struct fs)) (hs : P.cellsOf t = s) {fuel : Nat} {cs : List Value} {x : DataW H × List MemPlace} (h : DataW.trod enc P W 0 (fun _ => true) held fuel t cs = some x) : cs.length = s := by
  obtain ⟨xs, n, -, -, h1, -⟩ := DataW.trod_struct hu h
  rw [h1, hs]
end
end Go.Vc
