/-
  Walks and lemmas. Written by program out of specs of mine.
-/
import Derived.WalkKit
import Derived.WalkSpells
import Derived.WalkLawsBesides
import Derived.Deep.Quiet
import Derived.StillTail
import Derived.StringKeys
import Derived.Laws.StructEq
import Derived.Laws.Externs
import Derived.Laws.Tables
import Derived.Scope
import Derived.Test.YtcljkkfpcomdcaaProg
import Derived.Laws.AppendOwn
import Derived.Maps.AppendAt
import Derived.Recover
import Derived.Lib.Bytealg
import Derived.SizedLaws
import Derived.ChangeArms
import Derived.ChangeSlices
import Derived.Test.YtcljkkfpcomdcaaRows
import Derived.ProofKit
import Derived.OpenShut
import Derived.ShutString
import Derived.ChangeOld
import Derived.Below
import Derived.Test.YtcljkkfpcomdcaaPa4
set_option linter.unusedSimpArgs false
set_option linter.unusedVariables false
set_option maxRecDepth 100000
set_option linter.unusedSimpArgs false
set_option linter.unusedVariables false
set_option maxRecDepth 100000
namespace Go.Proofs.Ytcljkkfpcomdcaa
open Go Go.Vc Go.RowKit Go.Proofs

structure TokW (t : Tk) : Prop where
  kind : t.kind = 1 ∨ t.kind = 2 ∨ t.kind = 3
  k1 : t.kind = 1 → t.text.head?.any letB = true ∧ t.text.length ≤ 32 ∧ t.text.all goeB = true
  k3 : t.kind = 3 → ∃ c, t.text = [c] ∧ markB c = true
theorem oneL_w {xs : List UInt8} {k : Nat} {h : k < xs.length} (he : (oneL xs k h).1 = 0) : TokW (oneL xs k h).2 := by
  unfold oneL at he ⊢
  by_cases h1 : letB xs[k] = true
  · have hg : goeB xs[k] = true := by simp [goeB, h1]
    have hr := runL_le (p := goeB) (Nat.le_of_lt h)
    have hr2 := runL_go (p := goeB) h hg
    have hr3 := (runL_le (p := goeB) (k := k + 1) (xs := xs) (by omega)).1
    by_cases h2 : 32 < runL goeB xs k - k
    · rw [if_pos h1, if_pos h2] at he; cases he
    · rw [if_pos h1, if_neg h2]
      refine ⟨.inl rfl, fun _ => ⟨?_, ?_, ?_⟩, fun h => (by cases h)⟩
      · show (sub xs k (runL goeB xs k)).head?.any letB = true
        have : (sub xs k (runL goeB xs k))[0]? = some xs[k] := by unfold sub; rw [List.getElem?_drop, List.getElem?_take]; simp [h]; omega
        rw [List.head?_eq_getElem?, this]
        exact h1
      · show (sub xs k (runL goeB xs k)).length ≤ 32
        rw [sub_length hr.2]; omega
      · show (sub xs k (runL goeB xs k)).all goeB = true
        rw [sub_run]
        exact List.all_eq_true.2 (fun c hc => takeWhile_all _ _ c hc)
  · by_cases h2 : digB xs[k] = true
    · rw [if_neg h1, if_pos h2]
      exact ⟨.inr (.inl rfl), fun h => (by cases h), fun h => (by cases h)⟩
    · by_cases h3 : markB xs[k] = true
      · rw [if_neg h1, if_neg h2, if_pos h3]
        refine ⟨.inr (.inr rfl), fun h => (by cases h), fun _ => ⟨xs[k], ?_, h3⟩⟩
        show sub xs k (k + 1) = _
        unfold sub
        rw [← List.getElem_cons_drop (show k < (xs.take (k + 1)).length by simp; omega)]
        simp
      · rw [if_neg h1, if_neg h2, if_neg h3] at he; cases he
theorem cut_w {xs : List UInt8} {i : Nat} (h : i < (cutA xs).1.length) : TokW (tkA (cutA xs).1 i) := by
  rw [tkA_lt h]
  have h2 : ∀ t ∈ (cutA xs).1, TokW t := by
    unfold cutA
    split
    · intro t ht; cases ht
    · split
      · intro t ht
        obtain ⟨h1, h2⟩ := (cutL_asc xs 0).2 t ht
        have := oneL_w (xs := xs) (k := t.at_) (h := h1) (by rw [h2])
        rw [h2] at this; exact this
      · intro t ht; cases ht
  exact h2 _ (List.getElem_mem h)
inductive Sy where
  | schema | name | number | type | field | arm | fields | arms | shut
  | tk (k : Nat) (s : List UInt8)
def syS : Sy → List UInt8
  | .schema => [40, 115, 99, 104, 101, 109, 97, 41]
  | .name => [40, 110, 97, 109, 101, 41]
  | .number => [40, 110, 117, 109, 98, 101, 114, 41]
  | .type => [40, 116, 121, 112, 101, 41]
  | .field => [40, 102, 105, 101, 108, 100, 41]
  | .arm => [40, 97, 114, 109, 41]
  | .fields => [40, 102, 105, 101, 108, 100, 115, 41]
  | .arms => [40, 97, 114, 109, 115, 41]
  | .shut => [40, 115, 104, 117, 116, 41]
  | .tk _ s => s
structure Rd where
  at_ : Nat
  stk : List Sy
  opn : List Nat
  defs : Nat
inductive Ou where
  | er (e : Nat)
  | go (s : Rd)
def insS (t : Tk) : List Sy :=
  if t.text = [118, 101, 99, 116, 111, 114] ∨ t.text = [108, 105, 115, 116] then [.tk 3 [60], .type, .tk 3 [44], .number, .tk 3 [62], .shut]
  else if t.text = [111, 112, 116, 105, 111, 110] then [.tk 3 [60], .type, .tk 3 [62], .shut]
  else if t.text = [117, 110, 105, 111, 110] then [.tk 3 [123], .arm, .arms, .shut]
  else if t.text = [115, 116, 114, 117, 99, 116] then [.tk 3 [123], .field, .fields, .shut]
  else []
def isR (t : Tk) (s : List UInt8) : Bool := !decide (t.kind = 2) && decide (t.text = s)
def bgnR (t : Tk) : Bool := decide (t.kind = 1) && !decide (t.text = [116, 121, 112, 101])
def moreO (o : List Nat) : List Nat := (o.headD 0 + 1) :: o.tail
def stepF (T : List Tk) (i : Nat) (y : Sy) (S : List Sy) (o : List Nat) (d : Nat) : Ou :=
  match y with
  | .shut => .go ⟨i, S, o.tail, d⟩
  | .schema => if i = T.length then .go ⟨i, S, o, d⟩ else if isR (tkA T i) [116, 121, 112, 101] = false then .er 60 else if 256 < d + 1 then .er 5 else .go ⟨i, .tk 1 [116, 121, 112, 101] :: .name :: .tk 3 [61] :: .type :: .tk 3 [59] :: .schema :: S, o, d + 1⟩
  | .type => if i = T.length then .er 60 else if bgnR (tkA T i) = false then .er 60 else if 16 < o.length then .er 61 else .go ⟨i + 1, insS (tkA T i) ++ S, if insS (tkA T i) = [] then o else 0 :: o, d⟩
  | .field => if i = T.length then .er 60 else if nmT (tkA T i) = false then .er 60 else if 64 < o.headD 0 + 1 then .er 5 else .go ⟨i, .name :: .tk 3 [58] :: .type :: S, moreO o, d⟩
  | .arm => if i = T.length then .er 60 else if (tkA T i).kind ≠ 2 then .er 60 else if 64 < o.headD 0 + 1 then .er 5 else .go ⟨i, .number :: .tk 3 [58] :: .type :: S, moreO o, d⟩
  | .fields => if i = T.length then .er 60 else if isR (tkA T i) [44] = true then .go ⟨i, .tk 3 [44] :: .field :: .fields :: S, o, d⟩ else .go ⟨i, .tk 3 [125] :: S, o, d⟩
  | .arms => if i = T.length then .er 60 else if isR (tkA T i) [44] = true then .go ⟨i, .tk 3 [44] :: .arm :: .arms :: S, o, d⟩ else .go ⟨i, .tk 3 [125] :: S, o, d⟩
  | .name => if i = T.length then .er 60 else if nmT (tkA T i) = false then .er 60 else .go ⟨i + 1, S, o, d⟩
  | .number => if i = T.length then .er 60 else if (tkA T i).kind ≠ 2 then .er 60 else .go ⟨i + 1, S, o, d⟩
  | .tk _ s => if i = T.length then .er 60 else if isR (tkA T i) s = false then .er 60 else .go ⟨i + 1, S, o, d⟩
def OkY : Sy → List Nat → Prop
  | .field, o => ∃ k o', o = k :: o' ∧ k ≤ 64
  | .arm, o => ∃ k o', o = k :: o' ∧ k ≤ 64
  | .shut, o => ∃ k o', o = k :: o'
  | .tk _ s, _ => s.head? ≠ some 40
  | _, _ => True
inductive Run (T : List Tk) : Rd → Nat → Nat → Nat → Prop
  | fin {i d : Nat} {o : List Nat} : Run T ⟨i, [], o, d⟩ 0 0 i
  | er {i d e : Nat} {y : Sy} {S : List Sy} {o : List Nat} (h : stepF T i y S o d = .er e) (hk : OkY y o) : Run T ⟨i, y :: S, o, d⟩ 1 e i
  | go {i d e k j : Nat} {y : Sy} {S : List Sy} {o : List Nat} {s : Rd} (h : stepF T i y S o d = .go s) (hr : Run T s k e j) (hk : OkY y o) : Run T ⟨i, y :: S, o, d⟩ (k + 1) e j
def Runs (T : List Tk) (s : Rd) (e j : Nat) : Prop := ∃ k, Run T s k e j
theorem Runs.step {T : List Tk} {i d e j : Nat} {y : Sy} {S : List Sy} {o : List Nat} {s : Rd} (h : stepF T i y S o d = .go s) (hr : Runs T s e j) (hy : OkY y o) : Runs T ⟨i, y :: S, o, d⟩ e j := by
  obtain ⟨k, hk⟩ := hr
  exact ⟨k + 1, .go h hk hy⟩
/-- what a parse says, the machine says -/
def Sim {α : Type} (T : List Tk) (r : Pr α) (s : Rd) (c : Nat → Rd) : Prop := match r with
  | .ok _ j => ∀ e q, Runs T (c j) e q → Runs T s e q
  | .bad e j => Runs T s e j
theorem Sim.bind {α β : Type} {T : List Tk} {r : Pr α} {F : α → Nat → Pr β} {s : Rd} {c c2 : Nat → Rd} (h : Sim T r s c) (hF : ∀ a j, r = .ok a j → Sim T (F a j) (c j) c2) : Sim T (r.bind F) s c2 := by
  cases r with
  | ok a j =>
    have h2 := hF a j rfl
    show Sim T (F a j) s c2
    cases hq : F a j with
    | ok b q => rw [hq] at h2; exact fun e p hp => h e p (h2 e p hp)
    | bad e q => rw [hq] at h2; exact h e q h2
  | bad e j => exact h
theorem Sim.go {α : Type} {T : List Tk} {r : Pr α} {i d : Nat} {y : Sy} {S : List Sy} {o : List Nat} {s : Rd} {c : Nat → Rd} (hs : stepF T i y S o d = .go s) (h : Sim T r s c) (hy : OkY y o := by trivial) : Sim T r ⟨i, y :: S, o, d⟩ c := by
  cases r with
  | ok b q => exact fun e p hp => Runs.step hs (h e p hp) hy
  | bad e q => exact Runs.step hs h hy
theorem Sim.er {α : Type} {T : List Tk} {i d e : Nat} {y : Sy} {S : List Sy} {o : List Nat} {c : Nat → Rd} (hs : stepF T i y S o d = .er e) (hy : OkY y o := by trivial) : Sim T (.bad e i : Pr α) ⟨i, y :: S, o, d⟩ c := ⟨1, .er hs hy⟩
theorem Sim.ok {α : Type} {T : List Tk} {a : α} {j : Nat} {s : Rd} {c : Nat → Rd} (h : c j = s) : Sim T (.ok a j) s c := fun e q hq => h ▸ hq
theorem isR_mark {t : Tk} (h : TokW t) {c : UInt8} (hc : letB c = false) : isR t [c] = isT t 3 [c] := by
  unfold isR isT
  rcases h.kind with k | k | k
  · have h1 := (h.k1 k).1
    have : ¬ t.text = [c] := fun he => by rw [he] at h1; simp [hc] at h1
    simp [k, this]
  · simp [k]
  · simp [k]
theorem isR_type {t : Tk} (h : TokW t) : isR t [116, 121, 112, 101] = isT t 1 [116, 121, 112, 101] := by
  unfold isR isT
  rcases h.kind with k | k | k
  · simp [k]
  · simp [k]
  · obtain ⟨c, hc, -⟩ := h.k3 k
    simp [k, hc]
theorem bgn_same {t : Tk} (h : TokW t) : bgnR t = bgnT t := by
  unfold bgnR
  by_cases k : t.kind = 1
  · obtain ⟨h1, h2, h3⟩ := h.k1 k
    have hne : t.text ≠ [] := fun he => by rw [he] at h1; cases h1
    have hn : nameB t.text = !wordB t.text := by simp [nameB, hne, h1, h2, h3]
    unfold bgnT
    rw [k, hn]
    by_cases hw : t.text ∈ words
    · have hwb : wordB t.text = true := decide_eq_true hw
      rw [hwb]
      simp only [words, List.mem_cons, List.not_mem_nil, or_false] at hw
      rcases hw with e | e | e | e | e | e | e | e | e | e | e | e <;> (rw [e]; rfl)
    · have hwb : wordB t.text = false := decide_eq_false hw
      have ht : ¬ t.text = [116, 121, 112, 101] := fun he => hw (by rw [he]; decide)
      rw [hwb]
      simp [ht]
  · have : bgnT t = false := by unfold bgnT; simp [k]
    rw [this]; simp [k]
theorem isT_end {T : List Tk} {k : Nat} {s : List UInt8} (hk : 1 ≤ k) : isT (tkA T T.length) k s = false := by
  cases h : isT (tkA T T.length) k s with
  | false => rfl
  | true => have := isT_lt hk h; omega
theorem nmT_end {T : List Tk} : nmT (tkA T T.length) = false := by
  cases h : nmT (tkA T T.length) with
  | false => rfl
  | true => have := nmT_lt h; omega
theorem kind_end {T : List Tk} : ¬ (tkA T T.length).kind = 2 := fun h => by have := tkA_kind (by decide) h; omega
def TW (T : List Tk) : Prop := ∀ i, i < T.length → TokW (tkA T i)
theorem sim_tk {T : List Tk} (hT : TW T) {i d k : Nat} {s : List UInt8} {S : List Sy} {o : List Nat} (hi : i ≤ T.length) (hk : 1 ≤ k) (hs : ∀ t, TokW t → isR t s = isT t k s) (h40 : s.head? ≠ some 40 := by decide) : Sim T (wantT T i k s) ⟨i, .tk k s :: S, o, d⟩ (fun j => ⟨j, S, o, d⟩) := by
  unfold wantT
  by_cases h : i = T.length
  · subst h
    rw [isT_end hk, if_neg (by decide)]
    exact .er (by simp [stepF]) h40
  · have hw := hs _ (hT i (by omega))
    by_cases h2 : isT (tkA T i) k s = true
    · rw [if_pos h2]
      exact .go (s := ⟨i + 1, S, o, d⟩) (by simp [stepF, h, hw, h2]) (.ok rfl) h40
    · rw [if_neg h2]
      exact .er (by simp [stepF, h, hw, h2]) h40
theorem sim_name {T : List Tk} {i d : Nat} {S : List Sy} {o : List Nat} (hi : i ≤ T.length) : Sim T (nameT T i) ⟨i, .name :: S, o, d⟩ (fun j => ⟨j, S, o, d⟩) := by
  unfold nameT
  by_cases h : i = T.length
  · subst h
    rw [nmT_end, if_neg (by decide)]
    exact .er (by simp [stepF])
  · by_cases h2 : nmT (tkA T i) = true
    · rw [if_pos h2]
      exact .go (s := ⟨i + 1, S, o, d⟩) (by simp [stepF, h, h2]) (.ok rfl)
    · rw [if_neg h2]
      exact .er (by simp [stepF, h, h2])
theorem sim_num {T : List Tk} {i d : Nat} {S : List Sy} {o : List Nat} (hi : i ≤ T.length) : Sim T (numT T i) ⟨i, .number :: S, o, d⟩ (fun j => ⟨j, S, o, d⟩) := by
  unfold numT
  by_cases h : i = T.length
  · subst h
    rw [if_neg kind_end]
    exact .er (by simp [stepF])
  · by_cases h2 : (tkA T i).kind = 2
    · rw [if_pos h2]
      exact .go (s := ⟨i + 1, S, o, d⟩) (by simp [stepF, h, h2]) (.ok rfl)
    · rw [if_neg h2]
      exact .er (by simp [stepF, h, h2])
def hdS (u : Bool) : Sy := if u then .arm else .field
def tlS (u : Bool) : Sy := if u then .arms else .fields
theorem sim_head {T : List Tk} {i d k : Nat} {u : Bool} {S : List Sy} {o : List Nat} {x : Ex} (hi : i ≤ T.length) (hk : k ≤ 64) : Sim T (headT T u (decide (k = 64)) i x) ⟨i, hdS u :: S, k :: o, d⟩ (fun j => ⟨j, .tk 3 [58] :: .type :: S, (k + 1) :: o, d⟩) := by
  cases u
  · rw [headT_s]
    by_cases h : i = T.length
    · subst h
      unfold nameT
      rw [nmT_end, if_neg (by simp), if_neg (by decide)]
      exact .er (by simp [stepF, hdS]) ⟨k, o, rfl, hk⟩
    · by_cases h2 : nmT (tkA T i) = true
      · by_cases h3 : k = 64
        · rw [if_pos ⟨decide_eq_true h3, h2⟩]
          exact .er (by simp [stepF, hdS, h, h2, h3]) ⟨k, o, rfl, hk⟩
        · rw [if_neg (by simp [h3])]
          refine .go (s := ⟨i, .name :: .tk 3 [58] :: .type :: S, (k + 1) :: o, d⟩) (by simp [stepF, hdS, h, h2, moreO]; omega) ?_ ⟨k, o, rfl, hk⟩
          exact (sim_name hi).bind fun a j _ => .ok rfl
      · rw [if_neg (fun hh => h2 hh.2)]
        unfold nameT
        rw [if_neg h2]
        exact .er (by simp [stepF, hdS, h, h2]) ⟨k, o, rfl, hk⟩
  · rw [headT_u]
    by_cases h : i = T.length
    · subst h
      unfold numT
      rw [if_neg (fun hh => kind_end hh.2), if_neg kind_end]
      exact .er (by simp [stepF, hdS]) ⟨k, o, rfl, hk⟩
    · by_cases h2 : (tkA T i).kind = 2
      · by_cases h3 : k = 64
        · rw [if_pos ⟨decide_eq_true h3, h2⟩]
          exact .er (by simp [stepF, hdS, h, h2, h3]) ⟨k, o, rfl, hk⟩
        · rw [if_neg (by simp [h3])]
          refine .go (s := ⟨i, .number :: .tk 3 [58] :: .type :: S, (k + 1) :: o, d⟩) (by simp [stepF, hdS, h, h2, moreO]; omega) ?_ ⟨k, o, rfl, hk⟩
          exact (sim_num hi).bind fun a j _ => .ok rfl
      · rw [if_neg (fun hh => h2 hh.2)]
        unfold numT
        rw [if_neg h2]
        exact .er (by simp [stepF, hdS, h, h2]) ⟨k, o, rfl, hk⟩
theorem sim_rows {T : List Tk} (hT : TW T) {E : Nat → Ex → Pr (List Ex)} {u : Bool} {i0 d : Nat} {o : List Nat} (hE : ∀ i x k S, i0 ≤ i → i ≤ T.length → Sim T (E i x) ⟨i, .type :: S, k :: o, d⟩ (fun j => ⟨j, S, k :: o, d⟩)) (hE2 : ∀ i x N j, E i x = .ok N j → i < j ∧ j ≤ T.length) :
    ∀ (g i k : Nat) (S : List Sy), i0 ≤ i → i ≤ T.length → T.length + 2 ≤ g + i → k ≤ 64 → Sim T (rowsT E T u g i k) ⟨i, hdS u :: tlS u :: .shut :: S, k :: o, d⟩ (fun j => ⟨j, S, o, d⟩)
  | 0, i, k, S, h0, hi, hg, hk => by omega
  | g + 1, i, k, S, h0, hi, hg, hk => by
    rw [rowsT_s]
    refine (sim_head hi hk).bind fun y i1 h1 => ?_
    obtain ⟨rfl, hi1⟩ := headT_le h1
    have hk2 : k < 64 := by
      have := (headT_ok h1).2.2.2
      simp at this; omega
    refine (sim_tk hT (by omega) (by decide) (fun t h => isR_mark h (by decide))).bind fun _ i2 h2 => ?_
    obtain ⟨rfl, hi2⟩ := wantT_le (by decide) h2
    refine (hE _ _ _ _ (by omega) (by omega)).bind fun N j h3 => ?_
    obtain ⟨b1, b2⟩ := hE2 _ _ _ _ h3
    have hgo : j ≠ T.length → stepF T j (tlS u) (.shut :: S) ((k + 1) :: o) d = if isT (tkA T j) 3 [44] = true then .go ⟨j, .tk 3 [44] :: hdS u :: tlS u :: .shut :: S, (k + 1) :: o, d⟩ else .go ⟨j, .tk 3 [125] :: .shut :: S, (k + 1) :: o, d⟩ := fun hj => by
      rw [← isR_mark (hT j (by omega)) (by decide)]
      cases u <;> simp [stepF, tlS, hdS, hj]
    by_cases hje : j = T.length
    · subst hje
      rw [isT_end (by decide), if_neg (by decide)]
      unfold wantT
      rw [isT_end (by decide), if_neg (by decide)]
      exact .er (by cases u <;> simp [stepF, tlS]) (by cases u <;> trivial)
    · by_cases hm : isT (tkA T j) 3 [44] = true
      · rw [if_pos hm]
        have hgo := hgo hje
        rw [if_pos hm] at hgo
        have hw : wantT T j 3 [44] = .ok () (j + 1) := by unfold wantT; rw [if_pos hm]
        have hjl := isT_lt (by decide) hm
        have hst : stepF T j (.tk 3 [44]) (hdS u :: tlS u :: .shut :: S) ((k + 1) :: o) d = .go ⟨j + 1, hdS u :: tlS u :: .shut :: S, (k + 1) :: o, d⟩ := by
          have := isR_mark (hT j (by omega)) (c := 44) (by decide)
          rw [hm] at this
          simp [stepF, hje, this]
        refine .go hgo (.go hst ?_ (show ([44] : List UInt8).head? ≠ some 40 by decide)) (by cases u <;> trivial)
        exact (sim_rows hT hE hE2 g (j + 1) (k + 1) S (by omega) (by omega) (by omega) (by omega)).bind fun r j2 _ => .ok rfl
      · rw [if_neg hm]
        have hgo := hgo hje
        rw [if_neg hm] at hgo
        refine .go hgo ((sim_tk hT (by omega) (by decide) (fun t h => isR_mark h (by decide))).bind fun _ j2 h4 => ?_) (by cases u <;> trivial)
        exact .go (s := ⟨j2, S, o, d⟩) rfl (.ok rfl) ⟨_, _, rfl⟩
theorem insS_leaf {t : Tk} {kn : Int × Int} (h : leafE t.text = some kn) : insS t = [] := by
  unfold leafE at h
  unfold insS
  repeat' split at h
  all_goals first | (rename_i he; simp [he]; done) | cases h
theorem sim_expr {T : List Tk} (hT : TW T) : ∀ (f i : Nat) (x : Ex) (deep d : Nat) (S : List Sy) (o : List Nat), i ≤ T.length → T.length + 2 ≤ f + i → o.length = deep → Sim T (exprT T f i x deep) ⟨i, .type :: S, o, d⟩ (fun j => ⟨j, S, o, d⟩)
  | 0, i, x, deep, d, S, o, hi, hf, ho => by omega
  | f + 1, i, x, deep, d, S, o, hi, hf, ho => by
    rw [exprT_s]
    by_cases hie : i = T.length
    · subst hie
      have hb : bgnT (tkA T T.length) = false := by
        cases h : bgnT (tkA T T.length) with
        | false => rfl
        | true => have := tkA_kind (T := T) (by decide) (bgn_kind h); omega
      rw [if_pos hb]
      exact .er (by simp [stepF])
    · have hil : i < T.length := by omega
      have hbs := bgn_same (hT i hil)
      split
      · rename_i hb
        exact .er (by simp [stepF, hie, hbs, hb])
      · rename_i hb
        have hb : bgnT (tkA T i) = true := by simpa using hb
        split
        · rename_i hd
          exact .er (by simp [stepF, hie, hbs, hb]; omega)
        · rename_i hd
          have hgo : stepF T i .type S o d = .go ⟨i + 1, insS (tkA T i) ++ S, if insS (tkA T i) = [] then o else 0 :: o, d⟩ := by
            simp [stepF, hie, hbs, hb]; omega
          refine .go hgo ?_
          split
          · rename_i kn hl
            rw [insS_leaf hl]
            exact .ok rfl
          · rename_i hl
            split
            · rename_i hv
              have hin : insS (tkA T i) = [.tk 3 [60], .type, .tk 3 [44], .number, .tk 3 [62], .shut] := by unfold insS; rw [if_pos hv]
              rw [hin, if_neg (by simp)]
              refine (sim_tk hT (by omega) (by decide) (fun t h => isR_mark h (by decide))).bind fun _ i1 h1 => ?_
              obtain ⟨rfl, hi1⟩ := wantT_le (by decide) h1
              refine (sim_expr hT f _ exM (deep + 1) d _ (0 :: o) (by omega) (by omega) (by simp [ho])).bind fun N i2 h2 => ?_
              obtain ⟨b1, b2⟩ := expr_lt h2
              refine (sim_tk hT (by omega) (by decide) (fun t h => isR_mark h (by decide))).bind fun _ i3 h3 => ?_
              obtain ⟨rfl, hi3⟩ := wantT_le (by decide) h3
              refine (sim_num (by omega)).bind fun n i4 h4 => ?_
              obtain ⟨g4, -, rfl⟩ := numT_ok h4
              have hi4 := tkA_kind (by decide) g4
              refine (sim_tk hT (by omega) (by decide) (fun t h => isR_mark h (by decide))).bind fun _ i5 h5 => ?_
              exact .go (s := ⟨i5, S, o, d⟩) rfl (.ok rfl) ⟨_, _, rfl⟩
            · rename_i hv
              split
              · rename_i ho'
                have hin : insS (tkA T i) = [.tk 3 [60], .type, .tk 3 [62], .shut] := by unfold insS; rw [if_neg hv, if_pos ho']
                rw [hin, if_neg (by simp)]
                refine (sim_tk hT (by omega) (by decide) (fun t h => isR_mark h (by decide))).bind fun _ i1 h1 => ?_
                obtain ⟨rfl, hi1⟩ := wantT_le (by decide) h1
                refine (sim_expr hT f _ exM (deep + 1) d _ (0 :: o) (by omega) (by omega) (by simp [ho])).bind fun N i2 h2 => ?_
                obtain ⟨b1, b2⟩ := expr_lt h2
                refine (sim_tk hT (by omega) (by decide) (fun t h => isR_mark h (by decide))).bind fun _ i3 h3 => ?_
                exact .go (s := ⟨i3, S, o, d⟩) rfl (.ok rfl) ⟨_, _, rfl⟩
              · rename_i ho'
                have hrow : ∀ (u : Bool), insS (tkA T i) = [.tk 3 [123], hdS u, tlS u, .shut] → Sim T (((wantT T (i + 1) 3 [123]).bind fun _ j => rowsT (fun i x => exprT T f i x (deep + 1)) T u f j 0).bind fun r j => (.ok ((atE i x).br u (r.2 : Nat) :: r.1) j : Pr (List Ex))) ⟨i + 1, insS (tkA T i) ++ S, if insS (tkA T i) = [] then o else 0 :: o, d⟩ (fun j => ⟨j, S, o, d⟩) := by
                  intro u hin
                  rw [hin, if_neg (by simp)]
                  refine Sim.bind (c := fun j => ⟨j, S, o, d⟩) ?_ fun r j h2 => .ok rfl
                  refine (sim_tk hT (by omega) (by decide) (fun t h => isR_mark h (by decide))).bind fun _ i1 h1 => ?_
                  obtain ⟨rfl, hi1⟩ := wantT_le (by decide) h1
                  exact sim_rows hT (i0 := i + 1 + 1) (fun i x k S h0 hi => sim_expr hT f i x (deep + 1) d S (k :: o) hi (by omega) (by simp [ho])) (fun i x N j hh => expr_lt hh) f _ 0 S (Nat.le_refl _) (by omega) (by omega) (by omega)
                split
                · rename_i hu
                  exact hrow true (by unfold insS; rw [if_neg hv, if_neg ho', if_pos hu]; rfl)
                · rename_i hu
                  split
                  · rename_i hs
                    exact hrow false (by unfold insS; rw [if_neg hv, if_neg ho', if_neg hu, if_pos hs]; rfl)
                  · rename_i hs
                    have hin : insS (tkA T i) = [] := by unfold insS; rw [if_neg hv, if_neg ho', if_neg hu, if_neg hs]
                    rw [hin]
                    exact .ok rfl
theorem sim_defs {T : List Tk} (hT : TW T) : ∀ (g i k : Nat), i ≤ T.length → T.length + 2 ≤ g + i → k ≤ 256 → match defsT T g i k with
    | .ok _ _ => ∃ q, Runs T ⟨i, [.schema], [], k⟩ 0 q
    | .bad e j => Runs T ⟨i, [.schema], [], k⟩ e j
  | 0, i, k, hi, hg, hk => by omega
  | g + 1, i, k, hi, hg, hk => by
    rw [defsT_s]
    by_cases hie : T.length ≤ i
    · have hi2 : i = T.length := by omega
      rw [if_pos hie]
      exact ⟨i, _, .go (s := ⟨i, [], [], k⟩) (by simp [stepF, hi2]) .fin trivial⟩
    · rw [if_neg hie]
      have hty := isR_type (hT i (by omega))
      by_cases h2 : isT (tkA T i) 1 [116, 121, 112, 101] = true
      · by_cases h3 : k = 256
        · rw [if_pos ⟨h3, h2⟩]
          exact ⟨1, .er (by rw [stepF, if_neg (by omega), hty, h2, if_neg (by decide), if_pos (by omega)]) trivial⟩
        · rw [if_neg (fun hh => h3 hh.1)]
          have hgo : stepF T i .schema [] [] k = .go ⟨i, [.tk 1 [116, 121, 112, 101], .name, .tk 3 [61], .type, .tk 3 [59], .schema], [], k + 1⟩ := by
            rw [stepF, if_neg (by omega), hty, h2, if_neg (by decide), if_neg (by omega)]
          have key : Sim T ((wantT T i 1 [116, 121, 112, 101]).bind fun _ i => (nameT T i).bind fun s j => (wantT T j 3 [61]).bind fun _ j => (exprT T (T.length + 2) j exM 0).bind fun N j => (wantT T j 3 [59]).bind fun _ j => (.ok (⟨s, (i : Int), N⟩ : Df) j : Pr Df)) ⟨i, [.schema], [], k⟩ (fun j => ⟨j, [.schema], [], k + 1⟩) := by
            refine .go hgo ((sim_tk hT (by omega) (by decide) (fun t h => isR_type h)).bind fun _ i1 h1 => ?_)
            obtain ⟨rfl, hi1⟩ := wantT_le (by decide) h1
            refine (sim_name (by omega)).bind fun s i2 h2 => ?_
            obtain ⟨g2, -, rfl⟩ := nameT_ok h2
            have := nmT_lt g2
            refine (sim_tk hT (by omega) (by decide) (fun t h => isR_mark h (by decide))).bind fun _ i3 h3 => ?_
            obtain ⟨rfl, hi3⟩ := wantT_le (by decide) h3
            refine (sim_expr hT _ _ exM 0 _ _ [] (by omega) (by omega) rfl).bind fun N i4 h4 => ?_
            obtain ⟨b1, b2⟩ := expr_lt h4
            exact (sim_tk hT (by omega) (by decide) (fun t h => isR_mark h (by decide))).bind fun _ i5 h5 => .ok rfl
          have hsplit : ((wantT T i 1 [116, 121, 112, 101]).bind fun _ i => (nameT T i).bind fun s j => (wantT T j 3 [61]).bind fun _ j => (exprT T (T.length + 2) j exM 0).bind fun N j => (wantT T j 3 [59]).bind fun _ j =>
              (defsT T g j (k + 1)).bind fun D j => (.ok (⟨s, i, N⟩ :: D) j : Pr (List Df))) = ((wantT T i 1 [116, 121, 112, 101]).bind fun _ i => (nameT T i).bind fun s j => (wantT T j 3 [61]).bind fun _ j => (exprT T (T.length + 2) j exM 0).bind fun N j => (wantT T j 3 [59]).bind fun _ j => (.ok (⟨s, (i : Int), N⟩ : Df) j : Pr Df)).bind fun x j => (defsT T g j (k + 1)).bind fun D j => .ok (x :: D) j := by
            simp only [Pr.bind_assoc, Pr.bind_ok]
          rw [hsplit]
          rcases hq : ((wantT T i 1 [116, 121, 112, 101]).bind fun _ i => (nameT T i).bind fun s j => (wantT T j 3 [61]).bind fun _ j => (exprT T (T.length + 2) j exM 0).bind fun N j => (wantT T j 3 [59]).bind fun _ j => (.ok (⟨s, (i : Int), N⟩ : Df) j : Pr Df)) with ⟨x, j⟩ | ⟨e, j⟩
          · rw [hq] at key
            obtain ⟨_, i1, h1, hq⟩ := bind_ok hq
            obtain ⟨rfl, hi1⟩ := wantT_le (by decide) h1
            obtain ⟨_, i1, h1, hq⟩ := bind_ok hq
            obtain ⟨g2, -, rfl⟩ := nameT_ok h1
            obtain ⟨_, i1, h1, hq⟩ := bind_ok hq
            obtain ⟨rfl, hi3⟩ := wantT_le (by decide) h1
            obtain ⟨_, i1, h1, hq⟩ := bind_ok hq
            obtain ⟨b1, b2⟩ := expr_lt h1
            obtain ⟨_, i2, h2, hq⟩ := bind_ok hq
            obtain ⟨rfl, hi5⟩ := wantT_le (by decide) h2
            cases hq
            have ih := sim_defs hT g (i1 + 1) (k + 1) (by omega) (by omega) (by omega)
            rw [Pr.bind_ok]
            rcases hd : defsT T g (i1 + 1) (k + 1) with ⟨D, q⟩ | ⟨e, q⟩
            · rw [hd] at ih
              obtain ⟨p, hp⟩ := ih
              exact ⟨p, key _ _ hp⟩
            · rw [hd] at ih
              exact key _ _ ih
          · rw [hq] at key
            exact key
      · have h2 : isT (tkA T i) 1 [116, 121, 112, 101] = false := by simpa using h2
        rw [if_neg (fun hh => by rw [h2] at hh; cases hh.2)]
        have hw : wantT T i 1 [116, 121, 112, 101] = .bad 60 i := by unfold wantT; rw [h2, if_neg (by decide)]
        rw [hw]
        exact ⟨1, .er (by rw [stepF, if_neg (by omega), hty, h2, if_pos rfl]) trivial⟩
/-- where the machine stops is where Parse does -/
theorem parse_run {xs : List UInt8} (h : (cutA xs).2.1 = 0) : ∃ k j, Run (cutA xs).1 ⟨0, [.schema], [], 0⟩ k (parseA xs).2.1 j ∧ ((parseA xs).2.1 ≠ 0 → (parseA xs).2.2 = plc (cutA xs).1 xs.length j) := by
  have hs := sim_defs (T := (cutA xs).1) (fun i hi => cut_w hi) ((cutA xs).1.length + 2) 0 0 (Nat.zero_le _) (by omega) (by omega)
  rcases hd : defsT (cutA xs).1 ((cutA xs).1.length + 2) 0 0 with ⟨D, j⟩ | ⟨e, j⟩
  · rw [hd] at hs
    obtain ⟨q, k, hk⟩ := hs
    rw [parseA_ok h hd]
    exact ⟨k, q, hk, fun h => absurd rfl h⟩
  · rw [hd] at hs
    obtain ⟨k, hk⟩ := hs
    rw [parseA_er h hd]
    exact ⟨k, j, hk, fun _ => rfl⟩

end Go.Proofs.Ytcljkkfpcomdcaa

set_option linter.unusedSimpArgs false
set_option linter.unusedVariables false
set_option maxRecDepth 100000
namespace Go.Proofs.Ytcljkkfpcomdcaa
open Go Go.Vc Go.RowKit Go.Proofs
theorem own_newN {w : World} {vs : List Value} {el : TypeId} {n : Nat} (hl : vs.length = n) (hm : n ≤ maxLen) : (w.alloc (.cells vs.toArray el)).ownsRow w.heap.size el 1 (.slice (some ⟨w.heap.size, 0, none⟩) n n) n vs :=
  ⟨by simp [hl], .inr ⟨w.heap.size, n, vs.toArray, rfl, Nat.le_refl _, heap_alloc_new w _, Nat.le_refl _, hm, by simp [hl], by rw [Nat.mul_one]; exact List.take_of_length_le (by simp [hl])⟩⟩



def sySt (y : Sy) : Value := st (syS y)
structure RdM (w : World) (H p : Nat) (lv sv ov : Value) (T : List Tk) (s : Rd) : Prop where
  cell : w.heap[p]? = some (.cells #[lv, .int .i64 (s.at_ : Int), sv, ov, .int .i64 (s.defs : Int)] 92 (0, 0))
  toks : w.ownsRow 0 58 5 lv T.length (flat T)
  stk : w.ownsRow H 9 1 sv s.stk.length (s.stk.reverse.map sySt)
  opn : w.ownsRow H 3 1 ov s.opn.length (s.opn.reverse.map (fun k : Nat => Value.int .i64 (k : Int)))
  hp : H ≤ p
  lt : ∀ b, lv.ownBlock = some b → b < H
  le : H ≤ w.heap.size
theorem RdM.ext {w w' : World} {H p : Nat} {lv sv ov : Value} {T : List Tk} {s : Rd} (h : RdM w H p lv sv ov T s) (ho : Ext w w') : RdM w' H p lv sv ov T s :=
  ⟨ho.blk h.cell (fun h => h), own_ext h.toks ho, own_ext h.stk ho, own_ext h.opn ho, h.hp, h.lt, Nat.le_trans h.le ho.size⟩
theorem RdM.sp {w : World} {H p : Nat} {lv sv ov : Value} {T : List Tk} {s : Rd} (h : RdM w H p lv sv ov T s) : ¬ sv.ownBlock = some p := own_off h.stk h.cell (by decide)
theorem RdM.op {w : World} {H p : Nat} {lv sv ov : Value} {T : List Tk} {s : Rd} (h : RdM w H p lv sv ov T s) : ¬ ov.ownBlock = some p := own_off h.opn h.cell (by decide)
theorem RdM.so {w : World} {H p : Nat} {lv sv ov : Value} {T : List Tk} {s : Rd} (h : RdM w H p lv sv ov T s) : ∀ k, ov.ownBlock = some k → ¬ sv.ownBlock = some k := own_row_off h.stk h.opn (by decide)
/-- the cell is written -/
theorem RdM.put {w w' : World} {H p i d : Nat} {lv sv ov sv2 ov2 : Value} {T : List Tk} {s : Rd} {S : List Sy} {o : List Nat} (h : RdM w H p lv sv ov T s) (hc : w'.heap[p]? = some (.cells #[lv, .int .i64 (i : Int), sv2, ov2, .int .i64 (d : Int)] 92 (0, 0))) (ho : Only (fun k => k = p) w w')
    (hs : w.ownsRow H 9 1 sv2 S.length (S.reverse.map sySt)) (hn : w.ownsRow H 3 1 ov2 o.length (o.reverse.map (fun k : Nat => Value.int .i64 (k : Int)))) : RdM w' H p lv sv2 ov2 T ⟨i, S, o, d⟩ :=
  ⟨hc, own_only h.toks ho (fun k hk he => by subst he; have := h.lt k hk; have := h.hp; omega), own_only hs ho (fun k hk he => by subst he; exact own_off hs h.cell (by decide) hk), own_only hn ho (fun k hk he => by subst he; exact own_off hn h.cell (by decide) hk), h.hp, h.lt, Nat.le_trans h.le ho.size⟩
theorem RdM.stkOnly {w w' : World} {H p : Nat} {lv sv ov : Value} {T : List Tk} {i d : Nat} {S : List Sy} {o : List Nat} (h : RdM w H p lv sv ov T ⟨i, S, o, d⟩) (ho : Only (fun k => sv.ownBlock = some k) w w') : w'.heap[p]? = some (.cells #[lv, .int .i64 (i : Int), sv, ov, .int .i64 (d : Int)] 92 (0, 0)) ∧ w'.ownsRow 0 58 5 lv T.length (flat T) ∧ w'.ownsRow H 3 1 ov o.length (o.reverse.map (fun k : Nat => Value.int .i64 (k : Int))) :=
  ⟨ho.blk h.cell h.sp, own_only h.toks ho (fun k hk hF => by have := h.lt k hk; have := (h.stk.lt k hF).1; omega), own_only h.opn ho h.so⟩
theorem top_at {α : Type} {f : α → Value} {y : α} {S : List α} : ((y :: S).reverse.map f)[S.length]? = some (f y) := by
  rw [List.reverse_cons, List.map_append, List.getElem?_append_right (by simp)]; simp
theorem pop_take {α : Type} {f : α → Value} {y : α} {S : List α} : ((y :: S).reverse.map f).take (S.length * 1) = S.reverse.map f := by
  rw [List.reverse_cons, List.map_append, Nat.mul_one, List.take_append_of_le_length (by simp), List.take_of_length_le (by simp)]
theorem insS_len (t : Tk) : (insS t).length ≤ 6 := by
  unfold insS
  repeat' split
  all_goals simp
/-- how high the stack may be -/
def StkB (s : Rd) : Prop := s.stk.length ≤ 7 * s.at_ + (match s.stk with | .tk _ _ :: _ | .name :: _ | .number :: _ | .type :: _ => 7 | _ => 1)
theorem stkB_le {s : Rd} (h : StkB s) : s.stk.length ≤ 7 * s.at_ + 7 := by
  unfold StkB at h
  split at h <;> omega
theorem stkB_any {i d : Nat} {S : List Sy} {o : List Nat} (h : S.length ≤ 7 * i + 1) : StkB ⟨i, S, o, d⟩ := by
  unfold StkB
  split <;> (simp only at *; omega)
theorem stk_step {T : List Tk} {i d : Nat} {y : Sy} {S : List Sy} {o : List Nat} {s : Rd} (hb : StkB ⟨i, y :: S, o, d⟩) (h : stepF T i y S o d = .go s) : StkB s := by
  cases y <;> simp only [stepF] at h <;> simp only [StkB, List.length_cons] at hb
  case shut => cases h; exact stkB_any (by omega)
  case tk k x =>
    repeat' split at h
    all_goals first | cases h; done | skip
    cases h; exact stkB_any (by omega)
  case name =>
    repeat' split at h
    all_goals first | cases h; done | skip
    cases h; exact stkB_any (by omega)
  case number =>
    repeat' split at h
    all_goals first | cases h; done | skip
    cases h; exact stkB_any (by omega)
  case schema =>
    repeat' split at h
    all_goals first | (cases h; done) | skip
    all_goals cases h
    · exact stkB_any (by omega)
    · show _ ≤ _; simp only [List.length_cons]; omega
  case field =>
    repeat' split at h
    all_goals first | (cases h; done) | skip
    cases h; show _ ≤ _; simp only [List.length_cons]; omega
  case arm =>
    repeat' split at h
    all_goals first | (cases h; done) | skip
    cases h; show _ ≤ _; simp only [List.length_cons]; omega
  case fields =>
    repeat' split at h
    all_goals first | (cases h; done) | skip
    all_goals (cases h; show _ ≤ _; simp only [List.length_cons]; omega)
  case arms =>
    repeat' split at h
    all_goals first | (cases h; done) | skip
    all_goals (cases h; show _ ≤ _; simp only [List.length_cons]; omega)
  case type =>
    repeat' split at h
    all_goals first | (cases h; done) | skip
    all_goals cases h
    all_goals
      have hl := insS_len (tkA T i)
      unfold insS
      repeat' split
      all_goals first | (show _ ≤ _; simp only [List.length_cons, List.cons_append, List.nil_append]; omega) | exact stkB_any (by simp only [List.nil_append]; omega)
theorem at_step {T : List Tk} {i d : Nat} {y : Sy} {S : List Sy} {o : List Nat} {s : Rd} (hi : i ≤ T.length) (hd : d ≤ 256) (ho : o.length ≤ 17) (h : stepF T i y S o d = .go s) : s.at_ ≤ T.length ∧ s.defs ≤ 256 ∧ s.opn.length ≤ 17 := by
  cases y <;> simp only [stepF] at h
  all_goals (repeat' split at h)
  all_goals first | (cases h; done) | skip
  all_goals (cases h; refine ⟨by simp only; omega, by simp only; omega, ?_⟩)
  all_goals first | (simp only [List.length_tail, List.length_cons, moreO]; omega) | skip

theorem ris_spec (t : Tk) (s : List UInt8) (w0 : World) (hlen : t.text.length ≤ 9223372036854775807) : Ca Try.prog 67 #[.agg (tokV t), st s] w0 (fun v w' => v = .bool (if s = [40, 110, 97, 109, 101, 41] then nmT t else if s = [40, 110, 117, 109, 98, 101, 114, 41] then decide (t.kind = 2) else isR t s) ∧ Ext w0 w') := by
  refine Ca.of Try.func67 Try.ntmps67 rfl rfl ?_
  refine W.seq ?_
  refine W.region ?_
  refine WL.c rfl (o_boxB rfl ?_)
  intro w2 hC2 hx2 hs2
  have hx := hx2
  replace hC2 : w2.heap[w0.heap.size]? = some (.cells (tokV t) 58 (0, 0)) := hC2
  refine WL.c rfl (o_ash (show _ = Value.bool _ from rfl) ?_)
  refine WL.nil ?_
  refine W.seq ?_
  refine W.seq ?_
  refine W.region ?_
  refine WL.c rfl (o_mvh (show _ = Value.string _ from rfl) ?_)
  refine WL.nil ?_
  refine W.block ?_
  refine W.seq ?_
  refine W.region ?_
  refine WL.c rfl (o_eqT rfl rfl ?_)
  refine WL.c rfl (o_ash (show _ = Value.bool _ from rfl) ?_)
  refine WL.nil ?_
  refine W.cond rfl (fun c6 => ?_) (fun c6 => ?_)
  · try simp only [decide_eq_true_eq, decide_eq_false_iff_not, Bool.not_eq_true', Bool.not_eq_false', Bool.and_eq_true, Bool.or_eq_true, Bool.and_eq_false_iff, Bool.or_eq_false_iff] at c6
    refine W.seq ?_
    refine W.region ?_
    refine WL.c rfl (o_fa 0 TI58 rfl TI3 rfl rfl ?_)
    refine WL.c rfl (o_ld TI3 rfl rfl (cell_of hC2 rfl) ?_)
    refine WL.c rfl (o_eq rfl rfl ?_)
    refine WL.c rfl (o_mvh (show _ = Value.bool _ from rfl) ?_)
    refine WL.sp 3 rfl (fun g11 => ?_) (fun g11 => ?_)
    · skip
      refine WL.g rfl (g11) rfl (o_fa 1 TI58 rfl TI9 rfl rfl ?_)
      refine WL.g rfl (g11) rfl (o_ld TI9 rfl rfl (cell_of hC2 rfl) ?_)
      refine WL.g rfl (g11) rfl (o_call Try.call27 (lc rfl ln) ((rname_spec t.text _ hlen).mono ?_))
      rintro v14 w14 ⟨rfl, rfl⟩
      refine WL.c rfl (o_pickA rfl rfl ?_)
      refine WL.c rfl (o_ash (show _ = Value.bool _ from rfl) ?_)
      refine WL.nil ?_
      refine W.ret ?_
      refine ret1v rfl (show _ = Value.bool _ from rfl) ?_
      exact ⟨congrArg Value.bool (by rw [Bool.eq_iff_iff]; simp_all [nmT, isR] <;> omega), hx⟩
    · skip
      refine WL.s rfl (g11) rfl ?_
      refine WL.s rfl (g11) rfl ?_
      refine WL.s rfl (g11) rfl ?_
      refine WL.c rfl (o_pickF rfl (g11) ?_)
      refine WL.c rfl (o_ash (show _ = Value.bool _ from rfl) ?_)
      refine WL.nil ?_
      refine W.ret ?_
      refine ret1v rfl (show _ = Value.bool _ from rfl) ?_
      exact ⟨congrArg Value.bool (by rw [Bool.eq_iff_iff]; simp_all [nmT, isR] <;> omega), hx⟩
  · try simp only [decide_eq_true_eq, decide_eq_false_iff_not, Bool.not_eq_true', Bool.not_eq_false', Bool.and_eq_true, Bool.or_eq_true, Bool.and_eq_false_iff, Bool.or_eq_false_iff] at c6
    refine W.seq ?_
    refine W.region ?_
    refine WL.c rfl (o_eqT rfl rfl ?_)
    refine WL.c rfl (o_ash (show _ = Value.bool _ from rfl) ?_)
    refine WL.nil ?_
    refine W.cond rfl (fun c16 => ?_) (fun c16 => ?_)
    · try simp only [decide_eq_true_eq, decide_eq_false_iff_not, Bool.not_eq_true', Bool.not_eq_false', Bool.and_eq_true, Bool.or_eq_true, Bool.and_eq_false_iff, Bool.or_eq_false_iff] at c16
      refine W.seq ?_
      refine W.region ?_
      refine WL.c rfl (o_fa 0 TI58 rfl TI3 rfl rfl ?_)
      refine WL.c rfl (o_ld TI3 rfl rfl (cell_of hC2 rfl) ?_)
      refine WL.c rfl (o_eq rfl rfl ?_)
      refine WL.c rfl (o_ash (show _ = Value.bool _ from rfl) ?_)
      refine WL.nil ?_
      refine W.ret ?_
      refine ret1v rfl (show _ = Value.bool _ from rfl) ?_
      exact ⟨congrArg Value.bool (by rw [Bool.eq_iff_iff]; simp_all [nmT, isR] <;> omega), hx⟩
    · try simp only [decide_eq_true_eq, decide_eq_false_iff_not, Bool.not_eq_true', Bool.not_eq_false', Bool.and_eq_true, Bool.or_eq_true, Bool.and_eq_false_iff, Bool.or_eq_false_iff] at c16
      refine W.skip ?_
      refine W.seq ?_
      refine W.region ?_
      refine WL.c rfl (o_fa 0 TI58 rfl TI3 rfl rfl ?_)
      refine WL.c rfl (o_ld TI3 rfl rfl (cell_of hC2 rfl) ?_)
      refine WL.c rfl (o_ne rfl rfl ?_)
      refine WL.c rfl (o_mvh (show _ = Value.bool _ from rfl) ?_)
      refine WL.sp 3 rfl (fun g24 => ?_) (fun g24 => ?_)
      · skip
        refine WL.g rfl (g24) rfl (o_fa 1 TI58 rfl TI9 rfl rfl ?_)
        refine WL.g rfl (g24) rfl (o_ld TI9 rfl rfl (cell_of hC2 rfl) ?_)
        refine WL.g rfl (g24) rfl (o_mvh (show _ = Value.string _ from rfl) ?_)
        refine WL.g rfl (g24) rfl (o_eqT rfl rfl ?_)
        refine WL.c rfl (o_pickA rfl rfl ?_)
        refine WL.c rfl (o_ash (show _ = Value.bool _ from rfl) ?_)
        refine WL.nil ?_
        refine W.ret ?_
        refine ret1v rfl (show _ = Value.bool _ from rfl) ?_
        exact ⟨congrArg Value.bool (by rw [Bool.eq_iff_iff]; simp_all [nmT, isR] <;> omega), hx⟩
      · skip
        refine WL.s rfl (g24) rfl ?_
        refine WL.s rfl (g24) rfl ?_
        refine WL.s rfl (g24) rfl ?_
        refine WL.s rfl (g24) rfl ?_
        refine WL.c rfl (o_pickF rfl (g24) ?_)
        refine WL.c rfl (o_ash (show _ = Value.bool _ from rfl) ?_)
        refine WL.nil ?_
        refine W.ret ?_
        refine ret1v rfl (show _ = Value.bool _ from rfl) ?_
        exact ⟨congrArg Value.bool (by rw [Bool.eq_iff_iff]; simp_all [nmT, isR] <;> omega), hx⟩
theorem rbegins_spec (t : Tk) (w0 : World) : Ca Try.prog 69 #[.agg (tokV t)] w0 (fun v w' => v = .bool (bgnR t) ∧ Ext w0 w') := by
  refine Ca.of Try.func69 Try.ntmps69 rfl rfl ?_
  refine W.seq ?_
  refine W.region ?_
  refine WL.c rfl (o_boxB rfl ?_)
  intro w2 hC2 hx2 hs2
  have hx := hx2
  replace hC2 : w2.heap[w0.heap.size]? = some (.cells (tokV t) 58 (0, 0)) := hC2
  refine WL.c rfl (o_ash (show _ = Value.bool _ from rfl) ?_)
  refine WL.nil ?_
  refine W.seq ?_
  refine W.seq ?_
  refine W.region ?_
  refine WL.c rfl (o_fa 0 TI58 rfl TI3 rfl rfl ?_)
  refine WL.c rfl (o_ld TI3 rfl rfl (cell_of hC2 rfl) ?_)
  refine WL.c rfl (o_ne rfl rfl ?_)
  refine WL.nil ?_
  refine W.cond rfl (fun c5 => ?_) (fun c5 => ?_)
  · try simp only [decide_eq_true_eq, decide_eq_false_iff_not, Bool.not_eq_true', Bool.not_eq_false', Bool.and_eq_true, Bool.or_eq_true, Bool.and_eq_false_iff, Bool.or_eq_false_iff] at c5
    refine W.seq ?_
    refine W.region ?_
    refine WL.c rfl (o_ash (show _ = Value.bool _ from rfl) ?_)
    refine WL.nil ?_
    refine W.ret ?_
    refine ret1v rfl (show _ = Value.bool _ from rfl) ?_
    exact ⟨congrArg Value.bool (by rw [Bool.eq_iff_iff]; simp_all [bgnR] <;> omega), hx⟩
  · try simp only [decide_eq_true_eq, decide_eq_false_iff_not, Bool.not_eq_true', Bool.not_eq_false', Bool.and_eq_true, Bool.or_eq_true, Bool.and_eq_false_iff, Bool.or_eq_false_iff] at c5
    refine W.skip ?_
    refine W.seq ?_
    refine W.region ?_
    refine WL.c rfl (o_fa 1 TI58 rfl TI9 rfl rfl ?_)
    refine WL.c rfl (o_ld TI9 rfl rfl (cell_of hC2 rfl) ?_)
    refine WL.c rfl (o_neT rfl rfl ?_)
    refine WL.c rfl (o_ash (show _ = Value.bool _ from rfl) ?_)
    refine WL.nil ?_
    refine W.ret ?_
    refine ret1v rfl (show _ = Value.bool _ from rfl) ?_
    exact ⟨congrArg Value.bool (by rw [Bool.eq_iff_iff]; simp_all [bgnR] <;> omega), hx⟩
theorem inside_spec (t : Tk) (w0 : World) : Ca Try.prog 70 #[.agg (tokV t)] w0 (fun v w' => w'.ownsRow w0.heap.size 9 1 v (insS t).length ((insS t).map sySt) ∧ Ext w0 w') := by
  refine Ca.of Try.func70 Try.ntmps70 rfl rfl ?_
  refine W.seq ?_
  refine W.region ?_
  refine WL.c rfl (o_boxB rfl ?_)
  intro w2 hC2 hx2 hs2
  have hx := hx2
  replace hC2 : w2.heap[w0.heap.size]? = some (.cells (tokV t) 58 (0, 0)) := hC2
  refine WL.c rfl (o_ash (by first | exact (show _ = Value.slice _ _ _ from rfl) | exact rfl) ?_)
  refine WL.nil ?_
  refine W.seq ?_
  refine W.seq ?_
  refine W.region ?_
  refine WL.c rfl (o_fa 1 TI58 rfl TI9 rfl rfl ?_)
  refine WL.c rfl (o_ld TI9 rfl rfl (cell_of hC2 rfl) ?_)
  refine WL.nil ?_
  refine W.block ?_
  refine W.seq ?_
  refine W.seq ?_
  refine W.region ?_
  refine WL.c rfl (o_eqT rfl rfl ?_)
  refine WL.c rfl (o_ash (show _ = Value.bool _ from rfl) ?_)
  refine WL.nil ?_
  refine W.cond rfl (fun c5 => ?_) (fun c5 => ?_)
  · try simp only [decide_eq_true_eq, decide_eq_false_iff_not, Bool.not_eq_true', Bool.not_eq_false', Bool.and_eq_true, Bool.or_eq_true, Bool.and_eq_false_iff, Bool.or_eq_false_iff] at c5
    refine W.skip ?_
    refine W.cond rfl (fun c5 => ?_) (fun c5 => ?_)
    · try simp only [decide_eq_true_eq, decide_eq_false_iff_not, Bool.not_eq_true', Bool.not_eq_false', Bool.and_eq_true, Bool.or_eq_true, Bool.and_eq_false_iff, Bool.or_eq_false_iff] at c5
      refine W.seq ?_
      refine W.region ?_
      refine WL.c rfl (o_bsn (vs := [sySt (.tk 3 [60]), sySt .type, sySt (.tk 3 [44]), sySt .number, sySt (.tk 3 [62]), sySt .shut]) (xs := [(.const (.string (.mk #[60]))), (.const (.string (.mk #[40, 116, 121, 112, 101, 41]))), (.const (.string (.mk #[44]))), (.const (.string (.mk #[40, 110, 117, 109, 98, 101, 114, 41]))), (.const (.string (.mk #[62]))), (.const (.string (.mk #[40, 115, 104, 117, 116, 41])))]) TI62 TI9 rfl (lc (show _ = Value.string _ from rfl) (lc (show _ = Value.string _ from rfl) (lc (show _ = Value.string _ from rfl) (lc (show _ = Value.string _ from rfl) (lc (show _ = Value.string _ from rfl) (lc (show _ = Value.string _ from rfl) ln)))))) rfl rfl (by decide) (by decide) ?_)
      have hr : (w2.alloc (Obj.cells ([sySt (.tk 3 [60]), sySt .type, sySt (.tk 3 [44]), sySt .number, sySt (.tk 3 [62]), sySt .shut]).toArray 9)).ownsRow w0.heap.size 9 1 (.slice (some ⟨w2.heap.size, 0, none⟩) 6 6) 6 ([sySt (.tk 3 [60]), sySt .type, sySt (.tk 3 [44]), sySt .number, sySt (.tk 3 [62]), sySt .shut]) := own_mono (own_newN rfl (by decide)) (by omega)
      have hxl := Only.alloc w2 (Obj.cells ([sySt (.tk 3 [60]), sySt .type, sySt (.tk 3 [44]), sySt .number, sySt (.tk 3 [62]), sySt .shut]).toArray 9)
      generalize w2.alloc (Obj.cells ([sySt (.tk 3 [60]), sySt .type, sySt (.tk 3 [44]), sySt .number, sySt (.tk 3 [62]), sySt .shut]).toArray 9) = wl at hr hxl ⊢
      refine WL.c rfl (o_ash (by first | exact (show _ = Value.slice _ _ _ from rfl) | exact rfl) ?_)
      refine WL.nil ?_
      refine W.ret ?_
      refine ret1v rfl rfl ?_
      have hi : insS t = [(.tk 3 [60]), .type, (.tk 3 [44]), .number, (.tk 3 [62]), .shut] := by unfold insS; simp_all
      exact ⟨by rw [hi]; exact hr, hx.tr hxl⟩
    · try simp only [decide_eq_true_eq, decide_eq_false_iff_not, Bool.not_eq_true', Bool.not_eq_false', Bool.and_eq_true, Bool.or_eq_true, Bool.and_eq_false_iff, Bool.or_eq_false_iff] at c5
      refine W.seq ?_
      refine W.region ?_
      refine WL.c rfl (o_eqT rfl rfl ?_)
      refine WL.c rfl (o_ash (show _ = Value.bool _ from rfl) ?_)
      refine WL.nil ?_
      refine W.cond rfl (fun c9 => ?_) (fun c9 => ?_)
      · try simp only [decide_eq_true_eq, decide_eq_false_iff_not, Bool.not_eq_true', Bool.not_eq_false', Bool.and_eq_true, Bool.or_eq_true, Bool.and_eq_false_iff, Bool.or_eq_false_iff] at c9
        refine W.seq ?_
        refine W.region ?_
        refine WL.c rfl (o_bsn (vs := [sySt (.tk 3 [60]), sySt .type, sySt (.tk 3 [62]), sySt .shut]) (xs := [(.const (.string (.mk #[60]))), (.const (.string (.mk #[40, 116, 121, 112, 101, 41]))), (.const (.string (.mk #[62]))), (.const (.string (.mk #[40, 115, 104, 117, 116, 41])))]) TI62 TI9 rfl (lc (show _ = Value.string _ from rfl) (lc (show _ = Value.string _ from rfl) (lc (show _ = Value.string _ from rfl) (lc (show _ = Value.string _ from rfl) ln)))) rfl rfl (by decide) (by decide) ?_)
        have hr : (w2.alloc (Obj.cells ([sySt (.tk 3 [60]), sySt .type, sySt (.tk 3 [62]), sySt .shut]).toArray 9)).ownsRow w0.heap.size 9 1 (.slice (some ⟨w2.heap.size, 0, none⟩) 4 4) 4 ([sySt (.tk 3 [60]), sySt .type, sySt (.tk 3 [62]), sySt .shut]) := own_mono (own_newN rfl (by decide)) (by omega)
        have hxl := Only.alloc w2 (Obj.cells ([sySt (.tk 3 [60]), sySt .type, sySt (.tk 3 [62]), sySt .shut]).toArray 9)
        generalize w2.alloc (Obj.cells ([sySt (.tk 3 [60]), sySt .type, sySt (.tk 3 [62]), sySt .shut]).toArray 9) = wl at hr hxl ⊢
        refine WL.c rfl (o_ash (by first | exact (show _ = Value.slice _ _ _ from rfl) | exact rfl) ?_)
        refine WL.nil ?_
        refine W.ret ?_
        refine ret1v rfl rfl ?_
        have hi : insS t = [(.tk 3 [60]), .type, (.tk 3 [62]), .shut] := by unfold insS; simp_all
        exact ⟨by rw [hi]; exact hr, hx.tr hxl⟩
      · try simp only [decide_eq_true_eq, decide_eq_false_iff_not, Bool.not_eq_true', Bool.not_eq_false', Bool.and_eq_true, Bool.or_eq_true, Bool.and_eq_false_iff, Bool.or_eq_false_iff] at c9
        refine W.seq ?_
        refine W.region ?_
        refine WL.c rfl (o_eqT rfl rfl ?_)
        refine WL.c rfl (o_ash (show _ = Value.bool _ from rfl) ?_)
        refine WL.nil ?_
        refine W.cond rfl (fun c12 => ?_) (fun c12 => ?_)
        · try simp only [decide_eq_true_eq, decide_eq_false_iff_not, Bool.not_eq_true', Bool.not_eq_false', Bool.and_eq_true, Bool.or_eq_true, Bool.and_eq_false_iff, Bool.or_eq_false_iff] at c12
          refine W.seq ?_
          refine W.region ?_
          refine WL.c rfl (o_bsn (vs := [sySt (.tk 3 [123]), sySt .arm, sySt .arms, sySt .shut]) (xs := [(.const (.string (.mk #[123]))), (.const (.string (.mk #[40, 97, 114, 109, 41]))), (.const (.string (.mk #[40, 97, 114, 109, 115, 41]))), (.const (.string (.mk #[40, 115, 104, 117, 116, 41])))]) TI62 TI9 rfl (lc (show _ = Value.string _ from rfl) (lc (show _ = Value.string _ from rfl) (lc (show _ = Value.string _ from rfl) (lc (show _ = Value.string _ from rfl) ln)))) rfl rfl (by decide) (by decide) ?_)
          have hr : (w2.alloc (Obj.cells ([sySt (.tk 3 [123]), sySt .arm, sySt .arms, sySt .shut]).toArray 9)).ownsRow w0.heap.size 9 1 (.slice (some ⟨w2.heap.size, 0, none⟩) 4 4) 4 ([sySt (.tk 3 [123]), sySt .arm, sySt .arms, sySt .shut]) := own_mono (own_newN rfl (by decide)) (by omega)
          have hxl := Only.alloc w2 (Obj.cells ([sySt (.tk 3 [123]), sySt .arm, sySt .arms, sySt .shut]).toArray 9)
          generalize w2.alloc (Obj.cells ([sySt (.tk 3 [123]), sySt .arm, sySt .arms, sySt .shut]).toArray 9) = wl at hr hxl ⊢
          refine WL.c rfl (o_ash (by first | exact (show _ = Value.slice _ _ _ from rfl) | exact rfl) ?_)
          refine WL.nil ?_
          refine W.ret ?_
          refine ret1v rfl rfl ?_
          have hi : insS t = [(.tk 3 [123]), .arm, .arms, .shut] := by unfold insS; simp_all
          exact ⟨by rw [hi]; exact hr, hx.tr hxl⟩
        · try simp only [decide_eq_true_eq, decide_eq_false_iff_not, Bool.not_eq_true', Bool.not_eq_false', Bool.and_eq_true, Bool.or_eq_true, Bool.and_eq_false_iff, Bool.or_eq_false_iff] at c12
          refine W.seq ?_
          refine W.region ?_
          refine WL.c rfl (o_eqT rfl rfl ?_)
          refine WL.c rfl (o_ash (show _ = Value.bool _ from rfl) ?_)
          refine WL.nil ?_
          refine W.cond rfl (fun c15 => ?_) (fun c15 => ?_)
          · try simp only [decide_eq_true_eq, decide_eq_false_iff_not, Bool.not_eq_true', Bool.not_eq_false', Bool.and_eq_true, Bool.or_eq_true, Bool.and_eq_false_iff, Bool.or_eq_false_iff] at c15
            refine W.seq ?_
            refine W.region ?_
            refine WL.c rfl (o_bsn (vs := [sySt (.tk 3 [123]), sySt .field, sySt .fields, sySt .shut]) (xs := [(.const (.string (.mk #[123]))), (.const (.string (.mk #[40, 102, 105, 101, 108, 100, 41]))), (.const (.string (.mk #[40, 102, 105, 101, 108, 100, 115, 41]))), (.const (.string (.mk #[40, 115, 104, 117, 116, 41])))]) TI62 TI9 rfl (lc (show _ = Value.string _ from rfl) (lc (show _ = Value.string _ from rfl) (lc (show _ = Value.string _ from rfl) (lc (show _ = Value.string _ from rfl) ln)))) rfl rfl (by decide) (by decide) ?_)
            have hr : (w2.alloc (Obj.cells ([sySt (.tk 3 [123]), sySt .field, sySt .fields, sySt .shut]).toArray 9)).ownsRow w0.heap.size 9 1 (.slice (some ⟨w2.heap.size, 0, none⟩) 4 4) 4 ([sySt (.tk 3 [123]), sySt .field, sySt .fields, sySt .shut]) := own_mono (own_newN rfl (by decide)) (by omega)
            have hxl := Only.alloc w2 (Obj.cells ([sySt (.tk 3 [123]), sySt .field, sySt .fields, sySt .shut]).toArray 9)
            generalize w2.alloc (Obj.cells ([sySt (.tk 3 [123]), sySt .field, sySt .fields, sySt .shut]).toArray 9) = wl at hr hxl ⊢
            refine WL.c rfl (o_ash (by first | exact (show _ = Value.slice _ _ _ from rfl) | exact rfl) ?_)
            refine WL.nil ?_
            refine W.ret ?_
            refine ret1v rfl rfl ?_
            have hi : insS t = [(.tk 3 [123]), .field, .fields, .shut] := by unfold insS; simp_all
            exact ⟨by rw [hi]; exact hr, hx.tr hxl⟩
          · try simp only [decide_eq_true_eq, decide_eq_false_iff_not, Bool.not_eq_true', Bool.not_eq_false', Bool.and_eq_true, Bool.or_eq_true, Bool.and_eq_false_iff, Bool.or_eq_false_iff] at c15
            refine W.skip ?_
            refine W.seq ?_
            refine W.region ?_
            refine WL.c rfl (o_ash (by first | exact (show _ = Value.slice _ _ _ from rfl) | exact rfl) ?_)
            refine WL.nil ?_
            refine W.ret ?_
            refine ret1v rfl rfl ?_
            have hi : insS t = [] := by unfold insS; simp_all
            exact ⟨by rw [hi]; exact World.ownsRow_nil _ _ _ _, hx⟩
  · try simp only [decide_eq_true_eq, decide_eq_false_iff_not, Bool.not_eq_true', Bool.not_eq_false', Bool.and_eq_true, Bool.or_eq_true, Bool.and_eq_false_iff, Bool.or_eq_false_iff] at c5
    refine W.region ?_
    refine WL.c rfl (o_eqT rfl rfl ?_)
    refine WL.c rfl (o_ash (show _ = Value.bool _ from rfl) ?_)
    refine WL.nil ?_
    refine W.cond rfl (fun c5 => ?_) (fun c5 => ?_)
    · try simp only [decide_eq_true_eq, decide_eq_false_iff_not, Bool.not_eq_true', Bool.not_eq_false', Bool.and_eq_true, Bool.or_eq_true, Bool.and_eq_false_iff, Bool.or_eq_false_iff] at c5
      refine W.seq ?_
      refine W.region ?_
      refine WL.c rfl (o_bsn (vs := [sySt (.tk 3 [60]), sySt .type, sySt (.tk 3 [44]), sySt .number, sySt (.tk 3 [62]), sySt .shut]) (xs := [(.const (.string (.mk #[60]))), (.const (.string (.mk #[40, 116, 121, 112, 101, 41]))), (.const (.string (.mk #[44]))), (.const (.string (.mk #[40, 110, 117, 109, 98, 101, 114, 41]))), (.const (.string (.mk #[62]))), (.const (.string (.mk #[40, 115, 104, 117, 116, 41])))]) TI62 TI9 rfl (lc (show _ = Value.string _ from rfl) (lc (show _ = Value.string _ from rfl) (lc (show _ = Value.string _ from rfl) (lc (show _ = Value.string _ from rfl) (lc (show _ = Value.string _ from rfl) (lc (show _ = Value.string _ from rfl) ln)))))) rfl rfl (by decide) (by decide) ?_)
      have hr : (w2.alloc (Obj.cells ([sySt (.tk 3 [60]), sySt .type, sySt (.tk 3 [44]), sySt .number, sySt (.tk 3 [62]), sySt .shut]).toArray 9)).ownsRow w0.heap.size 9 1 (.slice (some ⟨w2.heap.size, 0, none⟩) 6 6) 6 ([sySt (.tk 3 [60]), sySt .type, sySt (.tk 3 [44]), sySt .number, sySt (.tk 3 [62]), sySt .shut]) := own_mono (own_newN rfl (by decide)) (by omega)
      have hxl := Only.alloc w2 (Obj.cells ([sySt (.tk 3 [60]), sySt .type, sySt (.tk 3 [44]), sySt .number, sySt (.tk 3 [62]), sySt .shut]).toArray 9)
      generalize w2.alloc (Obj.cells ([sySt (.tk 3 [60]), sySt .type, sySt (.tk 3 [44]), sySt .number, sySt (.tk 3 [62]), sySt .shut]).toArray 9) = wl at hr hxl ⊢
      refine WL.c rfl (o_ash (by first | exact (show _ = Value.slice _ _ _ from rfl) | exact rfl) ?_)
      refine WL.nil ?_
      refine W.ret ?_
      refine ret1v rfl rfl ?_
      have hi : insS t = [(.tk 3 [60]), .type, (.tk 3 [44]), .number, (.tk 3 [62]), .shut] := by unfold insS; simp_all
      exact ⟨by rw [hi]; exact hr, hx.tr hxl⟩
    · try simp only [decide_eq_true_eq, decide_eq_false_iff_not, Bool.not_eq_true', Bool.not_eq_false', Bool.and_eq_true, Bool.or_eq_true, Bool.and_eq_false_iff, Bool.or_eq_false_iff] at c5
      refine W.seq ?_
      refine W.region ?_
      refine WL.c rfl (o_eqT rfl rfl ?_)
      refine WL.c rfl (o_ash (show _ = Value.bool _ from rfl) ?_)
      refine WL.nil ?_
      refine W.cond rfl (fun c9 => ?_) (fun c9 => ?_)
      · try simp only [decide_eq_true_eq, decide_eq_false_iff_not, Bool.not_eq_true', Bool.not_eq_false', Bool.and_eq_true, Bool.or_eq_true, Bool.and_eq_false_iff, Bool.or_eq_false_iff] at c9
        refine W.seq ?_
        refine W.region ?_
        refine WL.c rfl (o_bsn (vs := [sySt (.tk 3 [60]), sySt .type, sySt (.tk 3 [62]), sySt .shut]) (xs := [(.const (.string (.mk #[60]))), (.const (.string (.mk #[40, 116, 121, 112, 101, 41]))), (.const (.string (.mk #[62]))), (.const (.string (.mk #[40, 115, 104, 117, 116, 41])))]) TI62 TI9 rfl (lc (show _ = Value.string _ from rfl) (lc (show _ = Value.string _ from rfl) (lc (show _ = Value.string _ from rfl) (lc (show _ = Value.string _ from rfl) ln)))) rfl rfl (by decide) (by decide) ?_)
        have hr : (w2.alloc (Obj.cells ([sySt (.tk 3 [60]), sySt .type, sySt (.tk 3 [62]), sySt .shut]).toArray 9)).ownsRow w0.heap.size 9 1 (.slice (some ⟨w2.heap.size, 0, none⟩) 4 4) 4 ([sySt (.tk 3 [60]), sySt .type, sySt (.tk 3 [62]), sySt .shut]) := own_mono (own_newN rfl (by decide)) (by omega)
        have hxl := Only.alloc w2 (Obj.cells ([sySt (.tk 3 [60]), sySt .type, sySt (.tk 3 [62]), sySt .shut]).toArray 9)
        generalize w2.alloc (Obj.cells ([sySt (.tk 3 [60]), sySt .type, sySt (.tk 3 [62]), sySt .shut]).toArray 9) = wl at hr hxl ⊢
        refine WL.c rfl (o_ash (by first | exact (show _ = Value.slice _ _ _ from rfl) | exact rfl) ?_)
        refine WL.nil ?_
        refine W.ret ?_
        refine ret1v rfl rfl ?_
        have hi : insS t = [(.tk 3 [60]), .type, (.tk 3 [62]), .shut] := by unfold insS; simp_all
        exact ⟨by rw [hi]; exact hr, hx.tr hxl⟩
      · try simp only [decide_eq_true_eq, decide_eq_false_iff_not, Bool.not_eq_true', Bool.not_eq_false', Bool.and_eq_true, Bool.or_eq_true, Bool.and_eq_false_iff, Bool.or_eq_false_iff] at c9
        refine W.seq ?_
        refine W.region ?_
        refine WL.c rfl (o_eqT rfl rfl ?_)
        refine WL.c rfl (o_ash (show _ = Value.bool _ from rfl) ?_)
        refine WL.nil ?_
        refine W.cond rfl (fun c12 => ?_) (fun c12 => ?_)
        · try simp only [decide_eq_true_eq, decide_eq_false_iff_not, Bool.not_eq_true', Bool.not_eq_false', Bool.and_eq_true, Bool.or_eq_true, Bool.and_eq_false_iff, Bool.or_eq_false_iff] at c12
          refine W.seq ?_
          refine W.region ?_
          refine WL.c rfl (o_bsn (vs := [sySt (.tk 3 [123]), sySt .arm, sySt .arms, sySt .shut]) (xs := [(.const (.string (.mk #[123]))), (.const (.string (.mk #[40, 97, 114, 109, 41]))), (.const (.string (.mk #[40, 97, 114, 109, 115, 41]))), (.const (.string (.mk #[40, 115, 104, 117, 116, 41])))]) TI62 TI9 rfl (lc (show _ = Value.string _ from rfl) (lc (show _ = Value.string _ from rfl) (lc (show _ = Value.string _ from rfl) (lc (show _ = Value.string _ from rfl) ln)))) rfl rfl (by decide) (by decide) ?_)
          have hr : (w2.alloc (Obj.cells ([sySt (.tk 3 [123]), sySt .arm, sySt .arms, sySt .shut]).toArray 9)).ownsRow w0.heap.size 9 1 (.slice (some ⟨w2.heap.size, 0, none⟩) 4 4) 4 ([sySt (.tk 3 [123]), sySt .arm, sySt .arms, sySt .shut]) := own_mono (own_newN rfl (by decide)) (by omega)
          have hxl := Only.alloc w2 (Obj.cells ([sySt (.tk 3 [123]), sySt .arm, sySt .arms, sySt .shut]).toArray 9)
          generalize w2.alloc (Obj.cells ([sySt (.tk 3 [123]), sySt .arm, sySt .arms, sySt .shut]).toArray 9) = wl at hr hxl ⊢
          refine WL.c rfl (o_ash (by first | exact (show _ = Value.slice _ _ _ from rfl) | exact rfl) ?_)
          refine WL.nil ?_
          refine W.ret ?_
          refine ret1v rfl rfl ?_
          have hi : insS t = [(.tk 3 [123]), .arm, .arms, .shut] := by unfold insS; simp_all
          exact ⟨by rw [hi]; exact hr, hx.tr hxl⟩
        · try simp only [decide_eq_true_eq, decide_eq_false_iff_not, Bool.not_eq_true', Bool.not_eq_false', Bool.and_eq_true, Bool.or_eq_true, Bool.and_eq_false_iff, Bool.or_eq_false_iff] at c12
          refine W.seq ?_
          refine W.region ?_
          refine WL.c rfl (o_eqT rfl rfl ?_)
          refine WL.c rfl (o_ash (show _ = Value.bool _ from rfl) ?_)
          refine WL.nil ?_
          refine W.cond rfl (fun c15 => ?_) (fun c15 => ?_)
          · try simp only [decide_eq_true_eq, decide_eq_false_iff_not, Bool.not_eq_true', Bool.not_eq_false', Bool.and_eq_true, Bool.or_eq_true, Bool.and_eq_false_iff, Bool.or_eq_false_iff] at c15
            refine W.seq ?_
            refine W.region ?_
            refine WL.c rfl (o_bsn (vs := [sySt (.tk 3 [123]), sySt .field, sySt .fields, sySt .shut]) (xs := [(.const (.string (.mk #[123]))), (.const (.string (.mk #[40, 102, 105, 101, 108, 100, 41]))), (.const (.string (.mk #[40, 102, 105, 101, 108, 100, 115, 41]))), (.const (.string (.mk #[40, 115, 104, 117, 116, 41])))]) TI62 TI9 rfl (lc (show _ = Value.string _ from rfl) (lc (show _ = Value.string _ from rfl) (lc (show _ = Value.string _ from rfl) (lc (show _ = Value.string _ from rfl) ln)))) rfl rfl (by decide) (by decide) ?_)
            have hr : (w2.alloc (Obj.cells ([sySt (.tk 3 [123]), sySt .field, sySt .fields, sySt .shut]).toArray 9)).ownsRow w0.heap.size 9 1 (.slice (some ⟨w2.heap.size, 0, none⟩) 4 4) 4 ([sySt (.tk 3 [123]), sySt .field, sySt .fields, sySt .shut]) := own_mono (own_newN rfl (by decide)) (by omega)
            have hxl := Only.alloc w2 (Obj.cells ([sySt (.tk 3 [123]), sySt .field, sySt .fields, sySt .shut]).toArray 9)
            generalize w2.alloc (Obj.cells ([sySt (.tk 3 [123]), sySt .field, sySt .fields, sySt .shut]).toArray 9) = wl at hr hxl ⊢
            refine WL.c rfl (o_ash (by first | exact (show _ = Value.slice _ _ _ from rfl) | exact rfl) ?_)
            refine WL.nil ?_
            refine W.ret ?_
            refine ret1v rfl rfl ?_
            have hi : insS t = [(.tk 3 [123]), .field, .fields, .shut] := by unfold insS; simp_all
            exact ⟨by rw [hi]; exact hr, hx.tr hxl⟩
          · try simp only [decide_eq_true_eq, decide_eq_false_iff_not, Bool.not_eq_true', Bool.not_eq_false', Bool.and_eq_true, Bool.or_eq_true, Bool.and_eq_false_iff, Bool.or_eq_false_iff] at c15
            refine W.skip ?_
            refine W.seq ?_
            refine W.region ?_
            refine WL.c rfl (o_ash (by first | exact (show _ = Value.slice _ _ _ from rfl) | exact rfl) ?_)
            refine WL.nil ?_
            refine W.ret ?_
            refine ret1v rfl rfl ?_
            have hi : insS t = [] := by unfold insS; simp_all
            exact ⟨by rw [hi]; exact World.ownsRow_nil _ _ _ _, hx⟩
theorem rplace_spec (lv : Value) (T : List Tk) (i n : Nat) (w0 : World) (hS : Sl w0 5 lv T.length (flat T)) : Ca Try.prog 43 #[lv, .int .i64 (i : Int), .int .i64 (n : Int)] w0 (fun v w' => v = .int .i64 (plc T n i : Int) ∧ w' = w0) := by
  refine Ca.of Try.func43 Try.ntmps43 rfl rfl ?_
  refine W.seq ?_
  refine W.region ?_
  refine WL.c rfl (o_ash (show _ = Value.int _ _ from rfl) ?_)
  refine WL.nil ?_
  refine W.seq ?_
  refine W.seq ?_
  refine W.region ?_
  refine WL.c rfl (o_mvh (show _ = Value.int _ _ from rfl) ?_)
  refine WL.c rfl (o_mvh (by first | exact (show _ = Value.slice _ _ _ from rfl) | exact rfl) ?_)
  refine WL.c rfl (o_lenR TI54 rfl hS ?_)
  refine WL.c rfl (o_lt rfl rfl ?_)
  refine WL.nil ?_
  refine W.cond rfl (fun c10 => ?_) (fun c10 => ?_)
  · try simp only [decide_eq_true_eq, decide_eq_false_iff_not, Bool.not_eq_true', Bool.not_eq_false', Bool.and_eq_true, Bool.or_eq_true, Bool.and_eq_false_iff, Bool.or_eq_false_iff] at c10
    have hi : i < T.length := by omega
    obtain ⟨tb, to_, tc, rfl, htc⟩ := Sl.tok hS hi
    refine W.seq ?_
    refine W.region ?_
    refine WL.c rfl (o_mvh (by first | exact (show _ = Value.slice _ _ _ from rfl) | exact rfl) ?_)
    refine WL.c rfl (o_mvh (show _ = Value.int _ _ from rfl) ?_)
    refine WL.c rfl (o_ixB TI54 TI58 rfl rfl (by omega) ?_)
    refine WL.c rfl (o_fa 3 TI58 rfl TI3 rfl rfl ?_)
    refine WL.c rfl (o_ld TI3 rfl rfl (htc 3 _ rfl) ?_)
    refine WL.c rfl (o_ash (show _ = Value.int _ _ from rfl) ?_)
    refine WL.nil ?_
    refine W.ret ?_
    refine ret1v rfl (show _ = Value.int _ _ from rfl) ?_
    exact ⟨by rw [plc_lt hi], rfl⟩
  · try simp only [decide_eq_true_eq, decide_eq_false_iff_not, Bool.not_eq_true', Bool.not_eq_false', Bool.and_eq_true, Bool.or_eq_true, Bool.and_eq_false_iff, Bool.or_eq_false_iff] at c10
    refine W.skip ?_
    refine W.seq ?_
    refine W.region ?_
    refine WL.c rfl (o_mvh (show _ = Value.int _ _ from rfl) ?_)
    refine WL.c rfl (o_ash (show _ = Value.int _ _ from rfl) ?_)
    refine WL.nil ?_
    refine W.ret ?_
    refine ret1v rfl (show _ = Value.int _ _ from rfl) ?_
    exact ⟨by rw [plc, if_neg (by omega)], rfl⟩
theorem map1_spec (s : List UInt8) (w0 : World) : Ca Try.prog 77 #[st s] w0 (fun v w' => v = .int .i64 (if s = [117, 56] then 1 else if s = [117, 49, 54] then 2 else if s = [117, 51, 50] then 4 else 8) ∧ w' = w0) := by
  refine Ca.of Try.func77 Try.ntmps77 rfl rfl ?_
  refine W.seq ?_
  refine W.region ?_
  refine WL.c rfl (o_ash (show _ = Value.int _ _ from rfl) ?_)
  refine WL.nil ?_
  refine W.seq ?_
  refine W.seq ?_
  refine W.region ?_
  refine WL.c rfl (o_mvh (show _ = Value.string _ from rfl) ?_)
  refine WL.nil ?_
  refine W.block ?_
  refine W.seq ?_
  refine W.region ?_
  refine WL.c rfl (o_eqT rfl rfl ?_)
  refine WL.c rfl (o_ash (show _ = Value.bool _ from rfl) ?_)
  refine WL.nil ?_
  refine W.cond rfl (fun c4 => ?_) (fun c4 => ?_)
  · try simp only [decide_eq_true_eq, decide_eq_false_iff_not, Bool.not_eq_true', Bool.not_eq_false', Bool.and_eq_true, Bool.or_eq_true, Bool.and_eq_false_iff, Bool.or_eq_false_iff] at c4
    refine W.seq ?_
    refine W.region ?_
    refine WL.c rfl (o_ash (show _ = Value.int _ _ from rfl) ?_)
    refine WL.nil ?_
    refine W.ret ?_
    refine ret1v rfl (show _ = Value.int _ _ from rfl) ?_
    exact ⟨by simp_all, rfl⟩
  · try simp only [decide_eq_true_eq, decide_eq_false_iff_not, Bool.not_eq_true', Bool.not_eq_false', Bool.and_eq_true, Bool.or_eq_true, Bool.and_eq_false_iff, Bool.or_eq_false_iff] at c4
    refine W.seq ?_
    refine W.region ?_
    refine WL.c rfl (o_eqT rfl rfl ?_)
    refine WL.c rfl (o_ash (show _ = Value.bool _ from rfl) ?_)
    refine WL.nil ?_
    refine W.cond rfl (fun c6 => ?_) (fun c6 => ?_)
    · try simp only [decide_eq_true_eq, decide_eq_false_iff_not, Bool.not_eq_true', Bool.not_eq_false', Bool.and_eq_true, Bool.or_eq_true, Bool.and_eq_false_iff, Bool.or_eq_false_iff] at c6
      refine W.seq ?_
      refine W.region ?_
      refine WL.c rfl (o_ash (show _ = Value.int _ _ from rfl) ?_)
      refine WL.nil ?_
      refine W.ret ?_
      refine ret1v rfl (show _ = Value.int _ _ from rfl) ?_
      exact ⟨by simp_all, rfl⟩
    · try simp only [decide_eq_true_eq, decide_eq_false_iff_not, Bool.not_eq_true', Bool.not_eq_false', Bool.and_eq_true, Bool.or_eq_true, Bool.and_eq_false_iff, Bool.or_eq_false_iff] at c6
      refine W.seq ?_
      refine W.region ?_
      refine WL.c rfl (o_eqT rfl rfl ?_)
      refine WL.c rfl (o_ash (show _ = Value.bool _ from rfl) ?_)
      refine WL.nil ?_
      refine W.cond rfl (fun c8 => ?_) (fun c8 => ?_)
      · try simp only [decide_eq_true_eq, decide_eq_false_iff_not, Bool.not_eq_true', Bool.not_eq_false', Bool.and_eq_true, Bool.or_eq_true, Bool.and_eq_false_iff, Bool.or_eq_false_iff] at c8
        refine W.seq ?_
        refine W.region ?_
        refine WL.c rfl (o_ash (show _ = Value.int _ _ from rfl) ?_)
        refine WL.nil ?_
        refine W.ret ?_
        refine ret1v rfl (show _ = Value.int _ _ from rfl) ?_
        exact ⟨by simp_all, rfl⟩
      · try simp only [decide_eq_true_eq, decide_eq_false_iff_not, Bool.not_eq_true', Bool.not_eq_false', Bool.and_eq_true, Bool.or_eq_true, Bool.and_eq_false_iff, Bool.or_eq_false_iff] at c8
        refine W.skip ?_
        refine W.seq ?_
        refine W.region ?_
        refine WL.c rfl (o_ash (show _ = Value.int _ _ from rfl) ?_)
        refine WL.nil ?_
        refine W.ret ?_
        refine ret1v rfl (show _ = Value.int _ _ from rfl) ?_
        exact ⟨by simp_all, rfl⟩
set_option maxHeartbeats 1000000 in
theorem push_spec (H p : Nat) (lv sv0 ov : Value) (T : List Tk) (i d : Nat) (S ys : List Sy) (o : List Nat) (x : Value) (H2 : Nat) (w0 : World) (hM : RdM w0 H p lv sv0 ov T ⟨i, S, o, d⟩) (hX : w0.ownsRow H2 9 1 x ys.length (ys.map sySt)) (hH : H ≤ H2) (hXs : ∀ b, x.ownBlock = some b → ¬ sv0.ownBlock = some b) (hb : S.length + ys.length ≤ 1000000) : Ca Try.prog 68 #[.pointer (some ⟨p, 0, none⟩), x] w0 (fun v w' => ∃ sv, RdM w' H p lv sv ov T ⟨i, ys ++ S, o, d⟩ ∧ Only (fun k => H ≤ k) w0 w') := by
  have hO : Only (fun k => H ≤ k) w0 w0 := Only.refl _ _
  refine Ca.of Try.func68 Try.ntmps68 rfl rfl ?_
  refine W.seq ?_
  refine W.region ?_
  refine WL.c rfl (o_mvh (by first | exact (show _ = Value.slice _ _ _ from rfl) | exact rfl) ?_)
  refine WL.c rfl (o_lenR TI62 rfl (Sl.own hX) ?_)
  refine WL.c rfl (o_subi rfl rfl (by omega) ?_)
  refine WL.c rfl (o_ash (show _ = Value.int _ _ from rfl) ?_)
  refine WL.nil ?_
  refine W.block ?_
  refine W.loop (fun e w => ∃ (k : Nat) (sv : Value), k ≤ ys.length ∧ e 0 = .pointer (some ⟨p, 0, none⟩) ∧ e 1 = x ∧ e 4 = .int .i64 ((k : Int) - 1) ∧ RdM w H p lv sv ov T ⟨i, ys.drop k ++ S, o, d⟩ ∧ w.ownsRow H2 9 1 x ys.length (ys.map sySt) ∧ (∀ b, x.ownBlock = some b → ¬ sv.ownBlock = some b) ∧ Only (fun k => H ≤ k) w0 w) (fun e w => (intOf (e 4) + 1).toNat) ?_ ?_
  · exact ⟨ys.length, sv0, Nat.le_refl _, rfl, rfl, rfl, by rw [List.drop_length]; exact hM, hX, hXs, hO⟩
  rintro e w ⟨k, sv, hk, h0, h1, h4, hM, hX, hXs, hO⟩
  have hm4 := h4
  refine W.seq ?_
  refine W.seq ?_
  refine W.region ?_
  refine WL.c rfl (o_mvh h4 ?_)
  refine WL.c rfl (o_ge rfl rfl ?_)
  refine WL.nil ?_
  refine W.cond rfl (fun c9 => ?_) (fun c9 => ?_)
  · try simp only [decide_eq_true_eq, decide_eq_false_iff_not, Bool.not_eq_true', Bool.not_eq_false', Bool.and_eq_true, Bool.or_eq_true, Bool.and_eq_false_iff, Bool.or_eq_false_iff] at c9
    have hk1 : 0 < k := by omega
    obtain ⟨gx, cx, hxv, hgx⟩ := own_some hX (by omega)
    rw [hxv] at h1 hX
    have hkl : k - 1 < ys.length := by omega
    have hdr : ys.drop (k - 1) = ys[k - 1] :: ys.drop k := by
      rw [← List.getElem_cons_drop hkl, show k - 1 + 1 = k by omega]
    have hlen : (ys.drop k ++ S).length ≤ 1000000 := by rw [List.length_append, List.length_drop]; omega
    refine W.skip ?_
    refine W.seq ?_
    refine W.block ?_
    obtain ⟨wd, hwd⟩ : ∃ wd, wd = w.drew := ⟨_, rfl⟩
    have hxd : Ext w wd := hwd ▸ Only.drew w
    replace hM := hM.ext hxd
    replace hX := own_ext hX hxd
    replace hO := hO.ext hxd
    have hcell := hM.cell
    have hsp := hM.sp
    have hlt : ∀ k, sv.ownBlock = some k → k < wd.heap.size := fun k hk => (hM.stk.lt k hk).2
    have hpl : p < wd.heap.size := (Array.getElem?_eq_some_iff.1 hcell).1
    have hle := hM.le
    refine W.drawF 11 [10] [fun k => sv.ownBlock = some k] [(0, fun v _ => v = _), (1, fun v _ => v = _), (4, fun v _ => v = _)] rfl (by kernel_rfl) (by kernel_rfl) ⟨Mono.eq, Mono.eq, Mono.eq, trivial⟩ ⟨h0, h1, h4, trivial⟩ ?_
    refine WDS.p rfl (by decide) (fun e w hR hh => by obtain ⟨h0, -⟩ := hh; exact SG.n (o_mvh h0 ⟨rfl, Only.refl No _⟩)) ?_
    refine WDS.p rfl (by decide) (fun e w hR hh => by obtain ⟨h0, -⟩ := hh; exact SG.n (o_mvh h0 ⟨rfl, Only.refl No _⟩)) ?_
    refine WDS.p rfl (by decide) (fun e w hR hh => by obtain ⟨h13, -⟩ := hh; rw [← hwd] at hR; exact SG.n (o_nil h13 ⟨rfl, Only.refl No _⟩)) ?_
    refine WDS.p rfl (by decide) (fun e w hR hh => by obtain ⟨h14, -⟩ := hh; exact SG.n (o_fa 2 TI92 rfl TI62 rfl h14 ⟨rfl, Only.refl No _⟩)) ?_
    refine WDS.p rfl (by decide) (fun e w hR hh => by obtain ⟨h15, -⟩ := hh; rw [← hwd] at hR; exact SG.n (o_ld TI62 rfl h15 (cell_of (hR.blk hcell (fun hF => by rcases hF with hF | hF <;> first | exact hF | exact hsp hF)) rfl) ⟨rfl, Only.refl No _⟩)) ?_
    refine WDS.p rfl (by decide) (fun e w hR hh => by obtain ⟨h1, -⟩ := hh; exact SG.n (o_mvh h1 ⟨rfl, Only.refl No _⟩)) ?_
    refine WDS.p rfl (by decide) (fun e w hR hh => by obtain ⟨h4, -⟩ := hh; exact SG.n (o_mvh h4 ⟨rfl, Only.refl No _⟩)) ?_
    refine WDS.p rfl (by decide) (fun e w hR hh => by obtain ⟨h18, h17, -⟩ := hh; exact SG.n (o_ixB (i := k - 1) TI62 TI9 h17 (h18.trans (by congr 1; omega)) hkl ⟨rfl, Only.refl No _⟩)) ?_
    refine WDS.p rfl (by decide) (fun e w hR hh => by obtain ⟨h19, -⟩ := hh; rw [← hwd] at hR; exact SG.n (o_ld TI9 rfl h19 (own_at (own_only hX hR (fun b hb hF => by rcases hF with hF | hF <;> first | exact hF | exact hXs b (hxv ▸ hb) hF)) (i := k - 1) (by rw [List.getElem?_map, List.getElem?_eq_getElem hkl]; rfl)) ⟨rfl, Only.refl No _⟩)) ?_
    refine WDS.q 0 (fun v w => ∃ b, wd.heap.size ≤ b ∧ v = .slice (some ⟨b, 0, none⟩) 1 1 ∧ Sl w 1 v 1 [sySt ys[k - 1]]) (fun v w w2 hR hh => by obtain ⟨b, hb, hv, hS⟩ := hh; exact ⟨b, hb, hv, hS.only hR (fun j hj hF => by rw [hv] at hj; simp [Value.ownBlock] at hj; rcases hF with hF | hF <;> first | exact hF | (have := hlt _ hF; omega))⟩) (by kernel_rfl) rfl (by decide) (fun e w hR hh => by obtain ⟨h20, -⟩ := hh; rw [← hwd] at hR; exact SG.n (o_bs1 TI62 TI9 h20 (by decide) (by decide) rfl ⟨⟨_, hR.size, rfl, Sl.one rfl⟩, Only.alloc _ _⟩)) ?_
    refine WDS.mf 0 1 (fun v w => w.ownsRow H 9 1 v ((ys.drop k ++ S).length + 1) ((ys.drop k ++ S).reverse.map sySt ++ [sySt ys[k - 1]]) ∧ (v.ownBlock = sv.ownBlock ∨ ∃ g, wd.heap.size ≤ g ∧ v.ownBlock = some g)) (fun v w w2 hR hh => ⟨own_ext hh.1 hR, hh.2⟩) (by kernel_rfl) rfl rfl rfl (fun e w hR hW hh => by obtain ⟨h21, h16, -⟩ := hh; rw [← hwd] at hR hW; have hw2 := hR.size; have hW2 : Ext wd w := hW.mono (fun k _ hF => hF); obtain ⟨b21, hb21, hv21, hS21⟩ := h21; exact SGX.n (OP.x (o_apO H TI62 TI9 h16 rfl (own_ext hM.stk hW2) hS21 rfl (by decide) (by intro a ha; rw [List.mem_singleton] at ha; subst ha; rfl) (by rw [maxLen_eq]; show (ys.drop k ++ S).length + 1 ≤ _; omega) (by show ((ys.drop k ++ S).length + 1) * _ ≤ _; omega) (by omega) (fun v' w' h1 h2 h3 _ => ⟨⟨h1, h3.imp id (fun h => ⟨_, hw2, h⟩)⟩, h2⟩)))) ?_
    rintro e w hR ⟨h22, h21, h20, h19, h18, h17, h16, h15, h14, h13, h12, h0, h1, h4, -⟩
    rw [← hwd] at hR
    obtain ⟨hr22, hb22⟩ := h22
    obtain ⟨v22, hv22⟩ : ∃ v, v = e 22 := ⟨_, rfl⟩
    rw [← hv22] at hr22 hb22
    replace hR : Only (fun k => sv.ownBlock = some k) wd w := hR.mono (fun k _ hF => by rcases hF with hF | hF <;> first | exact hF | exact hF.elim)
    obtain ⟨hc3, ht3, hn3⟩ := hM.stkOnly hR
    have hs3 : w.ownsRow H 9 1 v22 (ys.drop (k - 1) ++ S).length ((ys.drop (k - 1) ++ S).reverse.map sySt) := by
      rw [hdr, List.cons_append, List.length_cons, List.reverse_cons, List.map_append]; exact hr22
    have hX3 := own_only hX hR (fun b hb => hXs b (hxv ▸ hb))
    have hxl := fun b hb => (hX.lt b hb).2
    have hzR := hR.size
    have hge := fun k hk => (hM.stk.lt k hk).1
    replace hO := hO.trans' hR (fun _ h => h) (fun k _ hk => hge k hk)
    refine WL.c rfl (o_nil h12 ?_)
    refine WL.c rfl (o_fa 2 TI92 rfl TI62 rfl rfl ?_)
    refine WL.u (o_stB TI62 rfl (show _ = v22 from hv22.symm) (own_one hr22) hc3 (show 2 < 5 by decide) ?_)
    intro w5 hB5 ho5 hs5
    have hM3 : RdM w5 H p lv v22 ov T ⟨i, ys.drop (k - 1) ++ S, o, d⟩ := ⟨hB5, own_only ht3 ho5 (fun b hb he => by subst he; have := hM.lt b hb; have := hM.hp; omega), own_only hs3 ho5 (fun b hb he => by subst he; exact own_off hs3 hc3 (by decide) hb), own_only hn3 ho5 (fun b hb he => by subst he; exact own_off hn3 hc3 (by decide) hb), hM.hp, hM.lt, by omega⟩
    have hxp : ¬ x.ownBlock = some p := fun hk => own_off hX hcell (by decide) (hxv ▸ hk)
    replace hX3 := own_only hX3 ho5 (fun b hb he => by subst he; exact hxp (hxv ▸ hb))
    rw [← hxv] at hX3 hxl
    have hXs3 : ∀ b, x.ownBlock = some b → ¬ v22.ownBlock = some b := fun b hb hv => by
      rcases hb22 with h | ⟨g, hg, h⟩
      · exact hXs b hb (h ▸ hv)
      · rw [h] at hv; cases hv; have := hxl _ hb; omega
    have hHp := hM.hp
    replace hO := hO.trans' ho5 (fun _ h => h) (fun k _ he => by subst he; exact hHp)
    refine WL.nil ?_
    refine W.region ?_
    refine WL.c rfl (o_mvh h4 ?_)
    refine WL.c rfl (o_subi rfl rfl (by omega) ?_)
    refine WL.c rfl (o_ash (show _ = Value.int _ _ from rfl) ?_)
    refine WL.nil ?_
    refine ⟨⟨k - 1, v22, by omega, h0, h1.trans hxv.symm, by show Value.int _ _ = _; congr 1; omega, hM3, hX3, hXs3, hO⟩, ?_⟩
    show (((k : Int) - 1 - 1) + 1).toNat < _
    rw [hm4]; simp [intOf]; omega
  · try simp only [decide_eq_true_eq, decide_eq_false_iff_not, Bool.not_eq_true', Bool.not_eq_false', Bool.and_eq_true, Bool.or_eq_true, Bool.and_eq_false_iff, Bool.or_eq_false_iff] at c9
    have hk0 : k = 0 := by omega
    subst hk0
    rw [List.drop_zero] at hM
    refine W.exit ?_
    refine ret0 rfl ?_
    exact ⟨sv, hM, hO⟩
end Go.Proofs.Ytcljkkfpcomdcaa

set_option linter.unusedSimpArgs false
set_option linter.unusedVariables false
set_option maxRecDepth 100000
namespace Go.Proofs.Ytcljkkfpcomdcaa
open Go Go.Vc Go.RowKit Go.Proofs

theorem top_set {k m : Nat} {o : List Nat} : ((k :: o).reverse.map (fun k : Nat => Value.int .i64 (k : Int))).set (o.length) (.int .i64 (m : Int)) = ((m :: o).reverse.map (fun k : Nat => Value.int .i64 (k : Int))) := by
  rw [List.reverse_cons, List.reverse_cons, List.map_append, List.map_append, List.set_append_right _ _ (by simp)]
  simp
theorem RdM.opnOnly {w w' : World} {H p : Nat} {lv sv ov : Value} {T : List Tk} {i d : Nat} {S : List Sy} {o : List Nat} (h : RdM w H p lv sv ov T ⟨i, S, o, d⟩) (ho : Only (fun k => ov.ownBlock = some k) w w') : w'.heap[p]? = some (.cells #[lv, .int .i64 (i : Int), sv, ov, .int .i64 (d : Int)] 92 (0, 0)) ∧ w'.ownsRow 0 58 5 lv T.length (flat T) ∧ w'.ownsRow H 9 1 sv S.length (S.reverse.map sySt) :=
  ⟨ho.blk h.cell h.op, own_only h.toks ho (fun k hk hF => by have := h.lt k hk; have := (h.opn.lt k hF).1; omega), own_only h.stk ho (own_row_off h.opn h.stk (by decide))⟩
theorem RdM.hO {w w' : World} {H p : Nat} {lv sv ov : Value} {T : List Tk} {s : Rd} (h : RdM w H p lv sv ov T s) {w0 : World} (hO : Only (fun k => H ≤ k) w0 w) (ho : Only (fun k => k = p) w w') : Only (fun k => H ≤ k) w0 w' := hO.trans' ho (fun _ h => h) (fun k _ he => by subst he; exact h.hp)
theorem RdM.cl {w : World} {H p : Nat} {lv sv ov : Value} {T : List Tk} {i d : Nat} {S : List Sy} {o : List Nat} (h : RdM w H p lv sv ov T ⟨i, S, o, d⟩) : w.heap[p]? = some (.cells #[lv, .int .i64 (i : Int), sv, ov, .int .i64 (d : Int)] 92 (0, 0)) := h.cell
theorem RdM.on {w : World} {H p : Nat} {lv sv ov : Value} {T : List Tk} {i d : Nat} {S : List Sy} {o : List Nat} (h : RdM w H p lv sv ov T ⟨i, S, o, d⟩) : w.ownsRow H 3 1 ov o.length (o.reverse.map (fun k : Nat => Value.int .i64 (k : Int))) := h.opn
theorem RdM.sn {w : World} {H p : Nat} {lv sv ov : Value} {T : List Tk} {i d : Nat} {S : List Sy} {o : List Nat} (h : RdM w H p lv sv ov T ⟨i, S, o, d⟩) : w.ownsRow H 9 1 sv S.length (S.reverse.map sySt) := h.stk
def resT (T : List Tk) (H p : Nat) (lv : Value) (i : Nat) (r : Ou) (v : Value) (w : World) : Prop := match r with
  | .er e => v = .int .i64 (e : Int) ∧ ∃ sv ov S o d, RdM w H p lv sv ov T ⟨i, S, o, d⟩
  | .go s => v = .int .i64 0 ∧ ∃ sv ov, RdM w H p lv sv ov T s
theorem res_er {T : List Tk} {H p e i d d2 : Nat} {lv sv ov v : Value} {w : World} {y : Sy} {S S2 : List Sy} {o o2 : List Nat} (hs : stepF T i y S o d = .er e) (hv : v = .int .i64 (e : Int)) (hM : RdM w H p lv sv ov T ⟨i, S2, o2, d2⟩) : resT T H p lv i (stepF T i y S o d) v w := by
  rw [hs]; exact ⟨hv, sv, ov, S2, o2, d2, hM⟩
theorem res_go {T : List Tk} {H p i d : Nat} {lv sv ov v : Value} {w : World} {y : Sy} {S : List Sy} {o : List Nat} {s : Rd} (hs : stepF T i y S o d = .go s) (hv : v = .int .i64 0) (hM : RdM w H p lv sv ov T s) : resT T H p lv i (stepF T i y S o d) v w := by
  rw [hs]; exact ⟨hv, sv, ov, hM⟩
theorem ris_name (t : Tk) (w0 : World) (hlen : t.text.length ≤ 9223372036854775807) : Ca Try.prog 67 #[.agg (tokV t), st [40, 110, 97, 109, 101, 41]] w0 (fun v w' => v = .bool (nmT t) ∧ Ext w0 w') := (ris_spec t _ w0 hlen).mono fun v w' h => h
theorem ris_num (t : Tk) (w0 : World) (hlen : t.text.length ≤ 9223372036854775807) : Ca Try.prog 67 #[.agg (tokV t), st [40, 110, 117, 109, 98, 101, 114, 41]] w0 (fun v w' => v = .bool (decide (t.kind = 2)) ∧ Ext w0 w') := (ris_spec t _ w0 hlen).mono fun v w' h => h
theorem ris_tk (t : Tk) (s : List UInt8) (h : s.head? ≠ some 40) (w0 : World) (hlen : t.text.length ≤ 9223372036854775807) : Ca Try.prog 67 #[.agg (tokV t), st s] w0 (fun v w' => v = .bool (isR t s) ∧ Ext w0 w') := (ris_spec t s w0 hlen).mono fun v w' hh => by
  rw [if_neg (fun he => h (by rw [he]; rfl)), if_neg (fun he => h (by rw [he]; rfl))] at hh
  exact hh
theorem tk_ne {s x : List UInt8} (h : s.head? ≠ some 40) (hx : x.head? = some 40) : decide (s = x) = false := decide_eq_false (fun he => h (by rw [he]; exact hx))

set_option maxHeartbeats 1000000 in
theorem more_spec (H p : Nat) (lv sv ov : Value) (T : List Tk) (i d k : Nat) (S : List Sy) (o : List Nat) (hk : k ≤ 64) (w0 : World) (hM : RdM w0 H p lv sv ov T ⟨i, S, k :: o, d⟩) (hol : o.length ≤ 17) : Ca Try.prog 71 #[.pointer (some ⟨p, 0, none⟩), .int .i64 64] w0 (fun v w' => v = .int .i64 (if 64 < k + 1 then 5 else 0) ∧ (∃ ov', RdM w' H p lv sv ov' T ⟨i, S, (k + 1) :: o, d⟩) ∧ Only (fun k => H ≤ k) w0 w') := by
  have hO : Only (fun k => H ≤ k) w0 w0 := Only.refl _ _
  obtain ⟨go, co, rfl, hgo⟩ := own_some hM.on (by simp)
  have hc1 := hM.cl
  refine Ca.of Try.func71 Try.ntmps71 rfl rfl ?_
  refine W.seq ?_
  refine W.region ?_
  refine WL.c rfl (o_ash (show _ = Value.int _ _ from rfl) ?_)
  refine WL.nil ?_
  refine W.seq ?_
  refine W.region ?_
  refine WL.c rfl (o_mvh (by first | exact (show _ = Value.pointer _ from rfl) | exact rfl) ?_)
  refine WL.c rfl (o_nil rfl ?_)
  refine WL.c rfl (o_fa 3 TI92 rfl TI22 rfl rfl ?_)
  refine WL.c rfl (o_ld TI22 rfl rfl (cell_of hc1 rfl) ?_)
  refine WL.c rfl (o_lenR TI22 rfl (Sl.own hM.on) ?_)
  refine WL.c rfl (o_subi rfl rfl (by simp only [List.length_cons]; omega) ?_)
  refine WL.c rfl (o_ash (show _ = Value.int _ _ from rfl) ?_)
  refine WL.nil ?_
  refine W.seq ?_
  refine W.region ?_
  refine WL.c rfl (o_mvh (by first | exact (show _ = Value.pointer _ from rfl) | exact rfl) ?_)
  refine WL.c rfl (o_nil rfl ?_)
  refine WL.c rfl (o_fa 3 TI92 rfl TI22 rfl rfl ?_)
  refine WL.c rfl (o_ld TI22 rfl rfl (cell_of hc1 rfl) ?_)
  refine WL.c rfl (o_mvh (show _ = Value.int _ _ from rfl) ?_)
  refine WL.c rfl (o_ixB (i := o.length) TI22 TI3 rfl (by show Value.int _ _ = _; congr 1; simp only [List.length_cons]; omega) (by simp only [List.length_cons]; omega) ?_)
  refine WL.c rfl (o_ld TI3 rfl rfl (own_at hM.on top_at) ?_)
  refine WL.c rfl (o_addi rfl rfl (by omega) ?_)
  refine WL.c rfl (o_ixB (i := o.length) TI22 TI3 rfl (by show Value.int _ _ = _; congr 1; simp only [List.length_cons]; omega) (by simp only [List.length_cons]; omega) ?_)
  refine WL.u (o_stRj (i := o.length) TI3 rfl (by omega) (show _ = Value.int .i64 ((k : Int) + 1) from rfl) rfl hM.on rfl (by simp only [List.length_cons]; omega) ?_)
  intro w2 hr2 ho2 hs2
  rw [show (k : Int) + 1 = ((k + 1 : Nat) : Int) from rfl, top_set] at hr2
  obtain ⟨hc2, ht2, hs2'⟩ := hM.opnOnly ho2
  have hHo := fun k hk => (hM.on.lt k hk).1
  have hM2 : RdM w2 H p lv sv (.slice (some ⟨go, 0, none⟩) (o.length + 1) co) T ⟨i, S, (k + 1) :: o, d⟩ := ⟨hc2, ht2, hs2', hr2, hM.hp, hM.lt, by have := hM.le; omega⟩
  replace hO := hO.trans' ho2 (fun _ h => h) (fun k _ hk => hHo k hk)
  have hc1 := hM2.cl
  refine WL.nil ?_
  refine W.seq ?_
  refine W.seq ?_
  refine W.region ?_
  refine WL.c rfl (o_mvh (by first | exact (show _ = Value.pointer _ from rfl) | exact rfl) ?_)
  refine WL.c rfl (o_nil rfl ?_)
  refine WL.c rfl (o_fa 3 TI92 rfl TI22 rfl rfl ?_)
  refine WL.c rfl (o_ld TI22 rfl rfl (cell_of hc2 rfl) ?_)
  refine WL.c rfl (o_mvh (show _ = Value.int _ _ from rfl) ?_)
  refine WL.c rfl (o_ixB (i := o.length) TI22 TI3 rfl (by show Value.int _ _ = _; congr 1; simp only [List.length_cons]; omega) (by simp only [List.length_cons]; omega) ?_)
  refine WL.c rfl (o_ld TI3 rfl rfl (own_at hM2.on top_at) ?_)
  refine WL.c rfl (o_mvh (show _ = Value.int _ _ from rfl) ?_)
  refine WL.c rfl (o_gt rfl rfl ?_)
  refine WL.nil ?_
  refine W.cond rfl (fun c29 => ?_) (fun c29 => ?_)
  · try simp only [decide_eq_true_eq, decide_eq_false_iff_not, Bool.not_eq_true', Bool.not_eq_false', Bool.and_eq_true, Bool.or_eq_true, Bool.and_eq_false_iff, Bool.or_eq_false_iff] at c29
    refine W.seq ?_
    refine W.region ?_
    refine WL.c rfl (o_ash (show _ = Value.int _ _ from rfl) ?_)
    refine WL.nil ?_
    refine W.ret ?_
    refine ret1v rfl (show _ = Value.int _ _ from rfl) ?_
    exact ⟨by rw [if_pos (by omega)], ⟨_, hM2⟩, hO⟩
  · try simp only [decide_eq_true_eq, decide_eq_false_iff_not, Bool.not_eq_true', Bool.not_eq_false', Bool.and_eq_true, Bool.or_eq_true, Bool.and_eq_false_iff, Bool.or_eq_false_iff] at c29
    refine W.skip ?_
    refine W.seq ?_
    refine W.region ?_
    refine WL.c rfl (o_ash (show _ = Value.int _ _ from rfl) ?_)
    refine WL.nil ?_
    refine W.ret ?_
    refine ret1v rfl (show _ = Value.int _ _ from rfl) ?_
    exact ⟨by rw [if_neg (by omega)], ⟨_, hM2⟩, hO⟩
set_option maxHeartbeats 4000000 in
theorem thing_spec (H p : Nat) (lv sv ov2 : Value) (T : List Tk) (hTl : T.length ≤ 65536) (hTt : ∀ i, (tkA T i).text.length ≤ 9223372036854775807) (i d : Nat) (y : Sy) (S : List Sy) (o : List Nat) (w0 : World) (hM : RdM w0 H p lv sv ov2 T ⟨i, y :: S, o, d⟩) (hok : OkY y o) (hi : i ≤ T.length) (hd : d ≤ 256) (hol : o.length ≤ 17) (hSl : S.length ≤ 900000) : Ca Try.prog 42 #[.pointer (some ⟨p, 0, none⟩)] w0 (fun v w' => Only (fun k => H ≤ k) w0 w' ∧ resT T H p lv i (stepF T i y S o d) v w') := by
  have hO : Only (fun k => H ≤ k) w0 w0 := Only.refl _ _
  obtain ⟨gs, cs, rfl, hgs⟩ := own_some hM.sn (by simp)
  have hcs : S.length + 1 ≤ cs := by obtain ⟨_, _, hv, hh⟩ := own_form hM.sn; cases hv; simpa using hh
  refine Ca.of Try.func42 Try.ntmps42 rfl rfl ?_
  refine W.seq ?_
  refine W.region ?_
  refine WL.c rfl (o_ash (show _ = Value.int _ _ from rfl) ?_)
  refine WL.nil ?_
  refine W.seq ?_
  refine W.quiet rfl (by kernel_rfl) ?_
  refine WQ.c rfl ((QO.o rfl fun _ => o_mvh (by first | exact (show _ = Value.pointer _ from rfl) | exact rfl) ⟨rfl, rfl⟩)) ?_
  refine WQ.c rfl ((QO.r fun _ => r_nil rfl)) ?_
  refine WQ.c rfl ((QO.o rfl fun _ => o_fa 2 TI92 rfl TI62 rfl rfl ⟨rfl, rfl⟩)) ?_
  refine WQ.c rfl ((QO.o rfl fun _ => o_ld TI62 rfl rfl (cell_of hM.cl rfl) ⟨rfl, rfl⟩)) ?_
  refine WQ.c rfl ((QO.o rfl fun _ => o_mvh (by first | exact (show _ = Value.pointer _ from rfl) | exact rfl) ⟨rfl, rfl⟩)) ?_
  refine WQ.c rfl ((QO.r fun _ => r_nil rfl)) ?_
  refine WQ.c rfl ((QO.o rfl fun _ => o_fa 2 TI92 rfl TI62 rfl rfl ⟨rfl, rfl⟩)) ?_
  refine WQ.c rfl ((QO.o rfl fun _ => o_ld TI62 rfl rfl (cell_of hM.cl rfl) ⟨rfl, rfl⟩)) ?_
  refine WQ.c rfl ((QO.r fun _ => r_lenR TI62 rfl (Sl.own hM.sn))) ?_
  refine WQ.c rfl ((QO.o rfl fun _ => o_subi rfl rfl (by simp only [List.length_cons]; omega) ⟨rfl, rfl⟩)) ?_
  refine WQ.c rfl ((QO.o rfl fun _ => o_ixB (i := S.length) TI62 TI9 rfl (by show Value.int _ _ = _; congr 1; simp only [List.length_cons]; omega) (by simp only [List.length_cons]; omega) ⟨rfl, rfl⟩)) ?_
  refine WQ.c rfl ((QO.o rfl fun _ => o_ld TI9 rfl rfl (own_at hM.sn top_at) ⟨rfl, rfl⟩)) ?_
  refine WQ.c rfl ((QO.o rfl fun _ => o_ash (show _ = Value.string _ from rfl) ⟨rfl, rfl⟩)) ?_
  refine WQ.nil ?_
  intro nq
  have hxq := Only.drewN w0 nq
  replace hM := hM.ext hxq
  replace hO := hO.ext hxq
  clear hxq
  generalize w0.drewN nq = w1 at *
  refine W.seq ?_
  refine W.tail 12 rfl (by kernel_rfl) ?_
  refine WS.c rfl ((SO.o rfl (o_mvh (by first | exact (show _ = Value.pointer _ from rfl) | exact rfl) ⟨rfl, rfl⟩))) ?_
  refine WS.c rfl ((SO.o rfl (o_mvh (by first | exact (show _ = Value.pointer _ from rfl) | exact rfl) ⟨rfl, rfl⟩))) ?_
  refine WS.c rfl ((SO.r (r_nil rfl))) ?_
  refine WS.c rfl ((SO.o rfl (o_fa 2 TI92 rfl TI62 rfl rfl ⟨rfl, rfl⟩))) ?_
  refine WS.c rfl ((SO.o rfl (o_ld TI62 rfl rfl (cell_of hM.cl rfl) ⟨rfl, rfl⟩))) ?_
  refine WS.c rfl ((SO.o rfl (o_mvh (by first | exact (show _ = Value.pointer _ from rfl) | exact rfl) ⟨rfl, rfl⟩))) ?_
  refine WS.c rfl ((SO.r (r_nil rfl))) ?_
  refine WS.c rfl ((SO.o rfl (o_fa 2 TI92 rfl TI62 rfl rfl ⟨rfl, rfl⟩))) ?_
  refine WS.c rfl ((SO.o rfl (o_ld TI62 rfl rfl (cell_of hM.cl rfl) ⟨rfl, rfl⟩))) ?_
  refine WS.c rfl ((SO.r (r_lenR TI62 rfl (Sl.own hM.sn)))) ?_
  refine WS.c rfl ((SO.o rfl (o_subi rfl rfl (by simp only [List.length_cons]; omega) ⟨rfl, rfl⟩))) ?_
  refine WS.c rfl ((SO.o rfl (o_slv (h := S.length) TI62 TI9 rfl Lo.n (Hi.s (by show Value.int _ _ = _; congr 1; simp only [List.length_cons]; omega)) (Nat.zero_le _) (by omega) ⟨rfl, rfl⟩))) ?_
  refine WS.nil ?_
  have hxd := Only.drew w1
  replace hM := hM.ext hxd
  replace hO := hO.ext hxd
  clear hxd
  generalize w1.drew = wd at *
  refine WL.c rfl (o_nil rfl ?_)
  refine WL.c rfl (o_fa 2 TI92 rfl TI62 rfl rfl ?_)
  refine WL.u (o_stB TI62 rfl (show _ = Value.slice (some ⟨gs, 0, none⟩) S.length cs from sliced0 _ _ _ _) rfl hM.cl (show 2 < 5 by decide) ?_)
  intro w3 hB3 ho3 hs3
  replace hO := hM.hO hO ho3
  have hst := own_take hM.sn (m := S.length) (by simp)
  rw [pop_take] at hst
  replace hM := hM.put (i := i) (S := S) hB3 ho3 hst hM.on
  clear hst hB3 ho3 hs3
  obtain ⟨sv2, hsv2⟩ : ∃ v, v = Value.slice (some ⟨gs, 0, none⟩) S.length cs := ⟨_, rfl⟩
  rw [← hsv2] at hM
  replace hM : RdM w3 H p lv sv2 ov2 T ⟨i, S, o, d⟩ := hM
  clear hsv2
  refine WL.nil ?_
  refine W.seq ?_
  refine W.seq ?_
  cases y
  · skip
    skip
    refine W.region ?_
    refine WL.c rfl (o_mvh (show _ = Value.string _ from rfl) ?_)
    refine WL.c rfl (o_eqT rfl rfl ?_)
    refine WL.nil ?_
    refine W.condF' rfl (by decide) ?_
    refine W.skip ?_
    refine W.seq ?_
    refine W.seq ?_
    by_cases hie : i = T.length
    · skip
      skip
      refine W.quiet rfl (by kernel_rfl) ?_
      refine WQ.c rfl ((QO.o rfl fun _ => o_mvh (show _ = Value.string _ from rfl) ⟨rfl, rfl⟩)) ?_
      refine WQ.c rfl ((QO.o rfl fun _ => o_eqT rfl rfl ⟨rfl, rfl⟩)) ?_
      refine WQ.c rfl ((QO.o rfl fun _ => o_mvh (show _ = Value.bool _ from rfl) ⟨rfl, rfl⟩)) ?_
      refine WQ.g rfl (by decide) rfl ((QO.o rfl fun _ => o_mvh (by first | exact (show _ = Value.pointer _ from rfl) | exact rfl) ⟨rfl, rfl⟩)) ?_
      refine WQ.g rfl (by decide) rfl ((QO.r fun _ => r_nil rfl)) ?_
      refine WQ.g rfl (by decide) rfl ((QO.o rfl fun _ => o_fa 1 TI92 rfl TI3 rfl rfl ⟨rfl, rfl⟩)) ?_
      refine WQ.g rfl (by decide) rfl ((QO.o rfl fun _ => o_ld TI3 rfl rfl (cell_of hM.cl rfl) ⟨rfl, rfl⟩)) ?_
      refine WQ.g rfl (by decide) rfl ((QO.o rfl fun _ => o_mvh (by first | exact (show _ = Value.pointer _ from rfl) | exact rfl) ⟨rfl, rfl⟩)) ?_
      refine WQ.g rfl (by decide) rfl ((QO.r fun _ => r_nil rfl)) ?_
      refine WQ.g rfl (by decide) rfl ((QO.o rfl fun _ => o_fa 0 TI92 rfl TI54 rfl rfl ⟨rfl, rfl⟩)) ?_
      refine WQ.g rfl (by decide) rfl ((QO.o rfl fun _ => o_ld TI54 rfl rfl (cell_of hM.cl rfl) ⟨rfl, rfl⟩)) ?_
      refine WQ.g rfl (by decide) rfl ((QO.r fun _ => r_lenR TI54 rfl (Sl.own hM.toks))) ?_
      refine WQ.g rfl (by decide) rfl ((QO.o rfl fun _ => o_eq rfl rfl ⟨rfl, rfl⟩)) ?_
      refine WQ.c rfl ((QO.r fun _ => r_pickA rfl rfl)) ?_
      refine WQ.nil ?_
      intro nq
      have hxq := Only.drewN w3 nq
      replace hM := hM.ext hxq
      replace hO := hO.ext hxq
      clear hxq
      generalize w3.drewN nq = w5 at *
      refine W.condT' rfl (by simp [hie, syS]) ?_
      refine W.seq ?_
      refine W.region ?_
      refine WL.c rfl (o_ash (show _ = Value.int _ _ from rfl) ?_)
      refine WL.nil ?_
      refine W.ret ?_
      refine ret1v rfl (show _ = Value.int _ _ from rfl) ?_
      exact ⟨hO, res_go (s := ⟨i, S, o, d⟩) (by simp [stepF, hie]) rfl hM⟩
    · skip
      skip
      refine W.quiet rfl (by kernel_rfl) ?_
      refine WQ.c rfl ((QO.o rfl fun _ => o_mvh (show _ = Value.string _ from rfl) ⟨rfl, rfl⟩)) ?_
      refine WQ.c rfl ((QO.o rfl fun _ => o_eqT rfl rfl ⟨rfl, rfl⟩)) ?_
      refine WQ.c rfl ((QO.o rfl fun _ => o_mvh (show _ = Value.bool _ from rfl) ⟨rfl, rfl⟩)) ?_
      refine WQ.g rfl (by decide) rfl ((QO.o rfl fun _ => o_mvh (by first | exact (show _ = Value.pointer _ from rfl) | exact rfl) ⟨rfl, rfl⟩)) ?_
      refine WQ.g rfl (by decide) rfl ((QO.r fun _ => r_nil rfl)) ?_
      refine WQ.g rfl (by decide) rfl ((QO.o rfl fun _ => o_fa 1 TI92 rfl TI3 rfl rfl ⟨rfl, rfl⟩)) ?_
      refine WQ.g rfl (by decide) rfl ((QO.o rfl fun _ => o_ld TI3 rfl rfl (cell_of hM.cl rfl) ⟨rfl, rfl⟩)) ?_
      refine WQ.g rfl (by decide) rfl ((QO.o rfl fun _ => o_mvh (by first | exact (show _ = Value.pointer _ from rfl) | exact rfl) ⟨rfl, rfl⟩)) ?_
      refine WQ.g rfl (by decide) rfl ((QO.r fun _ => r_nil rfl)) ?_
      refine WQ.g rfl (by decide) rfl ((QO.o rfl fun _ => o_fa 0 TI92 rfl TI54 rfl rfl ⟨rfl, rfl⟩)) ?_
      refine WQ.g rfl (by decide) rfl ((QO.o rfl fun _ => o_ld TI54 rfl rfl (cell_of hM.cl rfl) ⟨rfl, rfl⟩)) ?_
      refine WQ.g rfl (by decide) rfl ((QO.r fun _ => r_lenR TI54 rfl (Sl.own hM.toks))) ?_
      refine WQ.g rfl (by decide) rfl ((QO.o rfl fun _ => o_eq rfl rfl ⟨rfl, rfl⟩)) ?_
      refine WQ.c rfl ((QO.r fun _ => r_pickA rfl rfl)) ?_
      refine WQ.nil ?_
      intro nq
      have hxq := Only.drewN w3 nq
      replace hM := hM.ext hxq
      replace hO := hO.ext hxq
      clear hxq
      generalize w3.drewN nq = w5 at *
      refine W.condF' rfl (by simp [syS]; omega) ?_
      refine W.skip ?_
      refine W.seq ?_
      refine W.seq ?_
      refine W.quiet rfl (by kernel_rfl) ?_
      refine WQ.c rfl ((QO.o rfl fun _ => o_mvh (by first | exact (show _ = Value.pointer _ from rfl) | exact rfl) ⟨rfl, rfl⟩)) ?_
      refine WQ.c rfl ((QO.r fun _ => r_nil rfl)) ?_
      refine WQ.c rfl ((QO.o rfl fun _ => o_fa 1 TI92 rfl TI3 rfl rfl ⟨rfl, rfl⟩)) ?_
      refine WQ.c rfl ((QO.o rfl fun _ => o_ld TI3 rfl rfl (cell_of hM.cl rfl) ⟨rfl, rfl⟩)) ?_
      refine WQ.c rfl ((QO.o rfl fun _ => o_mvh (by first | exact (show _ = Value.pointer _ from rfl) | exact rfl) ⟨rfl, rfl⟩)) ?_
      refine WQ.c rfl ((QO.r fun _ => r_nil rfl)) ?_
      refine WQ.c rfl ((QO.o rfl fun _ => o_fa 0 TI92 rfl TI54 rfl rfl ⟨rfl, rfl⟩)) ?_
      refine WQ.c rfl ((QO.o rfl fun _ => o_ld TI54 rfl rfl (cell_of hM.cl rfl) ⟨rfl, rfl⟩)) ?_
      refine WQ.c rfl ((QO.r fun _ => r_lenR TI54 rfl (Sl.own hM.toks))) ?_
      refine WQ.c rfl ((QO.o rfl fun _ => o_eq rfl rfl ⟨rfl, rfl⟩)) ?_
      refine WQ.nil ?_
      intro nq
      have hxq := Only.drewN w5 nq
      replace hM := hM.ext hxq
      replace hO := hO.ext hxq
      clear hxq
      generalize w5.drewN nq = w6 at *
      refine W.condF' rfl (decide_eq_false (by omega)) ?_
      refine W.skip ?_
      refine W.seq ?_
      have hil : i < T.length := by omega
      obtain ⟨wd, hwd⟩ : ∃ wd, wd = w6.drew := ⟨_, rfl⟩
      have hxd : Ext w6 wd := hwd ▸ Only.drew w6
      replace hM := hM.ext hxd
      replace hO := hO.ext hxd
      obtain ⟨tb, to_, tc, hlv, htc⟩ := Sl.tok (Sl.own hM.toks) hil
      have hcellp := hM.cl
      have hMle0 := hM.le
      have hsl0 : ∀ b, sv2.ownBlock = some b → b < wd.heap.size := fun b hb => (hM.sn.lt b hb).2
      have hol0 : ∀ b, ov2.ownBlock = some b → b < wd.heap.size := fun b hb => (hM.on.lt b hb).2
      refine W.drawT 11 (Ext) [(0, fun v _ => v = _), (3, fun v _ => v = _)] rfl (by kernel_rfl) (Only.refl No) (fun _ _ _ h k => h.trans k) ⟨Mono.eq, Mono.eq, trivial⟩ ⟨rfl, rfl, trivial⟩ ?_
      refine WD.p rfl (fun e w hR hh => by obtain ⟨h0, -⟩ := hh; exact SG.n (o_mvh h0 ⟨rfl, Only.refl No _⟩)) ?_
      refine WD.p rfl (fun e w hR hh => by obtain ⟨h73, -⟩ := hh; exact SG.n (o_nil h73 ⟨rfl, Only.refl No _⟩)) ?_
      refine WD.p rfl (fun e w hR hh => by obtain ⟨h74, -⟩ := hh; exact SG.n (o_fa 0 TI92 rfl TI54 rfl h74 ⟨rfl, Only.refl No _⟩)) ?_
      refine WD.p rfl (fun e w hR hh => by obtain ⟨h75, -⟩ := hh; rw [← hwd] at hR; exact SG.n (o_ld TI54 rfl h75 (cell_of (hM.ext hR).cl rfl) ⟨rfl, Only.refl No _⟩)) ?_
      refine WD.p rfl (fun e w hR hh => by obtain ⟨h0, -⟩ := hh; exact SG.n (o_mvh h0 ⟨rfl, Only.refl No _⟩)) ?_
      refine WD.p rfl (fun e w hR hh => by obtain ⟨h77, -⟩ := hh; exact SG.n (o_nil h77 ⟨rfl, Only.refl No _⟩)) ?_
      refine WD.p rfl (fun e w hR hh => by obtain ⟨h78, -⟩ := hh; exact SG.n (o_fa 1 TI92 rfl TI3 rfl h78 ⟨rfl, Only.refl No _⟩)) ?_
      refine WD.p rfl (fun e w hR hh => by obtain ⟨h79, -⟩ := hh; rw [← hwd] at hR; exact SG.n (o_ld TI3 rfl h79 (cell_of (hM.ext hR).cl rfl) ⟨rfl, Only.refl No _⟩)) ?_
      refine WD.p rfl (fun e w hR hh => by obtain ⟨h80, h76, -⟩ := hh; exact SG.n (o_ixB (i := i) TI54 TI58 (h76.trans (by rw [← hlv]; rfl)) h80 hil ⟨rfl, Only.refl No _⟩)) ?_
      refine WD.p rfl (fun e w hR hh => by obtain ⟨h81, -⟩ := hh; rw [← hwd] at hR; exact SG.n (o_ldA TI58 rfl h81 (htc.only hR (fun h => h)) rfl ⟨rfl, Only.refl No _⟩)) ?_
      refine WD.q (fun v w => ∃ c, wd.heap.size ≤ c ∧ v = .pointer (some ⟨c, 0, none⟩) ∧ w.heap[c]? = some (.cells (tokV tk0) 58 (0, 0))) (fun v w w2 hR hh => by obtain ⟨c, h1, h2, h3⟩ := hh; exact ⟨c, h1, h2, hR.blk h3 (fun h => h)⟩) rfl (fun e w hR hh => by skip; rw [← hwd] at hR; exact SG.n (o_alB TI58 (fun w' h1 h2 h3 => ⟨⟨w.heap.size, hR.size, rfl, h1⟩, h2⟩))) ?_
      rintro e w hR ⟨h4, h82, h81, h80, h79, h78, h77, h76, h75, h74, h73, h0, h3, -⟩
      rw [← hwd] at hR
      replace hM := hM.ext hR
      replace hO := hO.ext hR
      obtain ⟨c4, hc4, h4, hC4z⟩ := h4
      have hpl : p < wd.heap.size := (Array.getElem?_eq_some_iff.1 hcellp).1
      have hpl4 : ¬ c4 = p := fun he => by omega
      have hHc4 : H ≤ c4 := by have := hMle0; omega
      have hlvl : ∀ b, lv.ownBlock = some b → b < c4 := fun b hb => by have := hM.lt b hb; omega
      have hsv4 : ∀ b, sv2.ownBlock = some b → ¬ b = c4 := fun b hb he => by have := hsl0 b hb; omega
      have hov4 : ∀ b, ov2.ownBlock = some b → ¬ b = c4 := fun b hb he => by have := hol0 b hb; omega
      refine WL.u (o_stA TI58 h4 (show _ = Value.agg (tokV (tkA T i)) from h82) rfl rfl hC4z rfl ?_)
      intro w7 hC4 ho7 hs7
      replace hM : RdM w7 H p lv sv2 ov2 T ⟨i, S, o, d⟩ := ⟨ho7.blk hM.cl (fun h => hpl4 h.symm), own_only hM.toks ho7 (fun b hb he => by have := hlvl b hb; omega), own_only hM.sn ho7 (fun b hb he => hsv4 b hb he), own_only hM.on ho7 (fun b hb he => hov4 b hb he), hM.hp, hM.lt, by have := hM.le; omega⟩
      replace hO := hO.trans' ho7 (fun _ h => h) (fun k _ he => by subst he; exact hHc4)
      have h3v := h3
      refine WL.nil ?_
      refine W.seq ?_
      refine W.seq ?_
      refine W.region ?_
      refine WL.c rfl (o_mvh h3 ?_)
      refine WL.nil ?_
      refine W.block ?_
      refine W.seq ?_
      refine W.region ?_
      refine WL.c rfl (o_eqT rfl rfl ?_)
      refine WL.c rfl (o_ash (show _ = Value.bool _ from rfl) ?_)
      refine WL.nil ?_
      refine W.condT' rfl (by decide) ?_
      refine W.seq ?_
      refine W.seq ?_
      refine W.region ?_
      refine WL.c rfl (o_ldA TI58 rfl h4 (show Cells _ c4 0 (tokV (tkA T i)).toList from Cells.of hC4 0 _ (by simp)) rfl ?_)
      refine WL.c rfl (o_call Try.call67 (lc rfl (lc rfl ln)) ((ris_tk (tkA T i) [116, 121, 112, 101] (by decide) _ (hTt i)).mono ?_))
      rintro v87 w87 ⟨rfl, hx87⟩
      replace hM := hM.ext hx87
      replace hO := hO.ext hx87
      replace hC4 := hx87.blk hC4 (fun h => h)
      refine WL.c rfl (o_not' rfl ?_)
      refine WL.nil ?_
      refine W.cond rfl (fun c88 => ?_) (fun c88 => ?_)
      · try simp only [decide_eq_true_eq, decide_eq_false_iff_not, Bool.not_eq_true', Bool.not_eq_false', Bool.and_eq_true, Bool.or_eq_true, Bool.and_eq_false_iff, Bool.or_eq_false_iff] at c88
        have hno := c88
        refine W.seq ?_
        refine W.region ?_
        refine WL.c rfl (o_ash (show _ = Value.int _ _ from rfl) ?_)
        refine WL.nil ?_
        refine W.ret ?_
        refine ret1v rfl (show _ = Value.int _ _ from rfl) ?_
        exact ⟨hO, res_er (e := 60) (by simp_all [stepF]) rfl hM⟩
      · try simp only [decide_eq_true_eq, decide_eq_false_iff_not, Bool.not_eq_true', Bool.not_eq_false', Bool.and_eq_true, Bool.or_eq_true, Bool.and_eq_false_iff, Bool.or_eq_false_iff] at c88
        have hno := c88
        refine W.skip ?_
        refine W.seq ?_
        refine W.region ?_
        refine WL.c rfl (o_mvh h0 ?_)
        refine WL.c rfl (o_nil rfl ?_)
        refine WL.c rfl (o_fa 4 TI92 rfl TI3 rfl rfl ?_)
        refine WL.c rfl (o_ld TI3 rfl rfl (cell_of hM.cl rfl) ?_)
        refine WL.c rfl (o_addi rfl rfl (by omega) ?_)
        refine WL.c rfl (o_nil rfl ?_)
        refine WL.c rfl (o_fa 4 TI92 rfl TI3 rfl rfl ?_)
        refine WL.u (o_stB TI3 rfl (show _ = Value.int .i64 ((d : Int) + 1) from rfl) rfl hM.cl (show 4 < 5 by decide) ?_)
        intro wz hBn hon hsn
        replace hO := hM.hO hO hon
        replace hM := hM.put (i := i) (d := d + 1) hBn hon hM.sn hM.on
        refine WL.nil ?_
        refine W.seq ?_
        refine W.seq ?_
        refine W.region ?_
        refine WL.c rfl (o_mvh h0 ?_)
        refine WL.c rfl (o_nil rfl ?_)
        refine WL.c rfl (o_fa 4 TI92 rfl TI3 rfl rfl ?_)
        refine WL.c rfl (o_ld TI3 rfl rfl (cell_of hM.cl rfl) ?_)
        refine WL.c rfl (o_gt rfl rfl ?_)
        refine WL.nil ?_
        refine W.cond rfl (fun c100 => ?_) (fun c100 => ?_)
        · try simp only [decide_eq_true_eq, decide_eq_false_iff_not, Bool.not_eq_true', Bool.not_eq_false', Bool.and_eq_true, Bool.or_eq_true, Bool.and_eq_false_iff, Bool.or_eq_false_iff] at c100
          have hd2 : 256 < d + 1 := by omega
          refine W.seq ?_
          refine W.region ?_
          refine WL.c rfl (o_ash (show _ = Value.int _ _ from rfl) ?_)
          refine WL.nil ?_
          refine W.ret ?_
          refine ret1v rfl (show _ = Value.int _ _ from rfl) ?_
          exact ⟨hO, res_er (e := 5) (by rw [stepF, if_neg hie, if_neg (by simpa using hno), if_pos hd2]) rfl hM⟩
        · try simp only [decide_eq_true_eq, decide_eq_false_iff_not, Bool.not_eq_true', Bool.not_eq_false', Bool.and_eq_true, Bool.or_eq_true, Bool.and_eq_false_iff, Bool.or_eq_false_iff] at c100
          have hd2 : ¬ 256 < d + 1 := by omega
          refine W.skip ?_
          refine W.seq ?_
          refine W.region ?_
          refine WL.c rfl (o_mvh h0 ?_)
          have hMle := hM.le
          refine WL.c rfl (o_bsn (vs := [sySt (.tk 1 [116, 121, 112, 101]), sySt .name, sySt (.tk 3 [61]), sySt .type, sySt (.tk 3 [59]), sySt .schema]) (xs := [(.const (.string (.mk #[116, 121, 112, 101]))), (.const (.string (.mk #[40, 110, 97, 109, 101, 41]))), (.const (.string (.mk #[61]))), (.const (.string (.mk #[40, 116, 121, 112, 101, 41]))), (.const (.string (.mk #[59]))), (.const (.string (.mk #[40, 115, 99, 104, 101, 109, 97, 41])))]) TI62 TI9 rfl (lc (show _ = Value.string _ from rfl) (lc (show _ = Value.string _ from rfl) (lc (show _ = Value.string _ from rfl) (lc (show _ = Value.string _ from rfl) (lc (show _ = Value.string _ from rfl) (lc (show _ = Value.string _ from rfl) ln)))))) rfl rfl (by decide) (by decide) ?_)
          obtain ⟨B, hB⟩ : ∃ B, B = wz.heap.size := ⟨_, rfl⟩
          have hsl : ∀ b, sv2.ownBlock = some b → b < B := fun b hb => by have := (hM.sn.lt b hb).2; omega
          have hr : (wz.alloc (Obj.cells ([sySt (.tk 1 [116, 121, 112, 101]), sySt .name, sySt (.tk 3 [61]), sySt .type, sySt (.tk 3 [59]), sySt .schema]).toArray 9)).ownsRow B 9 1 (.slice (some ⟨wz.heap.size, 0, none⟩) 6 6) 6 ([sySt (.tk 1 [116, 121, 112, 101]), sySt .name, sySt (.tk 3 [61]), sySt .type, sySt (.tk 3 [59]), sySt .schema]) := by rw [hB]; exact own_newN rfl (show 6 ≤ maxLen by decide)
          have hxl := Only.alloc wz (Obj.cells ([sySt (.tk 1 [116, 121, 112, 101]), sySt .name, sySt (.tk 3 [61]), sySt .type, sySt (.tk 3 [59]), sySt .schema]).toArray 9)
          rw [← hB] at hr ⊢
          generalize wz.alloc (Obj.cells ([sySt (.tk 1 [116, 121, 112, 101]), sySt .name, sySt (.tk 3 [61]), sySt .type, sySt (.tk 3 [59]), sySt .schema]).toArray 9) = wl at hr hxl ⊢
          replace hM := hM.ext hxl
          replace hO := hO.ext hxl
          have hHB : H ≤ B := by rw [hB]; exact hMle
          refine WL.c rfl (o_call Try.call68 (lc rfl (lc rfl ln)) ((push_spec H p lv sv2 ov2 T i (d + 1) S [(.tk 1 [116, 121, 112, 101]), .name, (.tk 3 [61]), .type, (.tk 3 [59]), .schema] o _ B _ hM hr hHB (fun b hb hs => by have := hsl b hs; simp [Value.ownBlock] at hb; omega) (by simp only [List.length_cons, List.length_nil]; omega)).mono ?_))
          rintro v103 w103 ⟨sv3, hM, hO3⟩
          replace hO := hO.trans' hO3 (fun _ h => h) (fun k _ h => h)
          refine WL.nil ?_
          refine W.seq ?_
          refine W.region ?_
          refine WL.c rfl (o_ash (show _ = Value.int _ _ from rfl) ?_)
          refine WL.nil ?_
          refine W.ret ?_
          refine ret1v rfl (show _ = Value.int _ _ from rfl) ?_
          exact ⟨hO, res_go (by rw [stepF, if_neg hie, if_neg (by simpa using hno), if_neg hd2]; rfl) rfl hM⟩
  · skip
    skip
    refine W.region ?_
    refine WL.c rfl (o_mvh (show _ = Value.string _ from rfl) ?_)
    refine WL.c rfl (o_eqT rfl rfl ?_)
    refine WL.nil ?_
    refine W.condF' rfl (by decide) ?_
    refine W.skip ?_
    refine W.seq ?_
    refine W.seq ?_
    refine W.quiet rfl (by kernel_rfl) ?_
    refine WQ.c rfl ((QO.o rfl fun _ => o_mvh (show _ = Value.string _ from rfl) ⟨rfl, rfl⟩)) ?_
    refine WQ.c rfl ((QO.o rfl fun _ => o_eqT rfl rfl ⟨rfl, rfl⟩)) ?_
    refine WQ.c rfl ((QO.o rfl fun _ => o_mvh (show _ = Value.bool _ from rfl) ⟨rfl, rfl⟩)) ?_
    refine WQ.s rfl (by decide) rfl ?_
    refine WQ.s rfl (by decide) rfl ?_
    refine WQ.s rfl (by decide) rfl ?_
    refine WQ.s rfl (by decide) rfl ?_
    refine WQ.s rfl (by decide) rfl ?_
    refine WQ.s rfl (by decide) rfl ?_
    refine WQ.s rfl (by decide) rfl ?_
    refine WQ.s rfl (by decide) rfl ?_
    refine WQ.s rfl (by decide) rfl ?_
    refine WQ.s rfl (by decide) rfl ?_
    refine WQ.c rfl ((QO.r fun _ => r_pickF rfl (by decide))) ?_
    refine WQ.nil ?_
    intro nq
    have hxq := Only.drewN w3 nq
    replace hM := hM.ext hxq
    replace hO := hO.ext hxq
    clear hxq
    generalize w3.drewN nq = w5 at *
    refine W.condF' rfl (by decide) ?_
    refine W.skip ?_
    refine W.seq ?_
    refine W.seq ?_
    refine W.quiet rfl (by kernel_rfl) ?_
    refine WQ.c rfl ((QO.o rfl fun _ => o_mvh (by first | exact (show _ = Value.pointer _ from rfl) | exact rfl) ⟨rfl, rfl⟩)) ?_
    refine WQ.c rfl ((QO.r fun _ => r_nil rfl)) ?_
    refine WQ.c rfl ((QO.o rfl fun _ => o_fa 1 TI92 rfl TI3 rfl rfl ⟨rfl, rfl⟩)) ?_
    refine WQ.c rfl ((QO.o rfl fun _ => o_ld TI3 rfl rfl (cell_of hM.cl rfl) ⟨rfl, rfl⟩)) ?_
    refine WQ.c rfl ((QO.o rfl fun _ => o_mvh (by first | exact (show _ = Value.pointer _ from rfl) | exact rfl) ⟨rfl, rfl⟩)) ?_
    refine WQ.c rfl ((QO.r fun _ => r_nil rfl)) ?_
    refine WQ.c rfl ((QO.o rfl fun _ => o_fa 0 TI92 rfl TI54 rfl rfl ⟨rfl, rfl⟩)) ?_
    refine WQ.c rfl ((QO.o rfl fun _ => o_ld TI54 rfl rfl (cell_of hM.cl rfl) ⟨rfl, rfl⟩)) ?_
    refine WQ.c rfl ((QO.r fun _ => r_lenR TI54 rfl (Sl.own hM.toks))) ?_
    refine WQ.c rfl ((QO.o rfl fun _ => o_eq rfl rfl ⟨rfl, rfl⟩)) ?_
    refine WQ.nil ?_
    intro nq
    have hxq := Only.drewN w5 nq
    replace hM := hM.ext hxq
    replace hO := hO.ext hxq
    clear hxq
    generalize w5.drewN nq = w6 at *
    refine W.cond rfl (fun c72 => ?_) (fun c72 => ?_)
    · try simp only [decide_eq_true_eq, decide_eq_false_iff_not, Bool.not_eq_true', Bool.not_eq_false', Bool.and_eq_true, Bool.or_eq_true, Bool.and_eq_false_iff, Bool.or_eq_false_iff] at c72
      have hie : i = T.length := by omega
      refine W.seq ?_
      refine W.region ?_
      refine WL.c rfl (o_ash (show _ = Value.int _ _ from rfl) ?_)
      refine WL.nil ?_
      refine W.ret ?_
      refine ret1v rfl (show _ = Value.int _ _ from rfl) ?_
      exact ⟨hO, res_er (e := 60) (by simp [stepF, hie]) rfl hM⟩
    · try simp only [decide_eq_true_eq, decide_eq_false_iff_not, Bool.not_eq_true', Bool.not_eq_false', Bool.and_eq_true, Bool.or_eq_true, Bool.and_eq_false_iff, Bool.or_eq_false_iff] at c72
      have hie : ¬ i = T.length := by omega
      refine W.skip ?_
      refine W.seq ?_
      have hil : i < T.length := by omega
      obtain ⟨wd, hwd⟩ : ∃ wd, wd = w6.drew := ⟨_, rfl⟩
      have hxd : Ext w6 wd := hwd ▸ Only.drew w6
      replace hM := hM.ext hxd
      replace hO := hO.ext hxd
      obtain ⟨tb, to_, tc, hlv, htc⟩ := Sl.tok (Sl.own hM.toks) hil
      have hcellp := hM.cl
      have hMle0 := hM.le
      have hsl0 : ∀ b, sv2.ownBlock = some b → b < wd.heap.size := fun b hb => (hM.sn.lt b hb).2
      have hol0 : ∀ b, ov2.ownBlock = some b → b < wd.heap.size := fun b hb => (hM.on.lt b hb).2
      refine W.drawT 11 (Ext) [(0, fun v _ => v = _), (3, fun v _ => v = _)] rfl (by kernel_rfl) (Only.refl No) (fun _ _ _ h k => h.trans k) ⟨Mono.eq, Mono.eq, trivial⟩ ⟨rfl, rfl, trivial⟩ ?_
      refine WD.p rfl (fun e w hR hh => by obtain ⟨h0, -⟩ := hh; exact SG.n (o_mvh h0 ⟨rfl, Only.refl No _⟩)) ?_
      refine WD.p rfl (fun e w hR hh => by obtain ⟨h73, -⟩ := hh; exact SG.n (o_nil h73 ⟨rfl, Only.refl No _⟩)) ?_
      refine WD.p rfl (fun e w hR hh => by obtain ⟨h74, -⟩ := hh; exact SG.n (o_fa 0 TI92 rfl TI54 rfl h74 ⟨rfl, Only.refl No _⟩)) ?_
      refine WD.p rfl (fun e w hR hh => by obtain ⟨h75, -⟩ := hh; rw [← hwd] at hR; exact SG.n (o_ld TI54 rfl h75 (cell_of (hM.ext hR).cl rfl) ⟨rfl, Only.refl No _⟩)) ?_
      refine WD.p rfl (fun e w hR hh => by obtain ⟨h0, -⟩ := hh; exact SG.n (o_mvh h0 ⟨rfl, Only.refl No _⟩)) ?_
      refine WD.p rfl (fun e w hR hh => by obtain ⟨h77, -⟩ := hh; exact SG.n (o_nil h77 ⟨rfl, Only.refl No _⟩)) ?_
      refine WD.p rfl (fun e w hR hh => by obtain ⟨h78, -⟩ := hh; exact SG.n (o_fa 1 TI92 rfl TI3 rfl h78 ⟨rfl, Only.refl No _⟩)) ?_
      refine WD.p rfl (fun e w hR hh => by obtain ⟨h79, -⟩ := hh; rw [← hwd] at hR; exact SG.n (o_ld TI3 rfl h79 (cell_of (hM.ext hR).cl rfl) ⟨rfl, Only.refl No _⟩)) ?_
      refine WD.p rfl (fun e w hR hh => by obtain ⟨h80, h76, -⟩ := hh; exact SG.n (o_ixB (i := i) TI54 TI58 (h76.trans (by rw [← hlv]; rfl)) h80 hil ⟨rfl, Only.refl No _⟩)) ?_
      refine WD.p rfl (fun e w hR hh => by obtain ⟨h81, -⟩ := hh; rw [← hwd] at hR; exact SG.n (o_ldA TI58 rfl h81 (htc.only hR (fun h => h)) rfl ⟨rfl, Only.refl No _⟩)) ?_
      refine WD.q (fun v w => ∃ c, wd.heap.size ≤ c ∧ v = .pointer (some ⟨c, 0, none⟩) ∧ w.heap[c]? = some (.cells (tokV tk0) 58 (0, 0))) (fun v w w2 hR hh => by obtain ⟨c, h1, h2, h3⟩ := hh; exact ⟨c, h1, h2, hR.blk h3 (fun h => h)⟩) rfl (fun e w hR hh => by skip; rw [← hwd] at hR; exact SG.n (o_alB TI58 (fun w' h1 h2 h3 => ⟨⟨w.heap.size, hR.size, rfl, h1⟩, h2⟩))) ?_
      rintro e w hR ⟨h4, h82, h81, h80, h79, h78, h77, h76, h75, h74, h73, h0, h3, -⟩
      rw [← hwd] at hR
      replace hM := hM.ext hR
      replace hO := hO.ext hR
      obtain ⟨c4, hc4, h4, hC4z⟩ := h4
      have hpl : p < wd.heap.size := (Array.getElem?_eq_some_iff.1 hcellp).1
      have hpl4 : ¬ c4 = p := fun he => by omega
      have hHc4 : H ≤ c4 := by have := hMle0; omega
      have hlvl : ∀ b, lv.ownBlock = some b → b < c4 := fun b hb => by have := hM.lt b hb; omega
      have hsv4 : ∀ b, sv2.ownBlock = some b → ¬ b = c4 := fun b hb he => by have := hsl0 b hb; omega
      have hov4 : ∀ b, ov2.ownBlock = some b → ¬ b = c4 := fun b hb he => by have := hol0 b hb; omega
      refine WL.u (o_stA TI58 h4 (show _ = Value.agg (tokV (tkA T i)) from h82) rfl rfl hC4z rfl ?_)
      intro w7 hC4 ho7 hs7
      replace hM : RdM w7 H p lv sv2 ov2 T ⟨i, S, o, d⟩ := ⟨ho7.blk hM.cl (fun h => hpl4 h.symm), own_only hM.toks ho7 (fun b hb he => by have := hlvl b hb; omega), own_only hM.sn ho7 (fun b hb he => hsv4 b hb he), own_only hM.on ho7 (fun b hb he => hov4 b hb he), hM.hp, hM.lt, by have := hM.le; omega⟩
      replace hO := hO.trans' ho7 (fun _ h => h) (fun k _ he => by subst he; exact hHc4)
      have h3v := h3
      refine WL.nil ?_
      refine W.seq ?_
      refine W.seq ?_
      refine W.region ?_
      refine WL.c rfl (o_mvh h3 ?_)
      refine WL.nil ?_
      refine W.block ?_
      refine W.seq ?_
      refine W.region ?_
      refine WL.c rfl (o_eqT rfl rfl ?_)
      refine WL.c rfl (o_ash (show _ = Value.bool _ from rfl) ?_)
      refine WL.nil ?_
      refine W.condF' rfl (by decide) ?_
      refine W.seq ?_
      refine W.region ?_
      refine WL.c rfl (o_eqT rfl rfl ?_)
      refine WL.c rfl (o_ash (show _ = Value.bool _ from rfl) ?_)
      refine WL.nil ?_
      refine W.condF' rfl (by decide) ?_
      refine W.seq ?_
      refine W.region ?_
      refine WL.c rfl (o_eqT rfl rfl ?_)
      refine WL.c rfl (o_ash (show _ = Value.bool _ from rfl) ?_)
      refine WL.nil ?_
      refine W.condF' rfl (by decide) ?_
      refine W.seq ?_
      refine W.region ?_
      refine WL.c rfl (o_eqT rfl rfl ?_)
      refine WL.c rfl (o_ash (show _ = Value.bool _ from rfl) ?_)
      refine WL.nil ?_
      refine W.condF' rfl (by decide) ?_
      refine W.seq ?_
      refine W.seq ?_
      refine W.region ?_
      refine WL.c rfl (o_eqT rfl rfl ?_)
      refine WL.c rfl (o_ash (show _ = Value.bool _ from rfl) ?_)
      refine WL.nil ?_
      refine W.condF' rfl (by decide) ?_
      refine W.region ?_
      refine WL.c rfl (o_eqT rfl rfl ?_)
      refine WL.c rfl (o_ash (show _ = Value.bool _ from rfl) ?_)
      refine WL.nil ?_
      refine W.condF' rfl (by decide) ?_
      refine W.skip ?_
      refine W.seq ?_
      refine W.seq ?_
      refine W.region ?_
      refine WL.c rfl (o_ldA TI58 rfl h4 (show Cells _ c4 0 (tokV (tkA T i)).toList from Cells.of hC4 0 _ (by simp)) rfl ?_)
      refine WL.c rfl (o_mvh h3 ?_)
      refine WL.c rfl (o_call Try.call67 (lc rfl (lc rfl ln)) ((ris_name (tkA T i) _ (hTt i)).mono ?_))
      rintro v176 w176 ⟨rfl, hx176⟩
      replace hM := hM.ext hx176
      replace hO := hO.ext hx176
      replace hC4 := hx176.blk hC4 (fun h => h)
      refine WL.c rfl (o_not' rfl ?_)
      refine WL.nil ?_
      refine W.cond rfl (fun c177 => ?_) (fun c177 => ?_)
      · try simp only [decide_eq_true_eq, decide_eq_false_iff_not, Bool.not_eq_true', Bool.not_eq_false', Bool.and_eq_true, Bool.or_eq_true, Bool.and_eq_false_iff, Bool.or_eq_false_iff] at c177
        have hno := c177
        refine W.seq ?_
        refine W.region ?_
        refine WL.c rfl (o_ash (show _ = Value.int _ _ from rfl) ?_)
        refine WL.nil ?_
        refine W.ret ?_
        refine ret1v rfl (show _ = Value.int _ _ from rfl) ?_
        exact ⟨hO, res_er (e := 60) (by simp_all [stepF]) rfl hM⟩
      · try simp only [decide_eq_true_eq, decide_eq_false_iff_not, Bool.not_eq_true', Bool.not_eq_false', Bool.and_eq_true, Bool.or_eq_true, Bool.and_eq_false_iff, Bool.or_eq_false_iff] at c177
        have hno := c177
        refine W.skip ?_
        refine W.seq ?_
        refine W.region ?_
        refine WL.c rfl (o_mvh h0 ?_)
        refine WL.c rfl (o_nil rfl ?_)
        refine WL.c rfl (o_fa 1 TI92 rfl TI3 rfl rfl ?_)
        refine WL.c rfl (o_ld TI3 rfl rfl (cell_of hM.cl rfl) ?_)
        refine WL.c rfl (o_addi rfl rfl (by omega) ?_)
        refine WL.c rfl (o_nil rfl ?_)
        refine WL.c rfl (o_fa 1 TI92 rfl TI3 rfl rfl ?_)
        refine WL.u (o_stB TI3 rfl (show _ = Value.int .i64 ((i : Int) + 1) from rfl) rfl hM.cl (show 1 < 5 by decide) ?_)
        intro wz hBn hon hsn
        replace hO := hM.hO hO hon
        replace hM := hM.put (i := i + 1) hBn hon hM.sn hM.on
        refine WL.nil ?_
        refine W.seq ?_
        refine W.region ?_
        refine WL.c rfl (o_ash (show _ = Value.int _ _ from rfl) ?_)
        refine WL.nil ?_
        refine W.ret ?_
        refine ret1v rfl (show _ = Value.int _ _ from rfl) ?_
        exact ⟨hO, res_go (s := ⟨i + 1, S, o, d⟩) (by simp_all [stepF]) rfl hM⟩
  · skip
    skip
    refine W.region ?_
    refine WL.c rfl (o_mvh (show _ = Value.string _ from rfl) ?_)
    refine WL.c rfl (o_eqT rfl rfl ?_)
    refine WL.nil ?_
    refine W.condF' rfl (by decide) ?_
    refine W.skip ?_
    refine W.seq ?_
    refine W.seq ?_
    refine W.quiet rfl (by kernel_rfl) ?_
    refine WQ.c rfl ((QO.o rfl fun _ => o_mvh (show _ = Value.string _ from rfl) ⟨rfl, rfl⟩)) ?_
    refine WQ.c rfl ((QO.o rfl fun _ => o_eqT rfl rfl ⟨rfl, rfl⟩)) ?_
    refine WQ.c rfl ((QO.o rfl fun _ => o_mvh (show _ = Value.bool _ from rfl) ⟨rfl, rfl⟩)) ?_
    refine WQ.s rfl (by decide) rfl ?_
    refine WQ.s rfl (by decide) rfl ?_
    refine WQ.s rfl (by decide) rfl ?_
    refine WQ.s rfl (by decide) rfl ?_
    refine WQ.s rfl (by decide) rfl ?_
    refine WQ.s rfl (by decide) rfl ?_
    refine WQ.s rfl (by decide) rfl ?_
    refine WQ.s rfl (by decide) rfl ?_
    refine WQ.s rfl (by decide) rfl ?_
    refine WQ.s rfl (by decide) rfl ?_
    refine WQ.c rfl ((QO.r fun _ => r_pickF rfl (by decide))) ?_
    refine WQ.nil ?_
    intro nq
    have hxq := Only.drewN w3 nq
    replace hM := hM.ext hxq
    replace hO := hO.ext hxq
    clear hxq
    generalize w3.drewN nq = w5 at *
    refine W.condF' rfl (by decide) ?_
    refine W.skip ?_
    refine W.seq ?_
    refine W.seq ?_
    refine W.quiet rfl (by kernel_rfl) ?_
    refine WQ.c rfl ((QO.o rfl fun _ => o_mvh (by first | exact (show _ = Value.pointer _ from rfl) | exact rfl) ⟨rfl, rfl⟩)) ?_
    refine WQ.c rfl ((QO.r fun _ => r_nil rfl)) ?_
    refine WQ.c rfl ((QO.o rfl fun _ => o_fa 1 TI92 rfl TI3 rfl rfl ⟨rfl, rfl⟩)) ?_
    refine WQ.c rfl ((QO.o rfl fun _ => o_ld TI3 rfl rfl (cell_of hM.cl rfl) ⟨rfl, rfl⟩)) ?_
    refine WQ.c rfl ((QO.o rfl fun _ => o_mvh (by first | exact (show _ = Value.pointer _ from rfl) | exact rfl) ⟨rfl, rfl⟩)) ?_
    refine WQ.c rfl ((QO.r fun _ => r_nil rfl)) ?_
    refine WQ.c rfl ((QO.o rfl fun _ => o_fa 0 TI92 rfl TI54 rfl rfl ⟨rfl, rfl⟩)) ?_
    refine WQ.c rfl ((QO.o rfl fun _ => o_ld TI54 rfl rfl (cell_of hM.cl rfl) ⟨rfl, rfl⟩)) ?_
    refine WQ.c rfl ((QO.r fun _ => r_lenR TI54 rfl (Sl.own hM.toks))) ?_
    refine WQ.c rfl ((QO.o rfl fun _ => o_eq rfl rfl ⟨rfl, rfl⟩)) ?_
    refine WQ.nil ?_
    intro nq
    have hxq := Only.drewN w5 nq
    replace hM := hM.ext hxq
    replace hO := hO.ext hxq
    clear hxq
    generalize w5.drewN nq = w6 at *
    refine W.cond rfl (fun c72 => ?_) (fun c72 => ?_)
    · try simp only [decide_eq_true_eq, decide_eq_false_iff_not, Bool.not_eq_true', Bool.not_eq_false', Bool.and_eq_true, Bool.or_eq_true, Bool.and_eq_false_iff, Bool.or_eq_false_iff] at c72
      have hie : i = T.length := by omega
      refine W.seq ?_
      refine W.region ?_
      refine WL.c rfl (o_ash (show _ = Value.int _ _ from rfl) ?_)
      refine WL.nil ?_
      refine W.ret ?_
      refine ret1v rfl (show _ = Value.int _ _ from rfl) ?_
      exact ⟨hO, res_er (e := 60) (by simp [stepF, hie]) rfl hM⟩
    · try simp only [decide_eq_true_eq, decide_eq_false_iff_not, Bool.not_eq_true', Bool.not_eq_false', Bool.and_eq_true, Bool.or_eq_true, Bool.and_eq_false_iff, Bool.or_eq_false_iff] at c72
      have hie : ¬ i = T.length := by omega
      refine W.skip ?_
      refine W.seq ?_
      have hil : i < T.length := by omega
      obtain ⟨wd, hwd⟩ : ∃ wd, wd = w6.drew := ⟨_, rfl⟩
      have hxd : Ext w6 wd := hwd ▸ Only.drew w6
      replace hM := hM.ext hxd
      replace hO := hO.ext hxd
      obtain ⟨tb, to_, tc, hlv, htc⟩ := Sl.tok (Sl.own hM.toks) hil
      have hcellp := hM.cl
      have hMle0 := hM.le
      have hsl0 : ∀ b, sv2.ownBlock = some b → b < wd.heap.size := fun b hb => (hM.sn.lt b hb).2
      have hol0 : ∀ b, ov2.ownBlock = some b → b < wd.heap.size := fun b hb => (hM.on.lt b hb).2
      refine W.drawT 11 (Ext) [(0, fun v _ => v = _), (3, fun v _ => v = _)] rfl (by kernel_rfl) (Only.refl No) (fun _ _ _ h k => h.trans k) ⟨Mono.eq, Mono.eq, trivial⟩ ⟨rfl, rfl, trivial⟩ ?_
      refine WD.p rfl (fun e w hR hh => by obtain ⟨h0, -⟩ := hh; exact SG.n (o_mvh h0 ⟨rfl, Only.refl No _⟩)) ?_
      refine WD.p rfl (fun e w hR hh => by obtain ⟨h73, -⟩ := hh; exact SG.n (o_nil h73 ⟨rfl, Only.refl No _⟩)) ?_
      refine WD.p rfl (fun e w hR hh => by obtain ⟨h74, -⟩ := hh; exact SG.n (o_fa 0 TI92 rfl TI54 rfl h74 ⟨rfl, Only.refl No _⟩)) ?_
      refine WD.p rfl (fun e w hR hh => by obtain ⟨h75, -⟩ := hh; rw [← hwd] at hR; exact SG.n (o_ld TI54 rfl h75 (cell_of (hM.ext hR).cl rfl) ⟨rfl, Only.refl No _⟩)) ?_
      refine WD.p rfl (fun e w hR hh => by obtain ⟨h0, -⟩ := hh; exact SG.n (o_mvh h0 ⟨rfl, Only.refl No _⟩)) ?_
      refine WD.p rfl (fun e w hR hh => by obtain ⟨h77, -⟩ := hh; exact SG.n (o_nil h77 ⟨rfl, Only.refl No _⟩)) ?_
      refine WD.p rfl (fun e w hR hh => by obtain ⟨h78, -⟩ := hh; exact SG.n (o_fa 1 TI92 rfl TI3 rfl h78 ⟨rfl, Only.refl No _⟩)) ?_
      refine WD.p rfl (fun e w hR hh => by obtain ⟨h79, -⟩ := hh; rw [← hwd] at hR; exact SG.n (o_ld TI3 rfl h79 (cell_of (hM.ext hR).cl rfl) ⟨rfl, Only.refl No _⟩)) ?_
      refine WD.p rfl (fun e w hR hh => by obtain ⟨h80, h76, -⟩ := hh; exact SG.n (o_ixB (i := i) TI54 TI58 (h76.trans (by rw [← hlv]; rfl)) h80 hil ⟨rfl, Only.refl No _⟩)) ?_
      refine WD.p rfl (fun e w hR hh => by obtain ⟨h81, -⟩ := hh; rw [← hwd] at hR; exact SG.n (o_ldA TI58 rfl h81 (htc.only hR (fun h => h)) rfl ⟨rfl, Only.refl No _⟩)) ?_
      refine WD.q (fun v w => ∃ c, wd.heap.size ≤ c ∧ v = .pointer (some ⟨c, 0, none⟩) ∧ w.heap[c]? = some (.cells (tokV tk0) 58 (0, 0))) (fun v w w2 hR hh => by obtain ⟨c, h1, h2, h3⟩ := hh; exact ⟨c, h1, h2, hR.blk h3 (fun h => h)⟩) rfl (fun e w hR hh => by skip; rw [← hwd] at hR; exact SG.n (o_alB TI58 (fun w' h1 h2 h3 => ⟨⟨w.heap.size, hR.size, rfl, h1⟩, h2⟩))) ?_
      rintro e w hR ⟨h4, h82, h81, h80, h79, h78, h77, h76, h75, h74, h73, h0, h3, -⟩
      rw [← hwd] at hR
      replace hM := hM.ext hR
      replace hO := hO.ext hR
      obtain ⟨c4, hc4, h4, hC4z⟩ := h4
      have hpl : p < wd.heap.size := (Array.getElem?_eq_some_iff.1 hcellp).1
      have hpl4 : ¬ c4 = p := fun he => by omega
      have hHc4 : H ≤ c4 := by have := hMle0; omega
      have hlvl : ∀ b, lv.ownBlock = some b → b < c4 := fun b hb => by have := hM.lt b hb; omega
      have hsv4 : ∀ b, sv2.ownBlock = some b → ¬ b = c4 := fun b hb he => by have := hsl0 b hb; omega
      have hov4 : ∀ b, ov2.ownBlock = some b → ¬ b = c4 := fun b hb he => by have := hol0 b hb; omega
      refine WL.u (o_stA TI58 h4 (show _ = Value.agg (tokV (tkA T i)) from h82) rfl rfl hC4z rfl ?_)
      intro w7 hC4 ho7 hs7
      replace hM : RdM w7 H p lv sv2 ov2 T ⟨i, S, o, d⟩ := ⟨ho7.blk hM.cl (fun h => hpl4 h.symm), own_only hM.toks ho7 (fun b hb he => by have := hlvl b hb; omega), own_only hM.sn ho7 (fun b hb he => hsv4 b hb he), own_only hM.on ho7 (fun b hb he => hov4 b hb he), hM.hp, hM.lt, by have := hM.le; omega⟩
      replace hO := hO.trans' ho7 (fun _ h => h) (fun k _ he => by subst he; exact hHc4)
      have h3v := h3
      refine WL.nil ?_
      refine W.seq ?_
      refine W.seq ?_
      refine W.region ?_
      refine WL.c rfl (o_mvh h3 ?_)
      refine WL.nil ?_
      refine W.block ?_
      refine W.seq ?_
      refine W.region ?_
      refine WL.c rfl (o_eqT rfl rfl ?_)
      refine WL.c rfl (o_ash (show _ = Value.bool _ from rfl) ?_)
      refine WL.nil ?_
      refine W.condF' rfl (by decide) ?_
      refine W.seq ?_
      refine W.region ?_
      refine WL.c rfl (o_eqT rfl rfl ?_)
      refine WL.c rfl (o_ash (show _ = Value.bool _ from rfl) ?_)
      refine WL.nil ?_
      refine W.condF' rfl (by decide) ?_
      refine W.seq ?_
      refine W.region ?_
      refine WL.c rfl (o_eqT rfl rfl ?_)
      refine WL.c rfl (o_ash (show _ = Value.bool _ from rfl) ?_)
      refine WL.nil ?_
      refine W.condF' rfl (by decide) ?_
      refine W.seq ?_
      refine W.region ?_
      refine WL.c rfl (o_eqT rfl rfl ?_)
      refine WL.c rfl (o_ash (show _ = Value.bool _ from rfl) ?_)
      refine WL.nil ?_
      refine W.condF' rfl (by decide) ?_
      refine W.seq ?_
      refine W.seq ?_
      refine W.region ?_
      refine WL.c rfl (o_eqT rfl rfl ?_)
      refine WL.c rfl (o_ash (show _ = Value.bool _ from rfl) ?_)
      refine WL.nil ?_
      refine W.condF' rfl (by decide) ?_
      refine W.region ?_
      refine WL.c rfl (o_eqT rfl rfl ?_)
      refine WL.c rfl (o_ash (show _ = Value.bool _ from rfl) ?_)
      refine WL.nil ?_
      refine W.condF' rfl (by decide) ?_
      refine W.skip ?_
      refine W.seq ?_
      refine W.seq ?_
      refine W.region ?_
      refine WL.c rfl (o_ldA TI58 rfl h4 (show Cells _ c4 0 (tokV (tkA T i)).toList from Cells.of hC4 0 _ (by simp)) rfl ?_)
      refine WL.c rfl (o_mvh h3 ?_)
      refine WL.c rfl (o_call Try.call67 (lc rfl (lc rfl ln)) ((ris_num (tkA T i) _ (hTt i)).mono ?_))
      rintro v176 w176 ⟨rfl, hx176⟩
      replace hM := hM.ext hx176
      replace hO := hO.ext hx176
      replace hC4 := hx176.blk hC4 (fun h => h)
      refine WL.c rfl (o_not' rfl ?_)
      refine WL.nil ?_
      refine W.cond rfl (fun c177 => ?_) (fun c177 => ?_)
      · try simp only [decide_eq_true_eq, decide_eq_false_iff_not, Bool.not_eq_true', Bool.not_eq_false', Bool.and_eq_true, Bool.or_eq_true, Bool.and_eq_false_iff, Bool.or_eq_false_iff] at c177
        have hno := c177
        refine W.seq ?_
        refine W.region ?_
        refine WL.c rfl (o_ash (show _ = Value.int _ _ from rfl) ?_)
        refine WL.nil ?_
        refine W.ret ?_
        refine ret1v rfl (show _ = Value.int _ _ from rfl) ?_
        exact ⟨hO, res_er (e := 60) (by simp_all [stepF]) rfl hM⟩
      · try simp only [decide_eq_true_eq, decide_eq_false_iff_not, Bool.not_eq_true', Bool.not_eq_false', Bool.and_eq_true, Bool.or_eq_true, Bool.and_eq_false_iff, Bool.or_eq_false_iff] at c177
        have hno := c177
        refine W.skip ?_
        refine W.seq ?_
        refine W.region ?_
        refine WL.c rfl (o_mvh h0 ?_)
        refine WL.c rfl (o_nil rfl ?_)
        refine WL.c rfl (o_fa 1 TI92 rfl TI3 rfl rfl ?_)
        refine WL.c rfl (o_ld TI3 rfl rfl (cell_of hM.cl rfl) ?_)
        refine WL.c rfl (o_addi rfl rfl (by omega) ?_)
        refine WL.c rfl (o_nil rfl ?_)
        refine WL.c rfl (o_fa 1 TI92 rfl TI3 rfl rfl ?_)
        refine WL.u (o_stB TI3 rfl (show _ = Value.int .i64 ((i : Int) + 1) from rfl) rfl hM.cl (show 1 < 5 by decide) ?_)
        intro wz hBn hon hsn
        replace hO := hM.hO hO hon
        replace hM := hM.put (i := i + 1) hBn hon hM.sn hM.on
        refine WL.nil ?_
        refine W.seq ?_
        refine W.region ?_
        refine WL.c rfl (o_ash (show _ = Value.int _ _ from rfl) ?_)
        refine WL.nil ?_
        refine W.ret ?_
        refine ret1v rfl (show _ = Value.int _ _ from rfl) ?_
        exact ⟨hO, res_go (s := ⟨i + 1, S, o, d⟩) (by simp_all [stepF]) rfl hM⟩
  · skip
    skip
    refine W.region ?_
    refine WL.c rfl (o_mvh (show _ = Value.string _ from rfl) ?_)
    refine WL.c rfl (o_eqT rfl rfl ?_)
    refine WL.nil ?_
    refine W.condF' rfl (by decide) ?_
    refine W.skip ?_
    refine W.seq ?_
    refine W.seq ?_
    refine W.quiet rfl (by kernel_rfl) ?_
    refine WQ.c rfl ((QO.o rfl fun _ => o_mvh (show _ = Value.string _ from rfl) ⟨rfl, rfl⟩)) ?_
    refine WQ.c rfl ((QO.o rfl fun _ => o_eqT rfl rfl ⟨rfl, rfl⟩)) ?_
    refine WQ.c rfl ((QO.o rfl fun _ => o_mvh (show _ = Value.bool _ from rfl) ⟨rfl, rfl⟩)) ?_
    refine WQ.s rfl (by decide) rfl ?_
    refine WQ.s rfl (by decide) rfl ?_
    refine WQ.s rfl (by decide) rfl ?_
    refine WQ.s rfl (by decide) rfl ?_
    refine WQ.s rfl (by decide) rfl ?_
    refine WQ.s rfl (by decide) rfl ?_
    refine WQ.s rfl (by decide) rfl ?_
    refine WQ.s rfl (by decide) rfl ?_
    refine WQ.s rfl (by decide) rfl ?_
    refine WQ.s rfl (by decide) rfl ?_
    refine WQ.c rfl ((QO.r fun _ => r_pickF rfl (by decide))) ?_
    refine WQ.nil ?_
    intro nq
    have hxq := Only.drewN w3 nq
    replace hM := hM.ext hxq
    replace hO := hO.ext hxq
    clear hxq
    generalize w3.drewN nq = w5 at *
    refine W.condF' rfl (by decide) ?_
    refine W.skip ?_
    refine W.seq ?_
    refine W.seq ?_
    refine W.quiet rfl (by kernel_rfl) ?_
    refine WQ.c rfl ((QO.o rfl fun _ => o_mvh (by first | exact (show _ = Value.pointer _ from rfl) | exact rfl) ⟨rfl, rfl⟩)) ?_
    refine WQ.c rfl ((QO.r fun _ => r_nil rfl)) ?_
    refine WQ.c rfl ((QO.o rfl fun _ => o_fa 1 TI92 rfl TI3 rfl rfl ⟨rfl, rfl⟩)) ?_
    refine WQ.c rfl ((QO.o rfl fun _ => o_ld TI3 rfl rfl (cell_of hM.cl rfl) ⟨rfl, rfl⟩)) ?_
    refine WQ.c rfl ((QO.o rfl fun _ => o_mvh (by first | exact (show _ = Value.pointer _ from rfl) | exact rfl) ⟨rfl, rfl⟩)) ?_
    refine WQ.c rfl ((QO.r fun _ => r_nil rfl)) ?_
    refine WQ.c rfl ((QO.o rfl fun _ => o_fa 0 TI92 rfl TI54 rfl rfl ⟨rfl, rfl⟩)) ?_
    refine WQ.c rfl ((QO.o rfl fun _ => o_ld TI54 rfl rfl (cell_of hM.cl rfl) ⟨rfl, rfl⟩)) ?_
    refine WQ.c rfl ((QO.r fun _ => r_lenR TI54 rfl (Sl.own hM.toks))) ?_
    refine WQ.c rfl ((QO.o rfl fun _ => o_eq rfl rfl ⟨rfl, rfl⟩)) ?_
    refine WQ.nil ?_
    intro nq
    have hxq := Only.drewN w5 nq
    replace hM := hM.ext hxq
    replace hO := hO.ext hxq
    clear hxq
    generalize w5.drewN nq = w6 at *
    refine W.cond rfl (fun c72 => ?_) (fun c72 => ?_)
    · try simp only [decide_eq_true_eq, decide_eq_false_iff_not, Bool.not_eq_true', Bool.not_eq_false', Bool.and_eq_true, Bool.or_eq_true, Bool.and_eq_false_iff, Bool.or_eq_false_iff] at c72
      have hie : i = T.length := by omega
      refine W.seq ?_
      refine W.region ?_
      refine WL.c rfl (o_ash (show _ = Value.int _ _ from rfl) ?_)
      refine WL.nil ?_
      refine W.ret ?_
      refine ret1v rfl (show _ = Value.int _ _ from rfl) ?_
      exact ⟨hO, res_er (e := 60) (by simp [stepF, hie]) rfl hM⟩
    · try simp only [decide_eq_true_eq, decide_eq_false_iff_not, Bool.not_eq_true', Bool.not_eq_false', Bool.and_eq_true, Bool.or_eq_true, Bool.and_eq_false_iff, Bool.or_eq_false_iff] at c72
      have hie : ¬ i = T.length := by omega
      refine W.skip ?_
      refine W.seq ?_
      have hil : i < T.length := by omega
      obtain ⟨wd, hwd⟩ : ∃ wd, wd = w6.drew := ⟨_, rfl⟩
      have hxd : Ext w6 wd := hwd ▸ Only.drew w6
      replace hM := hM.ext hxd
      replace hO := hO.ext hxd
      obtain ⟨tb, to_, tc, hlv, htc⟩ := Sl.tok (Sl.own hM.toks) hil
      have hcellp := hM.cl
      have hMle0 := hM.le
      have hsl0 : ∀ b, sv2.ownBlock = some b → b < wd.heap.size := fun b hb => (hM.sn.lt b hb).2
      have hol0 : ∀ b, ov2.ownBlock = some b → b < wd.heap.size := fun b hb => (hM.on.lt b hb).2
      refine W.drawT 11 (Ext) [(0, fun v _ => v = _), (3, fun v _ => v = _)] rfl (by kernel_rfl) (Only.refl No) (fun _ _ _ h k => h.trans k) ⟨Mono.eq, Mono.eq, trivial⟩ ⟨rfl, rfl, trivial⟩ ?_
      refine WD.p rfl (fun e w hR hh => by obtain ⟨h0, -⟩ := hh; exact SG.n (o_mvh h0 ⟨rfl, Only.refl No _⟩)) ?_
      refine WD.p rfl (fun e w hR hh => by obtain ⟨h73, -⟩ := hh; exact SG.n (o_nil h73 ⟨rfl, Only.refl No _⟩)) ?_
      refine WD.p rfl (fun e w hR hh => by obtain ⟨h74, -⟩ := hh; exact SG.n (o_fa 0 TI92 rfl TI54 rfl h74 ⟨rfl, Only.refl No _⟩)) ?_
      refine WD.p rfl (fun e w hR hh => by obtain ⟨h75, -⟩ := hh; rw [← hwd] at hR; exact SG.n (o_ld TI54 rfl h75 (cell_of (hM.ext hR).cl rfl) ⟨rfl, Only.refl No _⟩)) ?_
      refine WD.p rfl (fun e w hR hh => by obtain ⟨h0, -⟩ := hh; exact SG.n (o_mvh h0 ⟨rfl, Only.refl No _⟩)) ?_
      refine WD.p rfl (fun e w hR hh => by obtain ⟨h77, -⟩ := hh; exact SG.n (o_nil h77 ⟨rfl, Only.refl No _⟩)) ?_
      refine WD.p rfl (fun e w hR hh => by obtain ⟨h78, -⟩ := hh; exact SG.n (o_fa 1 TI92 rfl TI3 rfl h78 ⟨rfl, Only.refl No _⟩)) ?_
      refine WD.p rfl (fun e w hR hh => by obtain ⟨h79, -⟩ := hh; rw [← hwd] at hR; exact SG.n (o_ld TI3 rfl h79 (cell_of (hM.ext hR).cl rfl) ⟨rfl, Only.refl No _⟩)) ?_
      refine WD.p rfl (fun e w hR hh => by obtain ⟨h80, h76, -⟩ := hh; exact SG.n (o_ixB (i := i) TI54 TI58 (h76.trans (by rw [← hlv]; rfl)) h80 hil ⟨rfl, Only.refl No _⟩)) ?_
      refine WD.p rfl (fun e w hR hh => by obtain ⟨h81, -⟩ := hh; rw [← hwd] at hR; exact SG.n (o_ldA TI58 rfl h81 (htc.only hR (fun h => h)) rfl ⟨rfl, Only.refl No _⟩)) ?_
      refine WD.q (fun v w => ∃ c, wd.heap.size ≤ c ∧ v = .pointer (some ⟨c, 0, none⟩) ∧ w.heap[c]? = some (.cells (tokV tk0) 58 (0, 0))) (fun v w w2 hR hh => by obtain ⟨c, h1, h2, h3⟩ := hh; exact ⟨c, h1, h2, hR.blk h3 (fun h => h)⟩) rfl (fun e w hR hh => by skip; rw [← hwd] at hR; exact SG.n (o_alB TI58 (fun w' h1 h2 h3 => ⟨⟨w.heap.size, hR.size, rfl, h1⟩, h2⟩))) ?_
      rintro e w hR ⟨h4, h82, h81, h80, h79, h78, h77, h76, h75, h74, h73, h0, h3, -⟩
      rw [← hwd] at hR
      replace hM := hM.ext hR
      replace hO := hO.ext hR
      obtain ⟨c4, hc4, h4, hC4z⟩ := h4
      have hpl : p < wd.heap.size := (Array.getElem?_eq_some_iff.1 hcellp).1
      have hpl4 : ¬ c4 = p := fun he => by omega
      have hHc4 : H ≤ c4 := by have := hMle0; omega
      have hlvl : ∀ b, lv.ownBlock = some b → b < c4 := fun b hb => by have := hM.lt b hb; omega
      have hsv4 : ∀ b, sv2.ownBlock = some b → ¬ b = c4 := fun b hb he => by have := hsl0 b hb; omega
      have hov4 : ∀ b, ov2.ownBlock = some b → ¬ b = c4 := fun b hb he => by have := hol0 b hb; omega
      refine WL.u (o_stA TI58 h4 (show _ = Value.agg (tokV (tkA T i)) from h82) rfl rfl hC4z rfl ?_)
      intro w7 hC4 ho7 hs7
      replace hM : RdM w7 H p lv sv2 ov2 T ⟨i, S, o, d⟩ := ⟨ho7.blk hM.cl (fun h => hpl4 h.symm), own_only hM.toks ho7 (fun b hb he => by have := hlvl b hb; omega), own_only hM.sn ho7 (fun b hb he => hsv4 b hb he), own_only hM.on ho7 (fun b hb he => hov4 b hb he), hM.hp, hM.lt, by have := hM.le; omega⟩
      replace hO := hO.trans' ho7 (fun _ h => h) (fun k _ he => by subst he; exact hHc4)
      have h3v := h3
      refine WL.nil ?_
      refine W.seq ?_
      refine W.seq ?_
      refine W.region ?_
      refine WL.c rfl (o_mvh h3 ?_)
      refine WL.nil ?_
      refine W.block ?_
      refine W.seq ?_
      refine W.region ?_
      refine WL.c rfl (o_eqT rfl rfl ?_)
      refine WL.c rfl (o_ash (show _ = Value.bool _ from rfl) ?_)
      refine WL.nil ?_
      refine W.condF' rfl (by decide) ?_
      refine W.seq ?_
      refine W.region ?_
      refine WL.c rfl (o_eqT rfl rfl ?_)
      refine WL.c rfl (o_ash (show _ = Value.bool _ from rfl) ?_)
      refine WL.nil ?_
      refine W.condT' rfl (by decide) ?_
      refine W.seq ?_
      refine W.seq ?_
      refine W.region ?_
      refine WL.c rfl (o_ldA TI58 rfl h4 (show Cells _ c4 0 (tokV (tkA T i)).toList from Cells.of hC4 0 _ (by simp)) rfl ?_)
      refine WL.c rfl (o_call Try.call69 (lc rfl ln) ((rbegins_spec (tkA T i) _).mono ?_))
      rintro v107 w107 ⟨rfl, hx107⟩
      replace hM := hM.ext hx107
      replace hO := hO.ext hx107
      replace hC4 := hx107.blk hC4 (fun h => h)
      refine WL.c rfl (o_not' rfl ?_)
      refine WL.nil ?_
      refine W.cond rfl (fun c108 => ?_) (fun c108 => ?_)
      · try simp only [decide_eq_true_eq, decide_eq_false_iff_not, Bool.not_eq_true', Bool.not_eq_false', Bool.and_eq_true, Bool.or_eq_true, Bool.and_eq_false_iff, Bool.or_eq_false_iff] at c108
        have hno := c108
        refine W.seq ?_
        refine W.region ?_
        refine WL.c rfl (o_ash (show _ = Value.int _ _ from rfl) ?_)
        refine WL.nil ?_
        refine W.ret ?_
        refine ret1v rfl (show _ = Value.int _ _ from rfl) ?_
        exact ⟨hO, res_er (e := 60) (by simp_all [stepF]) rfl hM⟩
      · try simp only [decide_eq_true_eq, decide_eq_false_iff_not, Bool.not_eq_true', Bool.not_eq_false', Bool.and_eq_true, Bool.or_eq_true, Bool.and_eq_false_iff, Bool.or_eq_false_iff] at c108
        have hno := c108
        refine W.skip ?_
        refine W.seq ?_
        refine W.seq ?_
        refine W.region ?_
        refine WL.c rfl (o_mvh h0 ?_)
        refine WL.c rfl (o_nil rfl ?_)
        refine WL.c rfl (o_fa 3 TI92 rfl TI22 rfl rfl ?_)
        refine WL.c rfl (o_ld TI22 rfl rfl (cell_of hM.cl rfl) ?_)
        refine WL.c rfl (o_lenR TI22 rfl (Sl.own hM.on) ?_)
        refine WL.c rfl (o_gt rfl rfl ?_)
        refine WL.nil ?_
        refine W.cond rfl (fun c114 => ?_) (fun c114 => ?_)
        · try simp only [decide_eq_true_eq, decide_eq_false_iff_not, Bool.not_eq_true', Bool.not_eq_false', Bool.and_eq_true, Bool.or_eq_true, Bool.and_eq_false_iff, Bool.or_eq_false_iff] at c114
          have ho16 : 16 < o.length := by omega
          refine W.seq ?_
          refine W.region ?_
          refine WL.c rfl (o_ash (show _ = Value.int _ _ from rfl) ?_)
          refine WL.nil ?_
          refine W.ret ?_
          refine ret1v rfl (show _ = Value.int _ _ from rfl) ?_
          exact ⟨hO, res_er (e := 61) (by rw [stepF, if_neg hie, if_neg (by simpa using hno), if_pos ho16]) rfl hM⟩
        · try simp only [decide_eq_true_eq, decide_eq_false_iff_not, Bool.not_eq_true', Bool.not_eq_false', Bool.and_eq_true, Bool.or_eq_true, Bool.and_eq_false_iff, Bool.or_eq_false_iff] at c114
          have ho16 : ¬ 16 < o.length := by omega
          refine W.skip ?_
          refine W.seq ?_
          refine W.region ?_
          refine WL.c rfl (o_ldA TI58 rfl h4 (show Cells _ c4 0 (tokV (tkA T i)).toList from Cells.of hC4 0 _ (by simp)) rfl ?_)
          have hMle := hM.le
          have hsl : ∀ b, sv2.ownBlock = some b → b < w107.heap.size := fun b hb => (hM.sn.lt b hb).2
          refine WL.c rfl (o_call Try.call70 (lc rfl ln) ((inside_spec (tkA T i) _).mono ?_))
          rintro x w116 ⟨hr, hx116⟩
          replace hM := hM.ext hx116
          replace hO := hO.ext hx116
          obtain ⟨B, hB⟩ : ∃ B, B = w107.heap.size := ⟨_, rfl⟩
          rw [← hB] at hr hsl hMle
          have hx2 : ∀ b, x.ownBlock = some b → ¬ sv2.ownBlock = some b := fun b hb hs => by have := (hr.lt b hb).1; have := hsl b hs; omega
          have hxpp : ¬ x.ownBlock = some p := own_off hr hM.cl (by decide)
          have hins := insS_len (tkA T i)
          refine WL.c rfl (o_ash (by first | exact (show _ = Value.slice _ _ _ from rfl) | exact rfl) ?_)
          refine WL.nil ?_
          refine W.seq ?_
          refine W.seq ?_
          refine W.region ?_
          refine WL.c rfl (o_mvh (by first | exact (show _ = Value.slice _ _ _ from rfl) | exact rfl) ?_)
          refine WL.c rfl (o_lenR TI62 rfl (Sl.own hr) ?_)
          refine WL.c rfl (o_gt rfl rfl ?_)
          refine WL.nil ?_
          refine W.cond rfl (fun c119 => ?_) (fun c119 => ?_)
          · try simp only [decide_eq_true_eq, decide_eq_false_iff_not, Bool.not_eq_true', Bool.not_eq_false', Bool.and_eq_true, Bool.or_eq_true, Bool.and_eq_false_iff, Bool.or_eq_false_iff] at c119
            have hne : insS (tkA T i) ≠ [] := fun he => by rw [he] at c119; simp at c119
            refine W.region ?_
            refine WL.c rfl (o_mvh h0 ?_)
            refine WL.c rfl (o_mvh h0 ?_)
            refine WL.c rfl (o_nil rfl ?_)
            refine WL.c rfl (o_fa 3 TI92 rfl TI22 rfl rfl ?_)
            refine WL.c rfl (o_ld TI22 rfl rfl (cell_of hM.cl rfl) ?_)
            refine WL.ap1 (H) rfl rfl TI22 TI3 (show _ = Value.int _ _ from rfl) rfl hM.on (by decide) (by decide) rfl (one1 rfl) rfl (by rw [maxLen_eq]; show o.length + 1 ≤ _; omega) (by show (o.length + 1) * _ ≤ _; omega) hM.le ?_
            intro v126 w126 hown ho126
            obtain ⟨hc2, ht2, hs2'⟩ := hM.opnOnly ho126
            have hHo := fun k hk => (hM.on.lt k hk).1
            replace hO := hO.trans' ho126 (fun _ h => h) (fun k _ hk => hHo k hk)
            replace hr := own_only hr ho126 (own_row_off hM.on hr (by decide))
            have hown2 : w126.ownsRow H 3 1 v126 (0 :: o).length ((0 :: o).reverse.map (fun k : Nat => Value.int .i64 (k : Int))) := by rw [List.reverse_cons, List.map_append]; exact hown
            have hz126 := ho126.size
            have hHp := hM.hp
            have hHl := hM.lt
            have hMl := hM.le
            refine WL.c rfl (o_nil rfl ?_)
            refine WL.c rfl (o_fa 3 TI92 rfl TI22 rfl rfl ?_)
            refine WL.u (o_stB TI22 rfl (show _ = v126 from rfl) (own_one hown2) hc2 (show 3 < 5 by decide) ?_)
            intro w128 hB128 ho128 hs128
            have hM' : RdM w128 H p lv sv2 v126 T ⟨i, S, 0 :: o, d⟩ := ⟨hB128, own_only ht2 ho128 (fun b hb he => by subst he; have := hHl b hb; omega), own_only hs2' ho128 (fun b hb he => by subst he; exact own_off hs2' hc2 (by decide) hb), own_only hown2 ho128 (fun b hb he => by subst he; exact own_off hown2 hc2 (by decide) hb), hHp, hHl, by omega⟩
            replace hO := hO.trans' ho128 (fun _ h => h) (fun k _ he => by subst he; exact hHp)
            replace hr := own_only hr ho128 (fun b hb he => by subst he; exact hxpp hb)
            replace hM := hM'
            clear hM'
            refine WL.nil ?_
            refine W.seq ?_
            refine W.region ?_
            refine WL.c rfl (o_mvh h0 ?_)
            refine WL.c rfl (o_nil rfl ?_)
            refine WL.c rfl (o_fa 1 TI92 rfl TI3 rfl rfl ?_)
            refine WL.c rfl (o_ld TI3 rfl rfl (cell_of hM.cl rfl) ?_)
            refine WL.c rfl (o_addi rfl rfl (by omega) ?_)
            refine WL.c rfl (o_nil rfl ?_)
            refine WL.c rfl (o_fa 1 TI92 rfl TI3 rfl rfl ?_)
            refine WL.u (o_stB TI3 rfl (show _ = Value.int .i64 ((i : Int) + 1) from rfl) rfl hM.cl (show 1 < 5 by decide) ?_)
            intro wz hBn hon hsn
            replace hO := hM.hO hO hon
            replace hr := own_only hr hon (fun b hb he => by subst he; exact hxpp hb)
            replace hM := hM.put (i := i + 1) hBn hon hM.sn hM.on
            refine WL.nil ?_
            refine W.seq ?_
            refine W.region ?_
            refine WL.c rfl (o_mvh h0 ?_)
            refine WL.c rfl (o_mvh (by first | exact (show _ = Value.slice _ _ _ from rfl) | exact rfl) ?_)
            refine WL.c rfl (o_call Try.call68 (lc rfl (lc rfl ln)) ((push_spec H p lv sv2 _ T (i + 1) d S (insS (tkA T i)) _ x B _ hM hr hMle hx2 (by omega)).mono ?_))
            rintro v138 w138 ⟨sv3, hM, hO3⟩
            replace hO := hO.trans' hO3 (fun _ h => h) (fun k _ h => h)
            refine WL.nil ?_
            refine W.seq ?_
            refine W.region ?_
            refine WL.c rfl (o_ash (show _ = Value.int _ _ from rfl) ?_)
            refine WL.nil ?_
            refine W.ret ?_
            refine ret1v rfl (show _ = Value.int _ _ from rfl) ?_
            exact ⟨hO, res_go (by rw [stepF, if_neg hie, if_neg (by simpa using hno), if_neg ho16]; first | rw [if_neg hne] | rw [if_pos hne]) rfl hM⟩
          · try simp only [decide_eq_true_eq, decide_eq_false_iff_not, Bool.not_eq_true', Bool.not_eq_false', Bool.and_eq_true, Bool.or_eq_true, Bool.and_eq_false_iff, Bool.or_eq_false_iff] at c119
            have hne : insS (tkA T i) = [] := List.eq_nil_of_length_eq_zero (by omega)
            refine W.skip ?_
            refine W.seq ?_
            refine W.region ?_
            refine WL.c rfl (o_mvh h0 ?_)
            refine WL.c rfl (o_nil rfl ?_)
            refine WL.c rfl (o_fa 1 TI92 rfl TI3 rfl rfl ?_)
            refine WL.c rfl (o_ld TI3 rfl rfl (cell_of hM.cl rfl) ?_)
            refine WL.c rfl (o_addi rfl rfl (by omega) ?_)
            refine WL.c rfl (o_nil rfl ?_)
            refine WL.c rfl (o_fa 1 TI92 rfl TI3 rfl rfl ?_)
            refine WL.u (o_stB TI3 rfl (show _ = Value.int .i64 ((i : Int) + 1) from rfl) rfl hM.cl (show 1 < 5 by decide) ?_)
            intro wz hBn hon hsn
            replace hO := hM.hO hO hon
            replace hr := own_only hr hon (fun b hb he => by subst he; exact hxpp hb)
            replace hM := hM.put (i := i + 1) hBn hon hM.sn hM.on
            refine WL.nil ?_
            refine W.seq ?_
            refine W.region ?_
            refine WL.c rfl (o_mvh h0 ?_)
            refine WL.c rfl (o_mvh (by first | exact (show _ = Value.slice _ _ _ from rfl) | exact rfl) ?_)
            refine WL.c rfl (o_call Try.call68 (lc rfl (lc rfl ln)) ((push_spec H p lv sv2 _ T (i + 1) d S (insS (tkA T i)) _ x B _ hM hr hMle hx2 (by omega)).mono ?_))
            rintro v138 w138 ⟨sv3, hM, hO3⟩
            replace hO := hO.trans' hO3 (fun _ h => h) (fun k _ h => h)
            refine WL.nil ?_
            refine W.seq ?_
            refine W.region ?_
            refine WL.c rfl (o_ash (show _ = Value.int _ _ from rfl) ?_)
            refine WL.nil ?_
            refine W.ret ?_
            refine ret1v rfl (show _ = Value.int _ _ from rfl) ?_
            exact ⟨hO, res_go (by rw [stepF, if_neg hie, if_neg (by simpa using hno), if_neg ho16]; first | rw [if_neg hne] | rw [if_pos hne]) rfl hM⟩
  · skip
    obtain ⟨k0, o, rfl, hk0⟩ := hok
    refine W.region ?_
    refine WL.c rfl (o_mvh (show _ = Value.string _ from rfl) ?_)
    refine WL.c rfl (o_eqT rfl rfl ?_)
    refine WL.nil ?_
    refine W.condF' rfl (by decide) ?_
    refine W.skip ?_
    refine W.seq ?_
    refine W.seq ?_
    refine W.quiet rfl (by kernel_rfl) ?_
    refine WQ.c rfl ((QO.o rfl fun _ => o_mvh (show _ = Value.string _ from rfl) ⟨rfl, rfl⟩)) ?_
    refine WQ.c rfl ((QO.o rfl fun _ => o_eqT rfl rfl ⟨rfl, rfl⟩)) ?_
    refine WQ.c rfl ((QO.o rfl fun _ => o_mvh (show _ = Value.bool _ from rfl) ⟨rfl, rfl⟩)) ?_
    refine WQ.s rfl (by decide) rfl ?_
    refine WQ.s rfl (by decide) rfl ?_
    refine WQ.s rfl (by decide) rfl ?_
    refine WQ.s rfl (by decide) rfl ?_
    refine WQ.s rfl (by decide) rfl ?_
    refine WQ.s rfl (by decide) rfl ?_
    refine WQ.s rfl (by decide) rfl ?_
    refine WQ.s rfl (by decide) rfl ?_
    refine WQ.s rfl (by decide) rfl ?_
    refine WQ.s rfl (by decide) rfl ?_
    refine WQ.c rfl ((QO.r fun _ => r_pickF rfl (by decide))) ?_
    refine WQ.nil ?_
    intro nq
    have hxq := Only.drewN w3 nq
    replace hM := hM.ext hxq
    replace hO := hO.ext hxq
    clear hxq
    generalize w3.drewN nq = w5 at *
    refine W.condF' rfl (by decide) ?_
    refine W.skip ?_
    refine W.seq ?_
    refine W.seq ?_
    refine W.quiet rfl (by kernel_rfl) ?_
    refine WQ.c rfl ((QO.o rfl fun _ => o_mvh (by first | exact (show _ = Value.pointer _ from rfl) | exact rfl) ⟨rfl, rfl⟩)) ?_
    refine WQ.c rfl ((QO.r fun _ => r_nil rfl)) ?_
    refine WQ.c rfl ((QO.o rfl fun _ => o_fa 1 TI92 rfl TI3 rfl rfl ⟨rfl, rfl⟩)) ?_
    refine WQ.c rfl ((QO.o rfl fun _ => o_ld TI3 rfl rfl (cell_of hM.cl rfl) ⟨rfl, rfl⟩)) ?_
    refine WQ.c rfl ((QO.o rfl fun _ => o_mvh (by first | exact (show _ = Value.pointer _ from rfl) | exact rfl) ⟨rfl, rfl⟩)) ?_
    refine WQ.c rfl ((QO.r fun _ => r_nil rfl)) ?_
    refine WQ.c rfl ((QO.o rfl fun _ => o_fa 0 TI92 rfl TI54 rfl rfl ⟨rfl, rfl⟩)) ?_
    refine WQ.c rfl ((QO.o rfl fun _ => o_ld TI54 rfl rfl (cell_of hM.cl rfl) ⟨rfl, rfl⟩)) ?_
    refine WQ.c rfl ((QO.r fun _ => r_lenR TI54 rfl (Sl.own hM.toks))) ?_
    refine WQ.c rfl ((QO.o rfl fun _ => o_eq rfl rfl ⟨rfl, rfl⟩)) ?_
    refine WQ.nil ?_
    intro nq
    have hxq := Only.drewN w5 nq
    replace hM := hM.ext hxq
    replace hO := hO.ext hxq
    clear hxq
    generalize w5.drewN nq = w6 at *
    refine W.cond rfl (fun c72 => ?_) (fun c72 => ?_)
    · try simp only [decide_eq_true_eq, decide_eq_false_iff_not, Bool.not_eq_true', Bool.not_eq_false', Bool.and_eq_true, Bool.or_eq_true, Bool.and_eq_false_iff, Bool.or_eq_false_iff] at c72
      have hie : i = T.length := by omega
      refine W.seq ?_
      refine W.region ?_
      refine WL.c rfl (o_ash (show _ = Value.int _ _ from rfl) ?_)
      refine WL.nil ?_
      refine W.ret ?_
      refine ret1v rfl (show _ = Value.int _ _ from rfl) ?_
      exact ⟨hO, res_er (e := 60) (by simp [stepF, hie]) rfl hM⟩
    · try simp only [decide_eq_true_eq, decide_eq_false_iff_not, Bool.not_eq_true', Bool.not_eq_false', Bool.and_eq_true, Bool.or_eq_true, Bool.and_eq_false_iff, Bool.or_eq_false_iff] at c72
      have hie : ¬ i = T.length := by omega
      refine W.skip ?_
      refine W.seq ?_
      have hil : i < T.length := by omega
      obtain ⟨wd, hwd⟩ : ∃ wd, wd = w6.drew := ⟨_, rfl⟩
      have hxd : Ext w6 wd := hwd ▸ Only.drew w6
      replace hM := hM.ext hxd
      replace hO := hO.ext hxd
      obtain ⟨tb, to_, tc, hlv, htc⟩ := Sl.tok (Sl.own hM.toks) hil
      have hcellp := hM.cl
      have hMle0 := hM.le
      have hsl0 : ∀ b, sv2.ownBlock = some b → b < wd.heap.size := fun b hb => (hM.sn.lt b hb).2
      have hol0 : ∀ b, ov2.ownBlock = some b → b < wd.heap.size := fun b hb => (hM.on.lt b hb).2
      refine W.drawT 11 (Ext) [(0, fun v _ => v = _), (3, fun v _ => v = _)] rfl (by kernel_rfl) (Only.refl No) (fun _ _ _ h k => h.trans k) ⟨Mono.eq, Mono.eq, trivial⟩ ⟨rfl, rfl, trivial⟩ ?_
      refine WD.p rfl (fun e w hR hh => by obtain ⟨h0, -⟩ := hh; exact SG.n (o_mvh h0 ⟨rfl, Only.refl No _⟩)) ?_
      refine WD.p rfl (fun e w hR hh => by obtain ⟨h73, -⟩ := hh; exact SG.n (o_nil h73 ⟨rfl, Only.refl No _⟩)) ?_
      refine WD.p rfl (fun e w hR hh => by obtain ⟨h74, -⟩ := hh; exact SG.n (o_fa 0 TI92 rfl TI54 rfl h74 ⟨rfl, Only.refl No _⟩)) ?_
      refine WD.p rfl (fun e w hR hh => by obtain ⟨h75, -⟩ := hh; rw [← hwd] at hR; exact SG.n (o_ld TI54 rfl h75 (cell_of (hM.ext hR).cl rfl) ⟨rfl, Only.refl No _⟩)) ?_
      refine WD.p rfl (fun e w hR hh => by obtain ⟨h0, -⟩ := hh; exact SG.n (o_mvh h0 ⟨rfl, Only.refl No _⟩)) ?_
      refine WD.p rfl (fun e w hR hh => by obtain ⟨h77, -⟩ := hh; exact SG.n (o_nil h77 ⟨rfl, Only.refl No _⟩)) ?_
      refine WD.p rfl (fun e w hR hh => by obtain ⟨h78, -⟩ := hh; exact SG.n (o_fa 1 TI92 rfl TI3 rfl h78 ⟨rfl, Only.refl No _⟩)) ?_
      refine WD.p rfl (fun e w hR hh => by obtain ⟨h79, -⟩ := hh; rw [← hwd] at hR; exact SG.n (o_ld TI3 rfl h79 (cell_of (hM.ext hR).cl rfl) ⟨rfl, Only.refl No _⟩)) ?_
      refine WD.p rfl (fun e w hR hh => by obtain ⟨h80, h76, -⟩ := hh; exact SG.n (o_ixB (i := i) TI54 TI58 (h76.trans (by rw [← hlv]; rfl)) h80 hil ⟨rfl, Only.refl No _⟩)) ?_
      refine WD.p rfl (fun e w hR hh => by obtain ⟨h81, -⟩ := hh; rw [← hwd] at hR; exact SG.n (o_ldA TI58 rfl h81 (htc.only hR (fun h => h)) rfl ⟨rfl, Only.refl No _⟩)) ?_
      refine WD.q (fun v w => ∃ c, wd.heap.size ≤ c ∧ v = .pointer (some ⟨c, 0, none⟩) ∧ w.heap[c]? = some (.cells (tokV tk0) 58 (0, 0))) (fun v w w2 hR hh => by obtain ⟨c, h1, h2, h3⟩ := hh; exact ⟨c, h1, h2, hR.blk h3 (fun h => h)⟩) rfl (fun e w hR hh => by skip; rw [← hwd] at hR; exact SG.n (o_alB TI58 (fun w' h1 h2 h3 => ⟨⟨w.heap.size, hR.size, rfl, h1⟩, h2⟩))) ?_
      rintro e w hR ⟨h4, h82, h81, h80, h79, h78, h77, h76, h75, h74, h73, h0, h3, -⟩
      rw [← hwd] at hR
      replace hM := hM.ext hR
      replace hO := hO.ext hR
      obtain ⟨c4, hc4, h4, hC4z⟩ := h4
      have hpl : p < wd.heap.size := (Array.getElem?_eq_some_iff.1 hcellp).1
      have hpl4 : ¬ c4 = p := fun he => by omega
      have hHc4 : H ≤ c4 := by have := hMle0; omega
      have hlvl : ∀ b, lv.ownBlock = some b → b < c4 := fun b hb => by have := hM.lt b hb; omega
      have hsv4 : ∀ b, sv2.ownBlock = some b → ¬ b = c4 := fun b hb he => by have := hsl0 b hb; omega
      have hov4 : ∀ b, ov2.ownBlock = some b → ¬ b = c4 := fun b hb he => by have := hol0 b hb; omega
      refine WL.u (o_stA TI58 h4 (show _ = Value.agg (tokV (tkA T i)) from h82) rfl rfl hC4z rfl ?_)
      intro w7 hC4 ho7 hs7
      replace hM : RdM w7 H p lv sv2 ov2 T ⟨i, S, k0 :: o, d⟩ := ⟨ho7.blk hM.cl (fun h => hpl4 h.symm), own_only hM.toks ho7 (fun b hb he => by have := hlvl b hb; omega), own_only hM.sn ho7 (fun b hb he => hsv4 b hb he), own_only hM.on ho7 (fun b hb he => hov4 b hb he), hM.hp, hM.lt, by have := hM.le; omega⟩
      replace hO := hO.trans' ho7 (fun _ h => h) (fun k _ he => by subst he; exact hHc4)
      have h3v := h3
      refine WL.nil ?_
      refine W.seq ?_
      refine W.seq ?_
      refine W.region ?_
      refine WL.c rfl (o_mvh h3 ?_)
      refine WL.nil ?_
      refine W.block ?_
      refine W.seq ?_
      refine W.region ?_
      refine WL.c rfl (o_eqT rfl rfl ?_)
      refine WL.c rfl (o_ash (show _ = Value.bool _ from rfl) ?_)
      refine WL.nil ?_
      refine W.condF' rfl (by decide) ?_
      refine W.seq ?_
      refine W.region ?_
      refine WL.c rfl (o_eqT rfl rfl ?_)
      refine WL.c rfl (o_ash (show _ = Value.bool _ from rfl) ?_)
      refine WL.nil ?_
      refine W.condF' rfl (by decide) ?_
      refine W.seq ?_
      refine W.region ?_
      refine WL.c rfl (o_eqT rfl rfl ?_)
      refine WL.c rfl (o_ash (show _ = Value.bool _ from rfl) ?_)
      refine WL.nil ?_
      refine W.condT' rfl (by decide) ?_
      refine W.seq ?_
      refine W.seq ?_
      refine W.region ?_
      refine WL.c rfl (o_ldA TI58 rfl h4 (show Cells _ c4 0 (tokV (tkA T i)).toList from Cells.of hC4 0 _ (by simp)) rfl ?_)
      refine WL.c rfl (o_call Try.call67 (lc rfl (lc rfl ln)) ((ris_name (tkA T i) _ (hTt i)).mono ?_))
      rintro v142 w142 ⟨rfl, hx142⟩
      replace hM := hM.ext hx142
      replace hO := hO.ext hx142
      replace hC4 := hx142.blk hC4 (fun h => h)
      refine WL.c rfl (o_not' rfl ?_)
      refine WL.nil ?_
      refine W.cond rfl (fun c143 => ?_) (fun c143 => ?_)
      · try simp only [decide_eq_true_eq, decide_eq_false_iff_not, Bool.not_eq_true', Bool.not_eq_false', Bool.and_eq_true, Bool.or_eq_true, Bool.and_eq_false_iff, Bool.or_eq_false_iff] at c143
        have hno := c143
        refine W.seq ?_
        refine W.region ?_
        refine WL.c rfl (o_ash (show _ = Value.int _ _ from rfl) ?_)
        refine WL.nil ?_
        refine W.ret ?_
        refine ret1v rfl (show _ = Value.int _ _ from rfl) ?_
        exact ⟨hO, res_er (e := 60) (by simp_all [stepF]) rfl hM⟩
      · try simp only [decide_eq_true_eq, decide_eq_false_iff_not, Bool.not_eq_true', Bool.not_eq_false', Bool.and_eq_true, Bool.or_eq_true, Bool.and_eq_false_iff, Bool.or_eq_false_iff] at c143
        have hno := c143
        refine W.skip ?_
        refine W.seq ?_
        refine W.region ?_
        refine WL.c rfl (o_mvh h0 ?_)
        have hMle := hM.le
        refine WL.c rfl (o_bsn (vs := [sySt .name, sySt (.tk 3 [58]), sySt .type]) (xs := [(.const (.string (.mk #[40, 110, 97, 109, 101, 41]))), (.const (.string (.mk #[58]))), (.const (.string (.mk #[40, 116, 121, 112, 101, 41])))]) TI62 TI9 rfl (lc (show _ = Value.string _ from rfl) (lc (show _ = Value.string _ from rfl) (lc (show _ = Value.string _ from rfl) ln))) rfl rfl (by decide) (by decide) ?_)
        obtain ⟨B, hB⟩ : ∃ B, B = w142.heap.size := ⟨_, rfl⟩
        have hsl : ∀ b, sv2.ownBlock = some b → b < B := fun b hb => by have := (hM.sn.lt b hb).2; omega
        have hr : (w142.alloc (Obj.cells ([sySt .name, sySt (.tk 3 [58]), sySt .type]).toArray 9)).ownsRow B 9 1 (.slice (some ⟨w142.heap.size, 0, none⟩) 3 3) 3 ([sySt .name, sySt (.tk 3 [58]), sySt .type]) := by rw [hB]; exact own_newN rfl (show 3 ≤ maxLen by decide)
        have hxl := Only.alloc w142 (Obj.cells ([sySt .name, sySt (.tk 3 [58]), sySt .type]).toArray 9)
        rw [← hB] at hr ⊢
        generalize w142.alloc (Obj.cells ([sySt .name, sySt (.tk 3 [58]), sySt .type]).toArray 9) = wl at hr hxl ⊢
        replace hM := hM.ext hxl
        replace hO := hO.ext hxl
        have hHB : H ≤ B := by rw [hB]; exact hMle
        refine WL.c rfl (o_call Try.call68 (lc rfl (lc rfl ln)) ((push_spec H p lv sv2 ov2 T i d S [.name, (.tk 3 [58]), .type] (k0 :: o) _ B _ hM hr hHB (fun b hb hs => by have := hsl b hs; simp [Value.ownBlock] at hb; omega) (by simp only [List.length_cons, List.length_nil]; omega)).mono ?_))
        rintro v146 w146 ⟨sv3, hM, hO3⟩
        replace hO := hO.trans' hO3 (fun _ h => h) (fun k _ h => h)
        refine WL.nil ?_
        refine W.seq ?_
        refine W.region ?_
        refine WL.c rfl (o_mvh h0 ?_)
        refine WL.c rfl (o_call Try.call71 (lc rfl (lc rfl ln)) ((more_spec H p lv sv3 ov2 T i d k0 _ o hk0 _ hM (by simp only [List.length_cons] at hol; omega)).mono ?_))
        rintro v148 w148 ⟨rfl, ⟨ov3, hM⟩, hO3⟩
        replace hO := hO.trans' hO3 (fun _ h => h) (fun k _ h => h)
        refine WL.c rfl (o_ash (show _ = Value.int _ _ from rfl) ?_)
        refine WL.nil ?_
        refine W.ret ?_
        refine ret1v rfl (show _ = Value.int _ _ from rfl) ?_
        rcases Nat.lt_or_ge 64 (k0 + 1) with h64 | h64
        · exact ⟨hO, res_er (e := 5) (by rw [stepF, if_neg hie, if_neg (by simpa using hno), if_pos (show 64 < (k0 :: o).headD 0 + 1 from h64)]) (by rw [if_pos h64]; rfl) hM⟩
        · exact ⟨hO, res_go (by rw [stepF, if_neg hie, if_neg (by simpa using hno), if_neg (show ¬ 64 < (k0 :: o).headD 0 + 1 by show ¬ 64 < k0 + 1; omega)]; rfl) (by rw [if_neg (by omega)]) hM⟩
  · skip
    obtain ⟨k0, o, rfl, hk0⟩ := hok
    refine W.region ?_
    refine WL.c rfl (o_mvh (show _ = Value.string _ from rfl) ?_)
    refine WL.c rfl (o_eqT rfl rfl ?_)
    refine WL.nil ?_
    refine W.condF' rfl (by decide) ?_
    refine W.skip ?_
    refine W.seq ?_
    refine W.seq ?_
    refine W.quiet rfl (by kernel_rfl) ?_
    refine WQ.c rfl ((QO.o rfl fun _ => o_mvh (show _ = Value.string _ from rfl) ⟨rfl, rfl⟩)) ?_
    refine WQ.c rfl ((QO.o rfl fun _ => o_eqT rfl rfl ⟨rfl, rfl⟩)) ?_
    refine WQ.c rfl ((QO.o rfl fun _ => o_mvh (show _ = Value.bool _ from rfl) ⟨rfl, rfl⟩)) ?_
    refine WQ.s rfl (by decide) rfl ?_
    refine WQ.s rfl (by decide) rfl ?_
    refine WQ.s rfl (by decide) rfl ?_
    refine WQ.s rfl (by decide) rfl ?_
    refine WQ.s rfl (by decide) rfl ?_
    refine WQ.s rfl (by decide) rfl ?_
    refine WQ.s rfl (by decide) rfl ?_
    refine WQ.s rfl (by decide) rfl ?_
    refine WQ.s rfl (by decide) rfl ?_
    refine WQ.s rfl (by decide) rfl ?_
    refine WQ.c rfl ((QO.r fun _ => r_pickF rfl (by decide))) ?_
    refine WQ.nil ?_
    intro nq
    have hxq := Only.drewN w3 nq
    replace hM := hM.ext hxq
    replace hO := hO.ext hxq
    clear hxq
    generalize w3.drewN nq = w5 at *
    refine W.condF' rfl (by decide) ?_
    refine W.skip ?_
    refine W.seq ?_
    refine W.seq ?_
    refine W.quiet rfl (by kernel_rfl) ?_
    refine WQ.c rfl ((QO.o rfl fun _ => o_mvh (by first | exact (show _ = Value.pointer _ from rfl) | exact rfl) ⟨rfl, rfl⟩)) ?_
    refine WQ.c rfl ((QO.r fun _ => r_nil rfl)) ?_
    refine WQ.c rfl ((QO.o rfl fun _ => o_fa 1 TI92 rfl TI3 rfl rfl ⟨rfl, rfl⟩)) ?_
    refine WQ.c rfl ((QO.o rfl fun _ => o_ld TI3 rfl rfl (cell_of hM.cl rfl) ⟨rfl, rfl⟩)) ?_
    refine WQ.c rfl ((QO.o rfl fun _ => o_mvh (by first | exact (show _ = Value.pointer _ from rfl) | exact rfl) ⟨rfl, rfl⟩)) ?_
    refine WQ.c rfl ((QO.r fun _ => r_nil rfl)) ?_
    refine WQ.c rfl ((QO.o rfl fun _ => o_fa 0 TI92 rfl TI54 rfl rfl ⟨rfl, rfl⟩)) ?_
    refine WQ.c rfl ((QO.o rfl fun _ => o_ld TI54 rfl rfl (cell_of hM.cl rfl) ⟨rfl, rfl⟩)) ?_
    refine WQ.c rfl ((QO.r fun _ => r_lenR TI54 rfl (Sl.own hM.toks))) ?_
    refine WQ.c rfl ((QO.o rfl fun _ => o_eq rfl rfl ⟨rfl, rfl⟩)) ?_
    refine WQ.nil ?_
    intro nq
    have hxq := Only.drewN w5 nq
    replace hM := hM.ext hxq
    replace hO := hO.ext hxq
    clear hxq
    generalize w5.drewN nq = w6 at *
    refine W.cond rfl (fun c72 => ?_) (fun c72 => ?_)
    · try simp only [decide_eq_true_eq, decide_eq_false_iff_not, Bool.not_eq_true', Bool.not_eq_false', Bool.and_eq_true, Bool.or_eq_true, Bool.and_eq_false_iff, Bool.or_eq_false_iff] at c72
      have hie : i = T.length := by omega
      refine W.seq ?_
      refine W.region ?_
      refine WL.c rfl (o_ash (show _ = Value.int _ _ from rfl) ?_)
      refine WL.nil ?_
      refine W.ret ?_
      refine ret1v rfl (show _ = Value.int _ _ from rfl) ?_
      exact ⟨hO, res_er (e := 60) (by simp [stepF, hie]) rfl hM⟩
    · try simp only [decide_eq_true_eq, decide_eq_false_iff_not, Bool.not_eq_true', Bool.not_eq_false', Bool.and_eq_true, Bool.or_eq_true, Bool.and_eq_false_iff, Bool.or_eq_false_iff] at c72
      have hie : ¬ i = T.length := by omega
      refine W.skip ?_
      refine W.seq ?_
      have hil : i < T.length := by omega
      obtain ⟨wd, hwd⟩ : ∃ wd, wd = w6.drew := ⟨_, rfl⟩
      have hxd : Ext w6 wd := hwd ▸ Only.drew w6
      replace hM := hM.ext hxd
      replace hO := hO.ext hxd
      obtain ⟨tb, to_, tc, hlv, htc⟩ := Sl.tok (Sl.own hM.toks) hil
      have hcellp := hM.cl
      have hMle0 := hM.le
      have hsl0 : ∀ b, sv2.ownBlock = some b → b < wd.heap.size := fun b hb => (hM.sn.lt b hb).2
      have hol0 : ∀ b, ov2.ownBlock = some b → b < wd.heap.size := fun b hb => (hM.on.lt b hb).2
      refine W.drawT 11 (Ext) [(0, fun v _ => v = _), (3, fun v _ => v = _)] rfl (by kernel_rfl) (Only.refl No) (fun _ _ _ h k => h.trans k) ⟨Mono.eq, Mono.eq, trivial⟩ ⟨rfl, rfl, trivial⟩ ?_
      refine WD.p rfl (fun e w hR hh => by obtain ⟨h0, -⟩ := hh; exact SG.n (o_mvh h0 ⟨rfl, Only.refl No _⟩)) ?_
      refine WD.p rfl (fun e w hR hh => by obtain ⟨h73, -⟩ := hh; exact SG.n (o_nil h73 ⟨rfl, Only.refl No _⟩)) ?_
      refine WD.p rfl (fun e w hR hh => by obtain ⟨h74, -⟩ := hh; exact SG.n (o_fa 0 TI92 rfl TI54 rfl h74 ⟨rfl, Only.refl No _⟩)) ?_
      refine WD.p rfl (fun e w hR hh => by obtain ⟨h75, -⟩ := hh; rw [← hwd] at hR; exact SG.n (o_ld TI54 rfl h75 (cell_of (hM.ext hR).cl rfl) ⟨rfl, Only.refl No _⟩)) ?_
      refine WD.p rfl (fun e w hR hh => by obtain ⟨h0, -⟩ := hh; exact SG.n (o_mvh h0 ⟨rfl, Only.refl No _⟩)) ?_
      refine WD.p rfl (fun e w hR hh => by obtain ⟨h77, -⟩ := hh; exact SG.n (o_nil h77 ⟨rfl, Only.refl No _⟩)) ?_
      refine WD.p rfl (fun e w hR hh => by obtain ⟨h78, -⟩ := hh; exact SG.n (o_fa 1 TI92 rfl TI3 rfl h78 ⟨rfl, Only.refl No _⟩)) ?_
      refine WD.p rfl (fun e w hR hh => by obtain ⟨h79, -⟩ := hh; rw [← hwd] at hR; exact SG.n (o_ld TI3 rfl h79 (cell_of (hM.ext hR).cl rfl) ⟨rfl, Only.refl No _⟩)) ?_
      refine WD.p rfl (fun e w hR hh => by obtain ⟨h80, h76, -⟩ := hh; exact SG.n (o_ixB (i := i) TI54 TI58 (h76.trans (by rw [← hlv]; rfl)) h80 hil ⟨rfl, Only.refl No _⟩)) ?_
      refine WD.p rfl (fun e w hR hh => by obtain ⟨h81, -⟩ := hh; rw [← hwd] at hR; exact SG.n (o_ldA TI58 rfl h81 (htc.only hR (fun h => h)) rfl ⟨rfl, Only.refl No _⟩)) ?_
      refine WD.q (fun v w => ∃ c, wd.heap.size ≤ c ∧ v = .pointer (some ⟨c, 0, none⟩) ∧ w.heap[c]? = some (.cells (tokV tk0) 58 (0, 0))) (fun v w w2 hR hh => by obtain ⟨c, h1, h2, h3⟩ := hh; exact ⟨c, h1, h2, hR.blk h3 (fun h => h)⟩) rfl (fun e w hR hh => by skip; rw [← hwd] at hR; exact SG.n (o_alB TI58 (fun w' h1 h2 h3 => ⟨⟨w.heap.size, hR.size, rfl, h1⟩, h2⟩))) ?_
      rintro e w hR ⟨h4, h82, h81, h80, h79, h78, h77, h76, h75, h74, h73, h0, h3, -⟩
      rw [← hwd] at hR
      replace hM := hM.ext hR
      replace hO := hO.ext hR
      obtain ⟨c4, hc4, h4, hC4z⟩ := h4
      have hpl : p < wd.heap.size := (Array.getElem?_eq_some_iff.1 hcellp).1
      have hpl4 : ¬ c4 = p := fun he => by omega
      have hHc4 : H ≤ c4 := by have := hMle0; omega
      have hlvl : ∀ b, lv.ownBlock = some b → b < c4 := fun b hb => by have := hM.lt b hb; omega
      have hsv4 : ∀ b, sv2.ownBlock = some b → ¬ b = c4 := fun b hb he => by have := hsl0 b hb; omega
      have hov4 : ∀ b, ov2.ownBlock = some b → ¬ b = c4 := fun b hb he => by have := hol0 b hb; omega
      refine WL.u (o_stA TI58 h4 (show _ = Value.agg (tokV (tkA T i)) from h82) rfl rfl hC4z rfl ?_)
      intro w7 hC4 ho7 hs7
      replace hM : RdM w7 H p lv sv2 ov2 T ⟨i, S, k0 :: o, d⟩ := ⟨ho7.blk hM.cl (fun h => hpl4 h.symm), own_only hM.toks ho7 (fun b hb he => by have := hlvl b hb; omega), own_only hM.sn ho7 (fun b hb he => hsv4 b hb he), own_only hM.on ho7 (fun b hb he => hov4 b hb he), hM.hp, hM.lt, by have := hM.le; omega⟩
      replace hO := hO.trans' ho7 (fun _ h => h) (fun k _ he => by subst he; exact hHc4)
      have h3v := h3
      refine WL.nil ?_
      refine W.seq ?_
      refine W.seq ?_
      refine W.region ?_
      refine WL.c rfl (o_mvh h3 ?_)
      refine WL.nil ?_
      refine W.block ?_
      refine W.seq ?_
      refine W.region ?_
      refine WL.c rfl (o_eqT rfl rfl ?_)
      refine WL.c rfl (o_ash (show _ = Value.bool _ from rfl) ?_)
      refine WL.nil ?_
      refine W.condF' rfl (by decide) ?_
      refine W.seq ?_
      refine W.region ?_
      refine WL.c rfl (o_eqT rfl rfl ?_)
      refine WL.c rfl (o_ash (show _ = Value.bool _ from rfl) ?_)
      refine WL.nil ?_
      refine W.condF' rfl (by decide) ?_
      refine W.seq ?_
      refine W.region ?_
      refine WL.c rfl (o_eqT rfl rfl ?_)
      refine WL.c rfl (o_ash (show _ = Value.bool _ from rfl) ?_)
      refine WL.nil ?_
      refine W.condF' rfl (by decide) ?_
      refine W.seq ?_
      refine W.region ?_
      refine WL.c rfl (o_eqT rfl rfl ?_)
      refine WL.c rfl (o_ash (show _ = Value.bool _ from rfl) ?_)
      refine WL.nil ?_
      refine W.condT' rfl (by decide) ?_
      refine W.seq ?_
      refine W.seq ?_
      refine W.region ?_
      refine WL.c rfl (o_ldA TI58 rfl h4 (show Cells _ c4 0 (tokV (tkA T i)).toList from Cells.of hC4 0 _ (by simp)) rfl ?_)
      refine WL.c rfl (o_call Try.call67 (lc rfl (lc rfl ln)) ((ris_num (tkA T i) _ (hTt i)).mono ?_))
      rintro v152 w152 ⟨rfl, hx152⟩
      replace hM := hM.ext hx152
      replace hO := hO.ext hx152
      replace hC4 := hx152.blk hC4 (fun h => h)
      refine WL.c rfl (o_not' rfl ?_)
      refine WL.nil ?_
      refine W.cond rfl (fun c153 => ?_) (fun c153 => ?_)
      · try simp only [decide_eq_true_eq, decide_eq_false_iff_not, Bool.not_eq_true', Bool.not_eq_false', Bool.and_eq_true, Bool.or_eq_true, Bool.and_eq_false_iff, Bool.or_eq_false_iff] at c153
        have hno := c153
        refine W.seq ?_
        refine W.region ?_
        refine WL.c rfl (o_ash (show _ = Value.int _ _ from rfl) ?_)
        refine WL.nil ?_
        refine W.ret ?_
        refine ret1v rfl (show _ = Value.int _ _ from rfl) ?_
        exact ⟨hO, res_er (e := 60) (by simp_all [stepF]) rfl hM⟩
      · try simp only [decide_eq_true_eq, decide_eq_false_iff_not, Bool.not_eq_true', Bool.not_eq_false', Bool.and_eq_true, Bool.or_eq_true, Bool.and_eq_false_iff, Bool.or_eq_false_iff] at c153
        have hno := c153
        refine W.skip ?_
        refine W.seq ?_
        refine W.region ?_
        refine WL.c rfl (o_mvh h0 ?_)
        have hMle := hM.le
        refine WL.c rfl (o_bsn (vs := [sySt .number, sySt (.tk 3 [58]), sySt .type]) (xs := [(.const (.string (.mk #[40, 110, 117, 109, 98, 101, 114, 41]))), (.const (.string (.mk #[58]))), (.const (.string (.mk #[40, 116, 121, 112, 101, 41])))]) TI62 TI9 rfl (lc (show _ = Value.string _ from rfl) (lc (show _ = Value.string _ from rfl) (lc (show _ = Value.string _ from rfl) ln))) rfl rfl (by decide) (by decide) ?_)
        obtain ⟨B, hB⟩ : ∃ B, B = w152.heap.size := ⟨_, rfl⟩
        have hsl : ∀ b, sv2.ownBlock = some b → b < B := fun b hb => by have := (hM.sn.lt b hb).2; omega
        have hr : (w152.alloc (Obj.cells ([sySt .number, sySt (.tk 3 [58]), sySt .type]).toArray 9)).ownsRow B 9 1 (.slice (some ⟨w152.heap.size, 0, none⟩) 3 3) 3 ([sySt .number, sySt (.tk 3 [58]), sySt .type]) := by rw [hB]; exact own_newN rfl (show 3 ≤ maxLen by decide)
        have hxl := Only.alloc w152 (Obj.cells ([sySt .number, sySt (.tk 3 [58]), sySt .type]).toArray 9)
        rw [← hB] at hr ⊢
        generalize w152.alloc (Obj.cells ([sySt .number, sySt (.tk 3 [58]), sySt .type]).toArray 9) = wl at hr hxl ⊢
        replace hM := hM.ext hxl
        replace hO := hO.ext hxl
        have hHB : H ≤ B := by rw [hB]; exact hMle
        refine WL.c rfl (o_call Try.call68 (lc rfl (lc rfl ln)) ((push_spec H p lv sv2 ov2 T i d S [.number, (.tk 3 [58]), .type] (k0 :: o) _ B _ hM hr hHB (fun b hb hs => by have := hsl b hs; simp [Value.ownBlock] at hb; omega) (by simp only [List.length_cons, List.length_nil]; omega)).mono ?_))
        rintro v156 w156 ⟨sv3, hM, hO3⟩
        replace hO := hO.trans' hO3 (fun _ h => h) (fun k _ h => h)
        refine WL.nil ?_
        refine W.seq ?_
        refine W.region ?_
        refine WL.c rfl (o_mvh h0 ?_)
        refine WL.c rfl (o_call Try.call71 (lc rfl (lc rfl ln)) ((more_spec H p lv sv3 ov2 T i d k0 _ o hk0 _ hM (by simp only [List.length_cons] at hol; omega)).mono ?_))
        rintro v158 w158 ⟨rfl, ⟨ov3, hM⟩, hO3⟩
        replace hO := hO.trans' hO3 (fun _ h => h) (fun k _ h => h)
        refine WL.c rfl (o_ash (show _ = Value.int _ _ from rfl) ?_)
        refine WL.nil ?_
        refine W.ret ?_
        refine ret1v rfl (show _ = Value.int _ _ from rfl) ?_
        rcases Nat.lt_or_ge 64 (k0 + 1) with h64 | h64
        · exact ⟨hO, res_er (e := 5) (by rw [stepF, if_neg hie, if_neg (by simpa using hno), if_pos (show 64 < (k0 :: o).headD 0 + 1 from h64)]) (by rw [if_pos h64]; rfl) hM⟩
        · exact ⟨hO, res_go (by rw [stepF, if_neg hie, if_neg (by simpa using hno), if_neg (show ¬ 64 < (k0 :: o).headD 0 + 1 by show ¬ 64 < k0 + 1; omega)]; rfl) (by rw [if_neg (by omega)]) hM⟩
  · skip
    skip
    refine W.region ?_
    refine WL.c rfl (o_mvh (show _ = Value.string _ from rfl) ?_)
    refine WL.c rfl (o_eqT rfl rfl ?_)
    refine WL.nil ?_
    refine W.condF' rfl (by decide) ?_
    refine W.skip ?_
    refine W.seq ?_
    refine W.seq ?_
    refine W.quiet rfl (by kernel_rfl) ?_
    refine WQ.c rfl ((QO.o rfl fun _ => o_mvh (show _ = Value.string _ from rfl) ⟨rfl, rfl⟩)) ?_
    refine WQ.c rfl ((QO.o rfl fun _ => o_eqT rfl rfl ⟨rfl, rfl⟩)) ?_
    refine WQ.c rfl ((QO.o rfl fun _ => o_mvh (show _ = Value.bool _ from rfl) ⟨rfl, rfl⟩)) ?_
    refine WQ.s rfl (by decide) rfl ?_
    refine WQ.s rfl (by decide) rfl ?_
    refine WQ.s rfl (by decide) rfl ?_
    refine WQ.s rfl (by decide) rfl ?_
    refine WQ.s rfl (by decide) rfl ?_
    refine WQ.s rfl (by decide) rfl ?_
    refine WQ.s rfl (by decide) rfl ?_
    refine WQ.s rfl (by decide) rfl ?_
    refine WQ.s rfl (by decide) rfl ?_
    refine WQ.s rfl (by decide) rfl ?_
    refine WQ.c rfl ((QO.r fun _ => r_pickF rfl (by decide))) ?_
    refine WQ.nil ?_
    intro nq
    have hxq := Only.drewN w3 nq
    replace hM := hM.ext hxq
    replace hO := hO.ext hxq
    clear hxq
    generalize w3.drewN nq = w5 at *
    refine W.condF' rfl (by decide) ?_
    refine W.skip ?_
    refine W.seq ?_
    refine W.seq ?_
    refine W.quiet rfl (by kernel_rfl) ?_
    refine WQ.c rfl ((QO.o rfl fun _ => o_mvh (by first | exact (show _ = Value.pointer _ from rfl) | exact rfl) ⟨rfl, rfl⟩)) ?_
    refine WQ.c rfl ((QO.r fun _ => r_nil rfl)) ?_
    refine WQ.c rfl ((QO.o rfl fun _ => o_fa 1 TI92 rfl TI3 rfl rfl ⟨rfl, rfl⟩)) ?_
    refine WQ.c rfl ((QO.o rfl fun _ => o_ld TI3 rfl rfl (cell_of hM.cl rfl) ⟨rfl, rfl⟩)) ?_
    refine WQ.c rfl ((QO.o rfl fun _ => o_mvh (by first | exact (show _ = Value.pointer _ from rfl) | exact rfl) ⟨rfl, rfl⟩)) ?_
    refine WQ.c rfl ((QO.r fun _ => r_nil rfl)) ?_
    refine WQ.c rfl ((QO.o rfl fun _ => o_fa 0 TI92 rfl TI54 rfl rfl ⟨rfl, rfl⟩)) ?_
    refine WQ.c rfl ((QO.o rfl fun _ => o_ld TI54 rfl rfl (cell_of hM.cl rfl) ⟨rfl, rfl⟩)) ?_
    refine WQ.c rfl ((QO.r fun _ => r_lenR TI54 rfl (Sl.own hM.toks))) ?_
    refine WQ.c rfl ((QO.o rfl fun _ => o_eq rfl rfl ⟨rfl, rfl⟩)) ?_
    refine WQ.nil ?_
    intro nq
    have hxq := Only.drewN w5 nq
    replace hM := hM.ext hxq
    replace hO := hO.ext hxq
    clear hxq
    generalize w5.drewN nq = w6 at *
    refine W.cond rfl (fun c72 => ?_) (fun c72 => ?_)
    · try simp only [decide_eq_true_eq, decide_eq_false_iff_not, Bool.not_eq_true', Bool.not_eq_false', Bool.and_eq_true, Bool.or_eq_true, Bool.and_eq_false_iff, Bool.or_eq_false_iff] at c72
      have hie : i = T.length := by omega
      refine W.seq ?_
      refine W.region ?_
      refine WL.c rfl (o_ash (show _ = Value.int _ _ from rfl) ?_)
      refine WL.nil ?_
      refine W.ret ?_
      refine ret1v rfl (show _ = Value.int _ _ from rfl) ?_
      exact ⟨hO, res_er (e := 60) (by simp [stepF, hie]) rfl hM⟩
    · try simp only [decide_eq_true_eq, decide_eq_false_iff_not, Bool.not_eq_true', Bool.not_eq_false', Bool.and_eq_true, Bool.or_eq_true, Bool.and_eq_false_iff, Bool.or_eq_false_iff] at c72
      have hie : ¬ i = T.length := by omega
      refine W.skip ?_
      refine W.seq ?_
      have hil : i < T.length := by omega
      obtain ⟨wd, hwd⟩ : ∃ wd, wd = w6.drew := ⟨_, rfl⟩
      have hxd : Ext w6 wd := hwd ▸ Only.drew w6
      replace hM := hM.ext hxd
      replace hO := hO.ext hxd
      obtain ⟨tb, to_, tc, hlv, htc⟩ := Sl.tok (Sl.own hM.toks) hil
      have hcellp := hM.cl
      have hMle0 := hM.le
      have hsl0 : ∀ b, sv2.ownBlock = some b → b < wd.heap.size := fun b hb => (hM.sn.lt b hb).2
      have hol0 : ∀ b, ov2.ownBlock = some b → b < wd.heap.size := fun b hb => (hM.on.lt b hb).2
      refine W.drawT 11 (Ext) [(0, fun v _ => v = _), (3, fun v _ => v = _)] rfl (by kernel_rfl) (Only.refl No) (fun _ _ _ h k => h.trans k) ⟨Mono.eq, Mono.eq, trivial⟩ ⟨rfl, rfl, trivial⟩ ?_
      refine WD.p rfl (fun e w hR hh => by obtain ⟨h0, -⟩ := hh; exact SG.n (o_mvh h0 ⟨rfl, Only.refl No _⟩)) ?_
      refine WD.p rfl (fun e w hR hh => by obtain ⟨h73, -⟩ := hh; exact SG.n (o_nil h73 ⟨rfl, Only.refl No _⟩)) ?_
      refine WD.p rfl (fun e w hR hh => by obtain ⟨h74, -⟩ := hh; exact SG.n (o_fa 0 TI92 rfl TI54 rfl h74 ⟨rfl, Only.refl No _⟩)) ?_
      refine WD.p rfl (fun e w hR hh => by obtain ⟨h75, -⟩ := hh; rw [← hwd] at hR; exact SG.n (o_ld TI54 rfl h75 (cell_of (hM.ext hR).cl rfl) ⟨rfl, Only.refl No _⟩)) ?_
      refine WD.p rfl (fun e w hR hh => by obtain ⟨h0, -⟩ := hh; exact SG.n (o_mvh h0 ⟨rfl, Only.refl No _⟩)) ?_
      refine WD.p rfl (fun e w hR hh => by obtain ⟨h77, -⟩ := hh; exact SG.n (o_nil h77 ⟨rfl, Only.refl No _⟩)) ?_
      refine WD.p rfl (fun e w hR hh => by obtain ⟨h78, -⟩ := hh; exact SG.n (o_fa 1 TI92 rfl TI3 rfl h78 ⟨rfl, Only.refl No _⟩)) ?_
      refine WD.p rfl (fun e w hR hh => by obtain ⟨h79, -⟩ := hh; rw [← hwd] at hR; exact SG.n (o_ld TI3 rfl h79 (cell_of (hM.ext hR).cl rfl) ⟨rfl, Only.refl No _⟩)) ?_
      refine WD.p rfl (fun e w hR hh => by obtain ⟨h80, h76, -⟩ := hh; exact SG.n (o_ixB (i := i) TI54 TI58 (h76.trans (by rw [← hlv]; rfl)) h80 hil ⟨rfl, Only.refl No _⟩)) ?_
      refine WD.p rfl (fun e w hR hh => by obtain ⟨h81, -⟩ := hh; rw [← hwd] at hR; exact SG.n (o_ldA TI58 rfl h81 (htc.only hR (fun h => h)) rfl ⟨rfl, Only.refl No _⟩)) ?_
      refine WD.q (fun v w => ∃ c, wd.heap.size ≤ c ∧ v = .pointer (some ⟨c, 0, none⟩) ∧ w.heap[c]? = some (.cells (tokV tk0) 58 (0, 0))) (fun v w w2 hR hh => by obtain ⟨c, h1, h2, h3⟩ := hh; exact ⟨c, h1, h2, hR.blk h3 (fun h => h)⟩) rfl (fun e w hR hh => by skip; rw [← hwd] at hR; exact SG.n (o_alB TI58 (fun w' h1 h2 h3 => ⟨⟨w.heap.size, hR.size, rfl, h1⟩, h2⟩))) ?_
      rintro e w hR ⟨h4, h82, h81, h80, h79, h78, h77, h76, h75, h74, h73, h0, h3, -⟩
      rw [← hwd] at hR
      replace hM := hM.ext hR
      replace hO := hO.ext hR
      obtain ⟨c4, hc4, h4, hC4z⟩ := h4
      have hpl : p < wd.heap.size := (Array.getElem?_eq_some_iff.1 hcellp).1
      have hpl4 : ¬ c4 = p := fun he => by omega
      have hHc4 : H ≤ c4 := by have := hMle0; omega
      have hlvl : ∀ b, lv.ownBlock = some b → b < c4 := fun b hb => by have := hM.lt b hb; omega
      have hsv4 : ∀ b, sv2.ownBlock = some b → ¬ b = c4 := fun b hb he => by have := hsl0 b hb; omega
      have hov4 : ∀ b, ov2.ownBlock = some b → ¬ b = c4 := fun b hb he => by have := hol0 b hb; omega
      refine WL.u (o_stA TI58 h4 (show _ = Value.agg (tokV (tkA T i)) from h82) rfl rfl hC4z rfl ?_)
      intro w7 hC4 ho7 hs7
      replace hM : RdM w7 H p lv sv2 ov2 T ⟨i, S, o, d⟩ := ⟨ho7.blk hM.cl (fun h => hpl4 h.symm), own_only hM.toks ho7 (fun b hb he => by have := hlvl b hb; omega), own_only hM.sn ho7 (fun b hb he => hsv4 b hb he), own_only hM.on ho7 (fun b hb he => hov4 b hb he), hM.hp, hM.lt, by have := hM.le; omega⟩
      replace hO := hO.trans' ho7 (fun _ h => h) (fun k _ he => by subst he; exact hHc4)
      have h3v := h3
      refine WL.nil ?_
      refine W.seq ?_
      refine W.seq ?_
      refine W.region ?_
      refine WL.c rfl (o_mvh h3 ?_)
      refine WL.nil ?_
      refine W.block ?_
      refine W.seq ?_
      refine W.region ?_
      refine WL.c rfl (o_eqT rfl rfl ?_)
      refine WL.c rfl (o_ash (show _ = Value.bool _ from rfl) ?_)
      refine WL.nil ?_
      refine W.condF' rfl (by decide) ?_
      refine W.seq ?_
      refine W.region ?_
      refine WL.c rfl (o_eqT rfl rfl ?_)
      refine WL.c rfl (o_ash (show _ = Value.bool _ from rfl) ?_)
      refine WL.nil ?_
      refine W.condF' rfl (by decide) ?_
      refine W.seq ?_
      refine W.region ?_
      refine WL.c rfl (o_eqT rfl rfl ?_)
      refine WL.c rfl (o_ash (show _ = Value.bool _ from rfl) ?_)
      refine WL.nil ?_
      refine W.condF' rfl (by decide) ?_
      refine W.seq ?_
      refine W.region ?_
      refine WL.c rfl (o_eqT rfl rfl ?_)
      refine WL.c rfl (o_ash (show _ = Value.bool _ from rfl) ?_)
      refine WL.nil ?_
      refine W.condF' rfl (by decide) ?_
      refine W.seq ?_
      refine W.seq ?_
      refine W.region ?_
      refine WL.c rfl (o_eqT rfl rfl ?_)
      refine WL.c rfl (o_ash (show _ = Value.bool _ from rfl) ?_)
      refine WL.nil ?_
      refine W.condT' rfl (by decide) ?_
      refine W.skip ?_
      refine W.condT' rfl (by decide) ?_
      refine W.seq ?_
      refine W.seq ?_
      refine W.region ?_
      refine WL.c rfl (o_ldA TI58 rfl h4 (show Cells _ c4 0 (tokV (tkA T i)).toList from Cells.of hC4 0 _ (by simp)) rfl ?_)
      refine WL.c rfl (o_call Try.call67 (lc rfl (lc rfl ln)) ((ris_tk (tkA T i) [44] (by decide) _ (hTt i)).mono ?_))
      rintro v163 w163 ⟨rfl, hx163⟩
      replace hM := hM.ext hx163
      replace hO := hO.ext hx163
      replace hC4 := hx163.blk hC4 (fun h => h)
      refine WL.nil ?_
      refine W.cond rfl (fun c163 => ?_) (fun c163 => ?_)
      · try simp only [decide_eq_true_eq, decide_eq_false_iff_not, Bool.not_eq_true', Bool.not_eq_false', Bool.and_eq_true, Bool.or_eq_true, Bool.and_eq_false_iff, Bool.or_eq_false_iff] at c163
        have hno := c163
        refine W.seq ?_
        refine W.region ?_
        refine WL.c rfl (o_ash (show _ = Value.string _ from rfl) ?_)
        refine WL.nil ?_
        refine W.seq ?_
        refine W.seq ?_
        refine W.region ?_
        refine WL.c rfl (o_mvh h3 ?_)
        refine WL.c rfl (o_eqT rfl rfl ?_)
        refine WL.nil ?_
        refine W.condF' rfl (by decide) ?_
        refine W.skip ?_
        refine W.region ?_
        refine WL.c rfl (o_mvh h0 ?_)
        refine WL.c rfl (o_mvh (show _ = Value.string _ from rfl) ?_)
        refine WL.c rfl (o_mvh h3 ?_)
        have hMle := hM.le
        refine WL.c rfl (o_bsn (vs := [sySt (.tk 3 [44]), sySt .field, sySt .fields]) (xs := [(.const (.string (.mk #[44]))), (.tmp 167), (.tmp 168)]) TI62 TI9 rfl (lc (show _ = Value.string _ from rfl) (lc (show _ = Value.string _ from rfl) (lc (show _ = Value.string _ from rfl) ln))) rfl rfl (by decide) (by decide) ?_)
        obtain ⟨B, hB⟩ : ∃ B, B = w163.heap.size := ⟨_, rfl⟩
        have hsl : ∀ b, sv2.ownBlock = some b → b < B := fun b hb => by have := (hM.sn.lt b hb).2; omega
        have hr : (w163.alloc (Obj.cells ([sySt (.tk 3 [44]), sySt .field, sySt .fields]).toArray 9)).ownsRow B 9 1 (.slice (some ⟨w163.heap.size, 0, none⟩) 3 3) 3 ([sySt (.tk 3 [44]), sySt .field, sySt .fields]) := by rw [hB]; exact own_newN rfl (show 3 ≤ maxLen by decide)
        have hxl := Only.alloc w163 (Obj.cells ([sySt (.tk 3 [44]), sySt .field, sySt .fields]).toArray 9)
        rw [← hB] at hr ⊢
        generalize w163.alloc (Obj.cells ([sySt (.tk 3 [44]), sySt .field, sySt .fields]).toArray 9) = wl at hr hxl ⊢
        replace hM := hM.ext hxl
        replace hO := hO.ext hxl
        have hHB : H ≤ B := by rw [hB]; exact hMle
        refine WL.c rfl (o_call Try.call68 (lc rfl (lc rfl ln)) ((push_spec H p lv sv2 ov2 T i d S [(.tk 3 [44]), .field, .fields] o _ B _ hM hr hHB (fun b hb hs => by have := hsl b hs; simp [Value.ownBlock] at hb; omega) (by simp only [List.length_cons, List.length_nil]; omega)).mono ?_))
        rintro v170 w170 ⟨sv3, hM, hO3⟩
        replace hO := hO.trans' hO3 (fun _ h => h) (fun k _ h => h)
        refine WL.nil ?_
        refine W.seq ?_
        refine W.region ?_
        refine WL.c rfl (o_ash (show _ = Value.int _ _ from rfl) ?_)
        refine WL.nil ?_
        refine W.ret ?_
        refine ret1v rfl (show _ = Value.int _ _ from rfl) ?_
        first | exact ⟨hO, res_go (by rw [stepF, if_neg hie, if_pos (by simpa using hno)]; rfl) rfl hM⟩ | exact ⟨hO, res_go (by rw [stepF, if_neg hie, if_neg (by simpa using hno)]; rfl) rfl hM⟩
      · try simp only [decide_eq_true_eq, decide_eq_false_iff_not, Bool.not_eq_true', Bool.not_eq_false', Bool.and_eq_true, Bool.or_eq_true, Bool.and_eq_false_iff, Bool.or_eq_false_iff] at c163
        have hno := c163
        refine W.region ?_
        refine WL.c rfl (o_mvh h0 ?_)
        have hMle := hM.le
        refine WL.c rfl (o_bsn (vs := [sySt (.tk 3 [125])]) (xs := [(.const (.string ⟨#[125]⟩))]) TI62 TI9 rfl (lc rfl ln) rfl rfl (by decide) (by decide) ?_)
        obtain ⟨B, hB⟩ : ∃ B, B = w163.heap.size := ⟨_, rfl⟩
        have hsl : ∀ b, sv2.ownBlock = some b → b < B := fun b hb => by have := (hM.sn.lt b hb).2; omega
        have hr : (w163.alloc (Obj.cells ([sySt (.tk 3 [125])]).toArray 9)).ownsRow B 9 1 (.slice (some ⟨w163.heap.size, 0, none⟩) 1 1) 1 ([sySt (.tk 3 [125])]) := by rw [hB]; exact own_newN rfl (show 1 ≤ maxLen by decide)
        have hxl := Only.alloc w163 (Obj.cells ([sySt (.tk 3 [125])]).toArray 9)
        rw [← hB] at hr ⊢
        generalize w163.alloc (Obj.cells ([sySt (.tk 3 [125])]).toArray 9) = wl at hr hxl ⊢
        replace hM := hM.ext hxl
        replace hO := hO.ext hxl
        have hHB : H ≤ B := by rw [hB]; exact hMle
        refine WL.c rfl (o_call Try.call68 (lc rfl (lc rfl ln)) ((push_spec H p lv sv2 ov2 T i d S [(.tk 3 [125])] o _ B _ hM hr hHB (fun b hb hs => by have := hsl b hs; simp [Value.ownBlock] at hb; omega) (by simp only [List.length_cons, List.length_nil]; omega)).mono ?_))
        rintro v173 w173 ⟨sv3, hM, hO3⟩
        replace hO := hO.trans' hO3 (fun _ h => h) (fun k _ h => h)
        refine WL.nil ?_
        refine W.seq ?_
        refine W.region ?_
        refine WL.c rfl (o_ash (show _ = Value.int _ _ from rfl) ?_)
        refine WL.nil ?_
        refine W.ret ?_
        refine ret1v rfl (show _ = Value.int _ _ from rfl) ?_
        first | exact ⟨hO, res_go (by rw [stepF, if_neg hie, if_pos (by simpa using hno)]; rfl) rfl hM⟩ | exact ⟨hO, res_go (by rw [stepF, if_neg hie, if_neg (by simpa using hno)]; rfl) rfl hM⟩
  · skip
    skip
    refine W.region ?_
    refine WL.c rfl (o_mvh (show _ = Value.string _ from rfl) ?_)
    refine WL.c rfl (o_eqT rfl rfl ?_)
    refine WL.nil ?_
    refine W.condF' rfl (by decide) ?_
    refine W.skip ?_
    refine W.seq ?_
    refine W.seq ?_
    refine W.quiet rfl (by kernel_rfl) ?_
    refine WQ.c rfl ((QO.o rfl fun _ => o_mvh (show _ = Value.string _ from rfl) ⟨rfl, rfl⟩)) ?_
    refine WQ.c rfl ((QO.o rfl fun _ => o_eqT rfl rfl ⟨rfl, rfl⟩)) ?_
    refine WQ.c rfl ((QO.o rfl fun _ => o_mvh (show _ = Value.bool _ from rfl) ⟨rfl, rfl⟩)) ?_
    refine WQ.s rfl (by decide) rfl ?_
    refine WQ.s rfl (by decide) rfl ?_
    refine WQ.s rfl (by decide) rfl ?_
    refine WQ.s rfl (by decide) rfl ?_
    refine WQ.s rfl (by decide) rfl ?_
    refine WQ.s rfl (by decide) rfl ?_
    refine WQ.s rfl (by decide) rfl ?_
    refine WQ.s rfl (by decide) rfl ?_
    refine WQ.s rfl (by decide) rfl ?_
    refine WQ.s rfl (by decide) rfl ?_
    refine WQ.c rfl ((QO.r fun _ => r_pickF rfl (by decide))) ?_
    refine WQ.nil ?_
    intro nq
    have hxq := Only.drewN w3 nq
    replace hM := hM.ext hxq
    replace hO := hO.ext hxq
    clear hxq
    generalize w3.drewN nq = w5 at *
    refine W.condF' rfl (by decide) ?_
    refine W.skip ?_
    refine W.seq ?_
    refine W.seq ?_
    refine W.quiet rfl (by kernel_rfl) ?_
    refine WQ.c rfl ((QO.o rfl fun _ => o_mvh (by first | exact (show _ = Value.pointer _ from rfl) | exact rfl) ⟨rfl, rfl⟩)) ?_
    refine WQ.c rfl ((QO.r fun _ => r_nil rfl)) ?_
    refine WQ.c rfl ((QO.o rfl fun _ => o_fa 1 TI92 rfl TI3 rfl rfl ⟨rfl, rfl⟩)) ?_
    refine WQ.c rfl ((QO.o rfl fun _ => o_ld TI3 rfl rfl (cell_of hM.cl rfl) ⟨rfl, rfl⟩)) ?_
    refine WQ.c rfl ((QO.o rfl fun _ => o_mvh (by first | exact (show _ = Value.pointer _ from rfl) | exact rfl) ⟨rfl, rfl⟩)) ?_
    refine WQ.c rfl ((QO.r fun _ => r_nil rfl)) ?_
    refine WQ.c rfl ((QO.o rfl fun _ => o_fa 0 TI92 rfl TI54 rfl rfl ⟨rfl, rfl⟩)) ?_
    refine WQ.c rfl ((QO.o rfl fun _ => o_ld TI54 rfl rfl (cell_of hM.cl rfl) ⟨rfl, rfl⟩)) ?_
    refine WQ.c rfl ((QO.r fun _ => r_lenR TI54 rfl (Sl.own hM.toks))) ?_
    refine WQ.c rfl ((QO.o rfl fun _ => o_eq rfl rfl ⟨rfl, rfl⟩)) ?_
    refine WQ.nil ?_
    intro nq
    have hxq := Only.drewN w5 nq
    replace hM := hM.ext hxq
    replace hO := hO.ext hxq
    clear hxq
    generalize w5.drewN nq = w6 at *
    refine W.cond rfl (fun c72 => ?_) (fun c72 => ?_)
    · try simp only [decide_eq_true_eq, decide_eq_false_iff_not, Bool.not_eq_true', Bool.not_eq_false', Bool.and_eq_true, Bool.or_eq_true, Bool.and_eq_false_iff, Bool.or_eq_false_iff] at c72
      have hie : i = T.length := by omega
      refine W.seq ?_
      refine W.region ?_
      refine WL.c rfl (o_ash (show _ = Value.int _ _ from rfl) ?_)
      refine WL.nil ?_
      refine W.ret ?_
      refine ret1v rfl (show _ = Value.int _ _ from rfl) ?_
      exact ⟨hO, res_er (e := 60) (by simp [stepF, hie]) rfl hM⟩
    · try simp only [decide_eq_true_eq, decide_eq_false_iff_not, Bool.not_eq_true', Bool.not_eq_false', Bool.and_eq_true, Bool.or_eq_true, Bool.and_eq_false_iff, Bool.or_eq_false_iff] at c72
      have hie : ¬ i = T.length := by omega
      refine W.skip ?_
      refine W.seq ?_
      have hil : i < T.length := by omega
      obtain ⟨wd, hwd⟩ : ∃ wd, wd = w6.drew := ⟨_, rfl⟩
      have hxd : Ext w6 wd := hwd ▸ Only.drew w6
      replace hM := hM.ext hxd
      replace hO := hO.ext hxd
      obtain ⟨tb, to_, tc, hlv, htc⟩ := Sl.tok (Sl.own hM.toks) hil
      have hcellp := hM.cl
      have hMle0 := hM.le
      have hsl0 : ∀ b, sv2.ownBlock = some b → b < wd.heap.size := fun b hb => (hM.sn.lt b hb).2
      have hol0 : ∀ b, ov2.ownBlock = some b → b < wd.heap.size := fun b hb => (hM.on.lt b hb).2
      refine W.drawT 11 (Ext) [(0, fun v _ => v = _), (3, fun v _ => v = _)] rfl (by kernel_rfl) (Only.refl No) (fun _ _ _ h k => h.trans k) ⟨Mono.eq, Mono.eq, trivial⟩ ⟨rfl, rfl, trivial⟩ ?_
      refine WD.p rfl (fun e w hR hh => by obtain ⟨h0, -⟩ := hh; exact SG.n (o_mvh h0 ⟨rfl, Only.refl No _⟩)) ?_
      refine WD.p rfl (fun e w hR hh => by obtain ⟨h73, -⟩ := hh; exact SG.n (o_nil h73 ⟨rfl, Only.refl No _⟩)) ?_
      refine WD.p rfl (fun e w hR hh => by obtain ⟨h74, -⟩ := hh; exact SG.n (o_fa 0 TI92 rfl TI54 rfl h74 ⟨rfl, Only.refl No _⟩)) ?_
      refine WD.p rfl (fun e w hR hh => by obtain ⟨h75, -⟩ := hh; rw [← hwd] at hR; exact SG.n (o_ld TI54 rfl h75 (cell_of (hM.ext hR).cl rfl) ⟨rfl, Only.refl No _⟩)) ?_
      refine WD.p rfl (fun e w hR hh => by obtain ⟨h0, -⟩ := hh; exact SG.n (o_mvh h0 ⟨rfl, Only.refl No _⟩)) ?_
      refine WD.p rfl (fun e w hR hh => by obtain ⟨h77, -⟩ := hh; exact SG.n (o_nil h77 ⟨rfl, Only.refl No _⟩)) ?_
      refine WD.p rfl (fun e w hR hh => by obtain ⟨h78, -⟩ := hh; exact SG.n (o_fa 1 TI92 rfl TI3 rfl h78 ⟨rfl, Only.refl No _⟩)) ?_
      refine WD.p rfl (fun e w hR hh => by obtain ⟨h79, -⟩ := hh; rw [← hwd] at hR; exact SG.n (o_ld TI3 rfl h79 (cell_of (hM.ext hR).cl rfl) ⟨rfl, Only.refl No _⟩)) ?_
      refine WD.p rfl (fun e w hR hh => by obtain ⟨h80, h76, -⟩ := hh; exact SG.n (o_ixB (i := i) TI54 TI58 (h76.trans (by rw [← hlv]; rfl)) h80 hil ⟨rfl, Only.refl No _⟩)) ?_
      refine WD.p rfl (fun e w hR hh => by obtain ⟨h81, -⟩ := hh; rw [← hwd] at hR; exact SG.n (o_ldA TI58 rfl h81 (htc.only hR (fun h => h)) rfl ⟨rfl, Only.refl No _⟩)) ?_
      refine WD.q (fun v w => ∃ c, wd.heap.size ≤ c ∧ v = .pointer (some ⟨c, 0, none⟩) ∧ w.heap[c]? = some (.cells (tokV tk0) 58 (0, 0))) (fun v w w2 hR hh => by obtain ⟨c, h1, h2, h3⟩ := hh; exact ⟨c, h1, h2, hR.blk h3 (fun h => h)⟩) rfl (fun e w hR hh => by skip; rw [← hwd] at hR; exact SG.n (o_alB TI58 (fun w' h1 h2 h3 => ⟨⟨w.heap.size, hR.size, rfl, h1⟩, h2⟩))) ?_
      rintro e w hR ⟨h4, h82, h81, h80, h79, h78, h77, h76, h75, h74, h73, h0, h3, -⟩
      rw [← hwd] at hR
      replace hM := hM.ext hR
      replace hO := hO.ext hR
      obtain ⟨c4, hc4, h4, hC4z⟩ := h4
      have hpl : p < wd.heap.size := (Array.getElem?_eq_some_iff.1 hcellp).1
      have hpl4 : ¬ c4 = p := fun he => by omega
      have hHc4 : H ≤ c4 := by have := hMle0; omega
      have hlvl : ∀ b, lv.ownBlock = some b → b < c4 := fun b hb => by have := hM.lt b hb; omega
      have hsv4 : ∀ b, sv2.ownBlock = some b → ¬ b = c4 := fun b hb he => by have := hsl0 b hb; omega
      have hov4 : ∀ b, ov2.ownBlock = some b → ¬ b = c4 := fun b hb he => by have := hol0 b hb; omega
      refine WL.u (o_stA TI58 h4 (show _ = Value.agg (tokV (tkA T i)) from h82) rfl rfl hC4z rfl ?_)
      intro w7 hC4 ho7 hs7
      replace hM : RdM w7 H p lv sv2 ov2 T ⟨i, S, o, d⟩ := ⟨ho7.blk hM.cl (fun h => hpl4 h.symm), own_only hM.toks ho7 (fun b hb he => by have := hlvl b hb; omega), own_only hM.sn ho7 (fun b hb he => hsv4 b hb he), own_only hM.on ho7 (fun b hb he => hov4 b hb he), hM.hp, hM.lt, by have := hM.le; omega⟩
      replace hO := hO.trans' ho7 (fun _ h => h) (fun k _ he => by subst he; exact hHc4)
      have h3v := h3
      refine WL.nil ?_
      refine W.seq ?_
      refine W.seq ?_
      refine W.region ?_
      refine WL.c rfl (o_mvh h3 ?_)
      refine WL.nil ?_
      refine W.block ?_
      refine W.seq ?_
      refine W.region ?_
      refine WL.c rfl (o_eqT rfl rfl ?_)
      refine WL.c rfl (o_ash (show _ = Value.bool _ from rfl) ?_)
      refine WL.nil ?_
      refine W.condF' rfl (by decide) ?_
      refine W.seq ?_
      refine W.region ?_
      refine WL.c rfl (o_eqT rfl rfl ?_)
      refine WL.c rfl (o_ash (show _ = Value.bool _ from rfl) ?_)
      refine WL.nil ?_
      refine W.condF' rfl (by decide) ?_
      refine W.seq ?_
      refine W.region ?_
      refine WL.c rfl (o_eqT rfl rfl ?_)
      refine WL.c rfl (o_ash (show _ = Value.bool _ from rfl) ?_)
      refine WL.nil ?_
      refine W.condF' rfl (by decide) ?_
      refine W.seq ?_
      refine W.region ?_
      refine WL.c rfl (o_eqT rfl rfl ?_)
      refine WL.c rfl (o_ash (show _ = Value.bool _ from rfl) ?_)
      refine WL.nil ?_
      refine W.condF' rfl (by decide) ?_
      refine W.seq ?_
      refine W.seq ?_
      refine W.region ?_
      refine WL.c rfl (o_eqT rfl rfl ?_)
      refine WL.c rfl (o_ash (show _ = Value.bool _ from rfl) ?_)
      refine WL.nil ?_
      refine W.condF' rfl (by decide) ?_
      refine W.region ?_
      refine WL.c rfl (o_eqT rfl rfl ?_)
      refine WL.c rfl (o_ash (show _ = Value.bool _ from rfl) ?_)
      refine WL.nil ?_
      refine W.condT' rfl (by decide) ?_
      refine W.seq ?_
      refine W.seq ?_
      refine W.region ?_
      refine WL.c rfl (o_ldA TI58 rfl h4 (show Cells _ c4 0 (tokV (tkA T i)).toList from Cells.of hC4 0 _ (by simp)) rfl ?_)
      refine WL.c rfl (o_call Try.call67 (lc rfl (lc rfl ln)) ((ris_tk (tkA T i) [44] (by decide) _ (hTt i)).mono ?_))
      rintro v163 w163 ⟨rfl, hx163⟩
      replace hM := hM.ext hx163
      replace hO := hO.ext hx163
      replace hC4 := hx163.blk hC4 (fun h => h)
      refine WL.nil ?_
      refine W.cond rfl (fun c163 => ?_) (fun c163 => ?_)
      · try simp only [decide_eq_true_eq, decide_eq_false_iff_not, Bool.not_eq_true', Bool.not_eq_false', Bool.and_eq_true, Bool.or_eq_true, Bool.and_eq_false_iff, Bool.or_eq_false_iff] at c163
        have hno := c163
        refine W.seq ?_
        refine W.region ?_
        refine WL.c rfl (o_ash (show _ = Value.string _ from rfl) ?_)
        refine WL.nil ?_
        refine W.seq ?_
        refine W.seq ?_
        refine W.region ?_
        refine WL.c rfl (o_mvh h3 ?_)
        refine WL.c rfl (o_eqT rfl rfl ?_)
        refine WL.nil ?_
        refine W.condT' rfl (by decide) ?_
        refine W.region ?_
        refine WL.c rfl (o_ash (show _ = Value.string _ from rfl) ?_)
        refine WL.nil ?_
        refine W.region ?_
        refine WL.c rfl (o_mvh h0 ?_)
        refine WL.c rfl (o_mvh (show _ = Value.string _ from rfl) ?_)
        refine WL.c rfl (o_mvh h3 ?_)
        have hMle := hM.le
        refine WL.c rfl (o_bsn (vs := [sySt (.tk 3 [44]), sySt .arm, sySt .arms]) (xs := [(.const (.string (.mk #[44]))), (.tmp 167), (.tmp 168)]) TI62 TI9 rfl (lc (show _ = Value.string _ from rfl) (lc (show _ = Value.string _ from rfl) (lc (show _ = Value.string _ from rfl) ln))) rfl rfl (by decide) (by decide) ?_)
        obtain ⟨B, hB⟩ : ∃ B, B = w163.heap.size := ⟨_, rfl⟩
        have hsl : ∀ b, sv2.ownBlock = some b → b < B := fun b hb => by have := (hM.sn.lt b hb).2; omega
        have hr : (w163.alloc (Obj.cells ([sySt (.tk 3 [44]), sySt .arm, sySt .arms]).toArray 9)).ownsRow B 9 1 (.slice (some ⟨w163.heap.size, 0, none⟩) 3 3) 3 ([sySt (.tk 3 [44]), sySt .arm, sySt .arms]) := by rw [hB]; exact own_newN rfl (show 3 ≤ maxLen by decide)
        have hxl := Only.alloc w163 (Obj.cells ([sySt (.tk 3 [44]), sySt .arm, sySt .arms]).toArray 9)
        rw [← hB] at hr ⊢
        generalize w163.alloc (Obj.cells ([sySt (.tk 3 [44]), sySt .arm, sySt .arms]).toArray 9) = wl at hr hxl ⊢
        replace hM := hM.ext hxl
        replace hO := hO.ext hxl
        have hHB : H ≤ B := by rw [hB]; exact hMle
        refine WL.c rfl (o_call Try.call68 (lc rfl (lc rfl ln)) ((push_spec H p lv sv2 ov2 T i d S [(.tk 3 [44]), .arm, .arms] o _ B _ hM hr hHB (fun b hb hs => by have := hsl b hs; simp [Value.ownBlock] at hb; omega) (by simp only [List.length_cons, List.length_nil]; omega)).mono ?_))
        rintro v170 w170 ⟨sv3, hM, hO3⟩
        replace hO := hO.trans' hO3 (fun _ h => h) (fun k _ h => h)
        refine WL.nil ?_
        refine W.seq ?_
        refine W.region ?_
        refine WL.c rfl (o_ash (show _ = Value.int _ _ from rfl) ?_)
        refine WL.nil ?_
        refine W.ret ?_
        refine ret1v rfl (show _ = Value.int _ _ from rfl) ?_
        first | exact ⟨hO, res_go (by rw [stepF, if_neg hie, if_pos (by simpa using hno)]; rfl) rfl hM⟩ | exact ⟨hO, res_go (by rw [stepF, if_neg hie, if_neg (by simpa using hno)]; rfl) rfl hM⟩
      · try simp only [decide_eq_true_eq, decide_eq_false_iff_not, Bool.not_eq_true', Bool.not_eq_false', Bool.and_eq_true, Bool.or_eq_true, Bool.and_eq_false_iff, Bool.or_eq_false_iff] at c163
        have hno := c163
        refine W.region ?_
        refine WL.c rfl (o_mvh h0 ?_)
        have hMle := hM.le
        refine WL.c rfl (o_bsn (vs := [sySt (.tk 3 [125])]) (xs := [(.const (.string ⟨#[125]⟩))]) TI62 TI9 rfl (lc rfl ln) rfl rfl (by decide) (by decide) ?_)
        obtain ⟨B, hB⟩ : ∃ B, B = w163.heap.size := ⟨_, rfl⟩
        have hsl : ∀ b, sv2.ownBlock = some b → b < B := fun b hb => by have := (hM.sn.lt b hb).2; omega
        have hr : (w163.alloc (Obj.cells ([sySt (.tk 3 [125])]).toArray 9)).ownsRow B 9 1 (.slice (some ⟨w163.heap.size, 0, none⟩) 1 1) 1 ([sySt (.tk 3 [125])]) := by rw [hB]; exact own_newN rfl (show 1 ≤ maxLen by decide)
        have hxl := Only.alloc w163 (Obj.cells ([sySt (.tk 3 [125])]).toArray 9)
        rw [← hB] at hr ⊢
        generalize w163.alloc (Obj.cells ([sySt (.tk 3 [125])]).toArray 9) = wl at hr hxl ⊢
        replace hM := hM.ext hxl
        replace hO := hO.ext hxl
        have hHB : H ≤ B := by rw [hB]; exact hMle
        refine WL.c rfl (o_call Try.call68 (lc rfl (lc rfl ln)) ((push_spec H p lv sv2 ov2 T i d S [(.tk 3 [125])] o _ B _ hM hr hHB (fun b hb hs => by have := hsl b hs; simp [Value.ownBlock] at hb; omega) (by simp only [List.length_cons, List.length_nil]; omega)).mono ?_))
        rintro v173 w173 ⟨sv3, hM, hO3⟩
        replace hO := hO.trans' hO3 (fun _ h => h) (fun k _ h => h)
        refine WL.nil ?_
        refine W.seq ?_
        refine W.region ?_
        refine WL.c rfl (o_ash (show _ = Value.int _ _ from rfl) ?_)
        refine WL.nil ?_
        refine W.ret ?_
        refine ret1v rfl (show _ = Value.int _ _ from rfl) ?_
        first | exact ⟨hO, res_go (by rw [stepF, if_neg hie, if_pos (by simpa using hno)]; rfl) rfl hM⟩ | exact ⟨hO, res_go (by rw [stepF, if_neg hie, if_neg (by simpa using hno)]; rfl) rfl hM⟩
  · skip
    obtain ⟨k0, o, rfl⟩ := hok
    have hol2 : o.length ≤ 17 := by simp only [List.length_cons] at hol; omega
    obtain ⟨go, co, rfl, hgo⟩ := own_some hM.on (by simp)
    have hco : o.length ≤ co := by obtain ⟨_, _, hv, hh⟩ := own_form hM.on; cases hv; simp only [List.length_cons] at hh; omega
    refine W.region ?_
    refine WL.c rfl (o_mvh (show _ = Value.string _ from rfl) ?_)
    refine WL.c rfl (o_eqT rfl rfl ?_)
    refine WL.nil ?_
    refine W.condT' rfl (by decide) ?_
    refine W.seq ?_
    refine W.tail 12 rfl (by kernel_rfl) ?_
    refine WS.c rfl ((SO.o rfl (o_mvh (by first | exact (show _ = Value.pointer _ from rfl) | exact rfl) ⟨rfl, rfl⟩))) ?_
    refine WS.c rfl ((SO.o rfl (o_mvh (by first | exact (show _ = Value.pointer _ from rfl) | exact rfl) ⟨rfl, rfl⟩))) ?_
    refine WS.c rfl ((SO.r (r_nil rfl))) ?_
    refine WS.c rfl ((SO.o rfl (o_fa 3 TI92 rfl TI22 rfl rfl ⟨rfl, rfl⟩))) ?_
    refine WS.c rfl ((SO.o rfl (o_ld TI22 rfl rfl (cell_of hM.cl rfl) ⟨rfl, rfl⟩))) ?_
    refine WS.c rfl ((SO.o rfl (o_mvh (by first | exact (show _ = Value.pointer _ from rfl) | exact rfl) ⟨rfl, rfl⟩))) ?_
    refine WS.c rfl ((SO.r (r_nil rfl))) ?_
    refine WS.c rfl ((SO.o rfl (o_fa 3 TI92 rfl TI22 rfl rfl ⟨rfl, rfl⟩))) ?_
    refine WS.c rfl ((SO.o rfl (o_ld TI22 rfl rfl (cell_of hM.cl rfl) ⟨rfl, rfl⟩))) ?_
    refine WS.c rfl ((SO.r (r_lenR TI22 rfl (Sl.own hM.on)))) ?_
    refine WS.c rfl ((SO.o rfl (o_subi rfl rfl (by simp only [List.length_cons]; omega) ⟨rfl, rfl⟩))) ?_
    refine WS.c rfl ((SO.o rfl (o_slv (h := o.length) TI22 TI3 rfl Lo.n (Hi.s (by show Value.int _ _ = _; congr 1; simp only [List.length_cons]; omega)) (Nat.zero_le _) (by omega) ⟨rfl, rfl⟩))) ?_
    refine WS.nil ?_
    have hxd := Only.drew w3
    replace hM := hM.ext hxd
    replace hO := hO.ext hxd
    clear hxd
    generalize w3.drew = wd3 at *
    refine WL.c rfl (o_nil rfl ?_)
    refine WL.c rfl (o_fa 3 TI92 rfl TI22 rfl rfl ?_)
    refine WL.u (o_stB TI22 rfl (show _ = Value.slice (some ⟨go, 0, none⟩) o.length co from sliced0 _ _ _ _) rfl hM.cl (show 3 < 5 by decide) ?_)
    intro w4 hB4 ho4 hs4
    replace hO := hM.hO hO ho4
    have hot := own_take hM.on (m := o.length) (by simp)
    rw [pop_take] at hot
    replace hM := hM.put (i := i) (o := o) hB4 ho4 hM.sn hot
    refine WL.nil ?_
    refine W.seq ?_
    refine W.region ?_
    refine WL.c rfl (o_ash (show _ = Value.int _ _ from rfl) ?_)
    refine WL.nil ?_
    refine W.ret ?_
    refine ret1v rfl (show _ = Value.int _ _ from rfl) ?_
    exact ⟨hO, res_go (s := ⟨i, S, o, d⟩) rfl rfl hM⟩
  · skip
    rename_i kk ss
    refine W.region ?_
    refine WL.c rfl (o_mvh (show _ = Value.string _ from rfl) ?_)
    refine WL.c rfl (o_eqT rfl rfl ?_)
    refine WL.nil ?_
    refine W.condF' rfl (tk_ne hok (by decide)) ?_
    refine W.skip ?_
    refine W.seq ?_
    refine W.seq ?_
    refine W.quiet rfl (by kernel_rfl) ?_
    refine WQ.c rfl ((QO.o rfl fun _ => o_mvh (show _ = Value.string _ from rfl) ⟨rfl, rfl⟩)) ?_
    refine WQ.c rfl ((QO.o rfl fun _ => o_eqT rfl rfl ⟨rfl, rfl⟩)) ?_
    refine WQ.c rfl ((QO.o rfl fun _ => o_mvh (show _ = Value.bool _ from rfl) ⟨rfl, rfl⟩)) ?_
    refine WQ.s rfl (tk_ne hok (by decide)) rfl ?_
    refine WQ.s rfl (tk_ne hok (by decide)) rfl ?_
    refine WQ.s rfl (tk_ne hok (by decide)) rfl ?_
    refine WQ.s rfl (tk_ne hok (by decide)) rfl ?_
    refine WQ.s rfl (tk_ne hok (by decide)) rfl ?_
    refine WQ.s rfl (tk_ne hok (by decide)) rfl ?_
    refine WQ.s rfl (tk_ne hok (by decide)) rfl ?_
    refine WQ.s rfl (tk_ne hok (by decide)) rfl ?_
    refine WQ.s rfl (tk_ne hok (by decide)) rfl ?_
    refine WQ.s rfl (tk_ne hok (by decide)) rfl ?_
    refine WQ.c rfl ((QO.r fun _ => r_pickF rfl (tk_ne hok (by decide)))) ?_
    refine WQ.nil ?_
    intro nq
    have hxq := Only.drewN w3 nq
    replace hM := hM.ext hxq
    replace hO := hO.ext hxq
    clear hxq
    generalize w3.drewN nq = w5 at *
    refine W.condF' rfl (rfl) ?_
    refine W.skip ?_
    refine W.seq ?_
    refine W.seq ?_
    refine W.quiet rfl (by kernel_rfl) ?_
    refine WQ.c rfl ((QO.o rfl fun _ => o_mvh (by first | exact (show _ = Value.pointer _ from rfl) | exact rfl) ⟨rfl, rfl⟩)) ?_
    refine WQ.c rfl ((QO.r fun _ => r_nil rfl)) ?_
    refine WQ.c rfl ((QO.o rfl fun _ => o_fa 1 TI92 rfl TI3 rfl rfl ⟨rfl, rfl⟩)) ?_
    refine WQ.c rfl ((QO.o rfl fun _ => o_ld TI3 rfl rfl (cell_of hM.cl rfl) ⟨rfl, rfl⟩)) ?_
    refine WQ.c rfl ((QO.o rfl fun _ => o_mvh (by first | exact (show _ = Value.pointer _ from rfl) | exact rfl) ⟨rfl, rfl⟩)) ?_
    refine WQ.c rfl ((QO.r fun _ => r_nil rfl)) ?_
    refine WQ.c rfl ((QO.o rfl fun _ => o_fa 0 TI92 rfl TI54 rfl rfl ⟨rfl, rfl⟩)) ?_
    refine WQ.c rfl ((QO.o rfl fun _ => o_ld TI54 rfl rfl (cell_of hM.cl rfl) ⟨rfl, rfl⟩)) ?_
    refine WQ.c rfl ((QO.r fun _ => r_lenR TI54 rfl (Sl.own hM.toks))) ?_
    refine WQ.c rfl ((QO.o rfl fun _ => o_eq rfl rfl ⟨rfl, rfl⟩)) ?_
    refine WQ.nil ?_
    intro nq
    have hxq := Only.drewN w5 nq
    replace hM := hM.ext hxq
    replace hO := hO.ext hxq
    clear hxq
    generalize w5.drewN nq = w6 at *
    refine W.cond rfl (fun c72 => ?_) (fun c72 => ?_)
    · try simp only [decide_eq_true_eq, decide_eq_false_iff_not, Bool.not_eq_true', Bool.not_eq_false', Bool.and_eq_true, Bool.or_eq_true, Bool.and_eq_false_iff, Bool.or_eq_false_iff] at c72
      have hie : i = T.length := by omega
      refine W.seq ?_
      refine W.region ?_
      refine WL.c rfl (o_ash (show _ = Value.int _ _ from rfl) ?_)
      refine WL.nil ?_
      refine W.ret ?_
      refine ret1v rfl (show _ = Value.int _ _ from rfl) ?_
      exact ⟨hO, res_er (e := 60) (by simp [stepF, hie]) rfl hM⟩
    · try simp only [decide_eq_true_eq, decide_eq_false_iff_not, Bool.not_eq_true', Bool.not_eq_false', Bool.and_eq_true, Bool.or_eq_true, Bool.and_eq_false_iff, Bool.or_eq_false_iff] at c72
      have hie : ¬ i = T.length := by omega
      refine W.skip ?_
      refine W.seq ?_
      have hil : i < T.length := by omega
      obtain ⟨wd, hwd⟩ : ∃ wd, wd = w6.drew := ⟨_, rfl⟩
      have hxd : Ext w6 wd := hwd ▸ Only.drew w6
      replace hM := hM.ext hxd
      replace hO := hO.ext hxd
      obtain ⟨tb, to_, tc, hlv, htc⟩ := Sl.tok (Sl.own hM.toks) hil
      have hcellp := hM.cl
      have hMle0 := hM.le
      have hsl0 : ∀ b, sv2.ownBlock = some b → b < wd.heap.size := fun b hb => (hM.sn.lt b hb).2
      have hol0 : ∀ b, ov2.ownBlock = some b → b < wd.heap.size := fun b hb => (hM.on.lt b hb).2
      refine W.drawT 11 (Ext) [(0, fun v _ => v = _), (3, fun v _ => v = _)] rfl (by kernel_rfl) (Only.refl No) (fun _ _ _ h k => h.trans k) ⟨Mono.eq, Mono.eq, trivial⟩ ⟨rfl, rfl, trivial⟩ ?_
      refine WD.p rfl (fun e w hR hh => by obtain ⟨h0, -⟩ := hh; exact SG.n (o_mvh h0 ⟨rfl, Only.refl No _⟩)) ?_
      refine WD.p rfl (fun e w hR hh => by obtain ⟨h73, -⟩ := hh; exact SG.n (o_nil h73 ⟨rfl, Only.refl No _⟩)) ?_
      refine WD.p rfl (fun e w hR hh => by obtain ⟨h74, -⟩ := hh; exact SG.n (o_fa 0 TI92 rfl TI54 rfl h74 ⟨rfl, Only.refl No _⟩)) ?_
      refine WD.p rfl (fun e w hR hh => by obtain ⟨h75, -⟩ := hh; rw [← hwd] at hR; exact SG.n (o_ld TI54 rfl h75 (cell_of (hM.ext hR).cl rfl) ⟨rfl, Only.refl No _⟩)) ?_
      refine WD.p rfl (fun e w hR hh => by obtain ⟨h0, -⟩ := hh; exact SG.n (o_mvh h0 ⟨rfl, Only.refl No _⟩)) ?_
      refine WD.p rfl (fun e w hR hh => by obtain ⟨h77, -⟩ := hh; exact SG.n (o_nil h77 ⟨rfl, Only.refl No _⟩)) ?_
      refine WD.p rfl (fun e w hR hh => by obtain ⟨h78, -⟩ := hh; exact SG.n (o_fa 1 TI92 rfl TI3 rfl h78 ⟨rfl, Only.refl No _⟩)) ?_
      refine WD.p rfl (fun e w hR hh => by obtain ⟨h79, -⟩ := hh; rw [← hwd] at hR; exact SG.n (o_ld TI3 rfl h79 (cell_of (hM.ext hR).cl rfl) ⟨rfl, Only.refl No _⟩)) ?_
      refine WD.p rfl (fun e w hR hh => by obtain ⟨h80, h76, -⟩ := hh; exact SG.n (o_ixB (i := i) TI54 TI58 (h76.trans (by rw [← hlv]; rfl)) h80 hil ⟨rfl, Only.refl No _⟩)) ?_
      refine WD.p rfl (fun e w hR hh => by obtain ⟨h81, -⟩ := hh; rw [← hwd] at hR; exact SG.n (o_ldA TI58 rfl h81 (htc.only hR (fun h => h)) rfl ⟨rfl, Only.refl No _⟩)) ?_
      refine WD.q (fun v w => ∃ c, wd.heap.size ≤ c ∧ v = .pointer (some ⟨c, 0, none⟩) ∧ w.heap[c]? = some (.cells (tokV tk0) 58 (0, 0))) (fun v w w2 hR hh => by obtain ⟨c, h1, h2, h3⟩ := hh; exact ⟨c, h1, h2, hR.blk h3 (fun h => h)⟩) rfl (fun e w hR hh => by skip; rw [← hwd] at hR; exact SG.n (o_alB TI58 (fun w' h1 h2 h3 => ⟨⟨w.heap.size, hR.size, rfl, h1⟩, h2⟩))) ?_
      rintro e w hR ⟨h4, h82, h81, h80, h79, h78, h77, h76, h75, h74, h73, h0, h3, -⟩
      rw [← hwd] at hR
      replace hM := hM.ext hR
      replace hO := hO.ext hR
      obtain ⟨c4, hc4, h4, hC4z⟩ := h4
      have hpl : p < wd.heap.size := (Array.getElem?_eq_some_iff.1 hcellp).1
      have hpl4 : ¬ c4 = p := fun he => by omega
      have hHc4 : H ≤ c4 := by have := hMle0; omega
      have hlvl : ∀ b, lv.ownBlock = some b → b < c4 := fun b hb => by have := hM.lt b hb; omega
      have hsv4 : ∀ b, sv2.ownBlock = some b → ¬ b = c4 := fun b hb he => by have := hsl0 b hb; omega
      have hov4 : ∀ b, ov2.ownBlock = some b → ¬ b = c4 := fun b hb he => by have := hol0 b hb; omega
      refine WL.u (o_stA TI58 h4 (show _ = Value.agg (tokV (tkA T i)) from h82) rfl rfl hC4z rfl ?_)
      intro w7 hC4 ho7 hs7
      replace hM : RdM w7 H p lv sv2 ov2 T ⟨i, S, o, d⟩ := ⟨ho7.blk hM.cl (fun h => hpl4 h.symm), own_only hM.toks ho7 (fun b hb he => by have := hlvl b hb; omega), own_only hM.sn ho7 (fun b hb he => hsv4 b hb he), own_only hM.on ho7 (fun b hb he => hov4 b hb he), hM.hp, hM.lt, by have := hM.le; omega⟩
      replace hO := hO.trans' ho7 (fun _ h => h) (fun k _ he => by subst he; exact hHc4)
      have h3v := h3
      refine WL.nil ?_
      refine W.seq ?_
      refine W.seq ?_
      refine W.region ?_
      refine WL.c rfl (o_mvh h3 ?_)
      refine WL.nil ?_
      refine W.block ?_
      refine W.seq ?_
      refine W.region ?_
      refine WL.c rfl (o_eqT rfl rfl ?_)
      refine WL.c rfl (o_ash (show _ = Value.bool _ from rfl) ?_)
      refine WL.nil ?_
      refine W.condF' rfl (tk_ne hok (by decide)) ?_
      refine W.seq ?_
      refine W.region ?_
      refine WL.c rfl (o_eqT rfl rfl ?_)
      refine WL.c rfl (o_ash (show _ = Value.bool _ from rfl) ?_)
      refine WL.nil ?_
      refine W.condF' rfl (tk_ne hok (by decide)) ?_
      refine W.seq ?_
      refine W.region ?_
      refine WL.c rfl (o_eqT rfl rfl ?_)
      refine WL.c rfl (o_ash (show _ = Value.bool _ from rfl) ?_)
      refine WL.nil ?_
      refine W.condF' rfl (tk_ne hok (by decide)) ?_
      refine W.seq ?_
      refine W.region ?_
      refine WL.c rfl (o_eqT rfl rfl ?_)
      refine WL.c rfl (o_ash (show _ = Value.bool _ from rfl) ?_)
      refine WL.nil ?_
      refine W.condF' rfl (tk_ne hok (by decide)) ?_
      refine W.seq ?_
      refine W.seq ?_
      refine W.region ?_
      refine WL.c rfl (o_eqT rfl rfl ?_)
      refine WL.c rfl (o_ash (show _ = Value.bool _ from rfl) ?_)
      refine WL.nil ?_
      refine W.condF' rfl (tk_ne hok (by decide)) ?_
      refine W.region ?_
      refine WL.c rfl (o_eqT rfl rfl ?_)
      refine WL.c rfl (o_ash (show _ = Value.bool _ from rfl) ?_)
      refine WL.nil ?_
      refine W.condF' rfl (tk_ne hok (by decide)) ?_
      refine W.skip ?_
      refine W.seq ?_
      refine W.seq ?_
      refine W.region ?_
      refine WL.c rfl (o_ldA TI58 rfl h4 (show Cells _ c4 0 (tokV (tkA T i)).toList from Cells.of hC4 0 _ (by simp)) rfl ?_)
      refine WL.c rfl (o_mvh h3 ?_)
      refine WL.c rfl (o_call Try.call67 (lc rfl (lc rfl ln)) ((ris_tk (tkA T i) ss hok _ (hTt i)).mono ?_))
      rintro v176 w176 ⟨rfl, hx176⟩
      replace hM := hM.ext hx176
      replace hO := hO.ext hx176
      replace hC4 := hx176.blk hC4 (fun h => h)
      refine WL.c rfl (o_not' rfl ?_)
      refine WL.nil ?_
      refine W.cond rfl (fun c177 => ?_) (fun c177 => ?_)
      · try simp only [decide_eq_true_eq, decide_eq_false_iff_not, Bool.not_eq_true', Bool.not_eq_false', Bool.and_eq_true, Bool.or_eq_true, Bool.and_eq_false_iff, Bool.or_eq_false_iff] at c177
        have hno := c177
        refine W.seq ?_
        refine W.region ?_
        refine WL.c rfl (o_ash (show _ = Value.int _ _ from rfl) ?_)
        refine WL.nil ?_
        refine W.ret ?_
        refine ret1v rfl (show _ = Value.int _ _ from rfl) ?_
        exact ⟨hO, res_er (e := 60) (by simp_all [stepF]) rfl hM⟩
      · try simp only [decide_eq_true_eq, decide_eq_false_iff_not, Bool.not_eq_true', Bool.not_eq_false', Bool.and_eq_true, Bool.or_eq_true, Bool.and_eq_false_iff, Bool.or_eq_false_iff] at c177
        have hno := c177
        refine W.skip ?_
        refine W.seq ?_
        refine W.region ?_
        refine WL.c rfl (o_mvh h0 ?_)
        refine WL.c rfl (o_nil rfl ?_)
        refine WL.c rfl (o_fa 1 TI92 rfl TI3 rfl rfl ?_)
        refine WL.c rfl (o_ld TI3 rfl rfl (cell_of hM.cl rfl) ?_)
        refine WL.c rfl (o_addi rfl rfl (by omega) ?_)
        refine WL.c rfl (o_nil rfl ?_)
        refine WL.c rfl (o_fa 1 TI92 rfl TI3 rfl rfl ?_)
        refine WL.u (o_stB TI3 rfl (show _ = Value.int .i64 ((i : Int) + 1) from rfl) rfl hM.cl (show 1 < 5 by decide) ?_)
        intro wz hBn hon hsn
        replace hO := hM.hO hO hon
        replace hM := hM.put (i := i + 1) hBn hon hM.sn hM.on
        refine WL.nil ?_
        refine W.seq ?_
        refine W.region ?_
        refine WL.c rfl (o_ash (show _ = Value.int _ _ from rfl) ?_)
        refine WL.nil ?_
        refine W.ret ?_
        refine ret1v rfl (show _ = Value.int _ _ from rfl) ?_
        exact ⟨hO, res_go (s := ⟨i + 1, S, o, d⟩) (by simp_all [stepF]) rfl hM⟩
end Go.Proofs.Ytcljkkfpcomdcaa
