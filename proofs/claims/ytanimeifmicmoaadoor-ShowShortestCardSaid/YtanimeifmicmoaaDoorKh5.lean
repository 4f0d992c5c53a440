/-
  Walks and lemmas. Written by program out of specs of mine.
-/
import Derived.WalkKit
import Derived.WalkSpells
import Derived.WalkLawsBesides
import Derived.Deep.Quiet
import Derived.StillTail
import Derived.StringKeys
import Derived.Laws.StructEq
import Derived.Laws.Externs
import Derived.Laws.Tables
import Derived.Scope
import Derived.Test.YtanimeifmicmoaaDoorProg
import Derived.Laws.AppendOwn
import Derived.Maps.AppendAt
import Derived.Recover
import Derived.Lib.Bytealg
import Derived.SizedLaws
import Derived.ChangeArms
import Derived.ChangeSlices
import Derived.Lib.Builder
import Derived.Lib.UnsafeStr
import Derived.Shelf.Strconv.Itoa0
import Derived.Shelf.Strconv.Itoa1
import Derived.Shelf.LaysM
import Derived.Shelf.Strconv.Itoa2
import Derived.Shelf.Strconv.Itoa3
import Derived.Test.YtanimeifmicmoaaDoorRows
import Derived.ProofKit
import Derived.OpenShut
import Derived.ShutString
import Derived.ChangeOld
import Derived.Below
import Derived.JoinedCond
import Derived.SliceStrings
import Derived.Test.YtanimeifmicmoaaDoorCards
import Derived.Test.YtanimeifmicmoaaDoorTie
import Derived.Deep.DeepHandedRow
import Derived.Lib.LaidTab
import Derived.Test.YtanimeifmicmoaaDoorKh4
set_option linter.unusedSimpArgs false
set_option linter.unusedVariables false
set_option maxRecDepth 100000
set_option linter.unusedSimpArgs false
set_option linter.unusedVariables false
set_option maxRecDepth 100000
namespace Go.Proofs.YtanimeifmicmoaaDoor
open Go Go.Vc Go.RowKit Go.Proofs
/-- blanks and remarks; does a remark stand open at the end? -/
def gapS : Bool → List UInt8 → Option Bool
  | rm, [] => some rm
  | true, c :: cs => gapS (!decide (c.toNat = 10)) cs
  | false, c :: cs => if c.toNat = 35 then gapS true cs else if blankB c then gapS false cs else none
theorem gap_skip (xs : List UInt8) (m : Nat) (hm : m ≤ xs.length) (j : Nat) (hj : j ≤ m) (rm : Bool) (h : gapS rm ((xs.take m).drop j) = some false) : cutL xs (if rm then runL nnlB xs j else j) = cutL xs m := by
  by_cases hl : j < m
  · have h3 : j < (xs.take m).length := by simp; omega
    have hx : j < xs.length := by omega
    have hd : (xs.take m).drop j = xs[j] :: (xs.take m).drop (j + 1) := by
      rw [← List.getElem_cons_drop h3]; simp
    have hc := cutL_eq xs j
    rw [dif_pos hx] at hc
    rw [hd] at h
    cases rm with
    | true =>
      rw [gapS] at h
      by_cases h10 : (xs[j]).toNat = 10
      · simp [h10] at h
        have ih := gap_skip xs m hm (j + 1) (by omega) false h
        rw [if_pos rfl, runL_stop hx (by simp [nnlB, h10]), hc, if_neg (by omega), if_pos (by simp [blankB, h10])]
        exact ih
      · simp [h10] at h
        have ih := gap_skip xs m hm (j + 1) (by omega) true h
        rw [if_pos rfl, runL_go hx (by simp [nnlB, h10])]
        exact ih
    | false =>
      rw [gapS] at h
      rw [if_neg (by decide), hc]
      by_cases h35 : (xs[j]).toNat = 35
      · rw [if_pos h35] at h ⊢
        exact gap_skip xs m hm (j + 1) (by omega) true h
      · rw [if_neg h35] at h ⊢
        by_cases hb : blankB xs[j] = true
        · rw [if_pos hb] at h ⊢
          exact gap_skip xs m hm (j + 1) (by omega) false h
        · rw [if_neg hb] at h; cases h
  · have : j = m := by omega
    subst this
    rw [List.drop_eq_nil_of_le (by simp; omega)] at h
    cases rm with
    | true => cases h
    | false => rfl
termination_by m - j
theorem take_get {xs zs : List UInt8} {a k : Nat} (hp : zs.take a = xs.take a) (hk : k < a) (hx : k < xs.length) (hz : k < zs.length) : zs[k] = xs[k] := by
  have h1 : (zs.take a)[k]? = (xs.take a)[k]? := by rw [hp]
  simpa [List.getElem?_take, hk, hx, hz] using h1
theorem runL_stopped {p : UInt8 → Bool} {xs : List UInt8} (k : Nat) (hk : k ≤ xs.length) (h : runL p xs k < xs.length) : p xs[runL p xs k] = false := by
  rcases runL_cases p xs k hk with ⟨h1, h2⟩ | ⟨h1, h2⟩ | h1
  · have hg := runL_go h1 h2
    have := runL_stopped (p := p) (xs := xs) (k + 1) (by omega) (by omega)
    simpa [hg] using this
  · have hs := runL_stop h1 h2
    simpa [hs] using h2
  · rw [runL_end (by omega)] at h; omega
termination_by xs.length - k
theorem runL_front {p : UInt8 → Bool} {xs zs : List UInt8} {a : Nat} (hp : zs.take a = xs.take a) (hx : a ≤ xs.length) (hz : a ≤ zs.length) (k : Nat) (hk : k ≤ a) (hr : runL p xs k ≤ a)
    (hs : zs.length = a ∨ (∃ h : a < zs.length, p zs[a] = false) ∨ runL p xs k < a) : runL p zs k = runL p xs k := by
  by_cases hka : k < a
  · have he := take_get hp hka (by omega) (by omega)
    cases hc : p xs[k] with
    | true =>
      rw [runL_go (by omega) hc] at hr hs ⊢
      rw [runL_go (xs := zs) (by omega) (by rw [he]; exact hc)]
      exact runL_front hp hx hz (k + 1) (by omega) hr hs
    | false => rw [runL_stop (xs := xs) (by omega) hc, runL_stop (xs := zs) (by omega) (by rw [he]; exact hc)]
  · have hka : k = a := by omega
    subst hka
    have h1 := (runL_le (p := p) hx).1
    have h2 : runL p xs k = k := by omega
    rw [h2]
    rcases hs with hs | ⟨h, hs⟩ | hs
    · exact runL_end (by omega)
    · exact runL_stop h hs
    · omega
termination_by a - k
theorem sub_front {xs zs : List UInt8} {a : Nat} (hp : zs.take a = xs.take a) (l h : Nat) (hh : h ≤ a) : sub zs l h = sub xs l h := by
  unfold sub
  have : ∀ ys : List UInt8, ys.take h = (ys.take a).take h := fun ys => by rw [List.take_take, Nat.min_eq_left hh]
  rw [this zs, this xs, hp]
theorem oneL_front {xs zs : List UInt8} {a : Nat} (hp : zs.take a = xs.take a) (hx : a ≤ xs.length) (hz : a ≤ zs.length) (hs : zs.length = a ∨ ∃ h : a < zs.length, goeB zs[a] = false) (k : Nat) (hk : k < a) (hk1 : k < xs.length) (hk2 : k < zs.length)
    (h0 : (oneL xs k hk1).1 = 0) (hf : (oneL xs k hk1).2.fin ≤ a) : oneL zs k hk2 = oneL xs k hk1 := by
  have he := take_get hp hk hk1 hk2
  have st : ∀ p : UInt8 → Bool, (∀ c : UInt8, goeB c = false → p c = false) → runL p xs k ≤ a → runL p zs k = runL p xs k := fun p hp32 hr =>
    runL_front hp hx hz k (by omega) hr (by rcases hs with hs | ⟨h, hs⟩; exact .inl hs; exact .inr (.inl ⟨h, hp32 _ hs⟩))
  unfold oneL at h0 hf ⊢
  rw [he]
  by_cases h1 : letB xs[k] = true
  · rw [if_pos h1] at h0 hf ⊢
    rw [if_pos h1]
    have hr : runL goeB xs k ≤ a := by split at hf <;> exact hf
    have hg := st goeB (fun _ h => h) hr
    rw [hg, sub_front hp _ _ hr]
  · rw [if_neg h1] at h0 hf ⊢
    rw [if_neg h1]
    by_cases h2 : digB xs[k] = true
    · rw [if_pos h2] at h0 hf ⊢
      rw [if_pos h2]
      have hr : runL digB xs k ≤ a := hf
      have hg := st digB (by intro c hc; simp [goeB] at hc; exact hc.1.2) hr
      rw [hg, sub_front hp _ _ hr]
    · rw [if_neg h2] at h0 hf ⊢
      rw [if_neg h2]
      by_cases h3 : markB xs[k] = true
      · rw [if_pos h3] at h0 hf ⊢
        rw [if_pos h3]
        have hr : k + 1 ≤ a := hf
        rw [sub_front hp _ _ hr]
      · rw [if_neg h3] at h0; simp at h0


theorem oneL_in {xs : List UInt8} {k : Nat} {h : k < xs.length} (he : (oneL xs k h).1 = 0) : blankB xs[k] = false ∧ ¬ (xs[k]).toNat = 35 := by
  have h3 : letB xs[k] = true ∨ digB xs[k] = true ∨ markB xs[k] = true := by
    unfold oneL at he
    by_cases h1 : letB xs[k] = true
    · exact .inl h1
    · by_cases h2 : digB xs[k] = true
      · exact .inr (.inl h2)
      · by_cases h3 : markB xs[k] = true
        · exact .inr (.inr h3)
        · rw [if_neg h1, if_neg h2, if_neg h3] at he; cases he
  generalize xs[k] = c at h3
  rw [mark_or] at h3
  simp only [letB, digB, blankB, Bool.and_eq_true, Bool.or_eq_true, decide_eq_true_eq, Bool.or_eq_false_iff, decide_eq_false_iff_not] at h3 ⊢
  omega
/-- blanks, then a token's bytes: cut asx the token -/
theorem put_step (B F T Z : List UInt8) (t' : Tk) (hT : 0 < T.length) (h1 : gapS false F = some false) (hfr : ∀ h, oneL (T ++ Z) 0 h = (0, t')) (hf : t'.fin = T.length) :
    cutL (B ++ F ++ T ++ Z) B.length = (⟨t'.kind, t'.text, t'.n, B.length + F.length + t'.at_, B.length + F.length + T.length⟩ :: (cutL (B ++ F ++ T ++ Z) (B ++ F ++ T).length).1, (cutL (B ++ F ++ T ++ Z) (B ++ F ++ T).length).2) := by
  generalize hX : B ++ F ++ T ++ Z = X
  have hXl : X.length = B.length + F.length + T.length + Z.length := by subst hX; simp; omega
  have e1 : (X.take (B.length + F.length)).drop B.length = F := by
    subst hX
    rw [show B ++ F ++ T ++ Z = (B ++ F) ++ (T ++ Z) by simp, ← List.length_append, List.take_left, List.drop_left]
  have s1 := gap_skip X (B.length + F.length) (by omega) B.length (by omega) false (by rw [e1]; exact h1)
  rw [if_neg (by decide)] at s1
  have hdr : X.drop (B.length + F.length) = T ++ Z := by
    subst hX
    rw [show B ++ F ++ T ++ Z = (B ++ F) ++ (T ++ Z) by simp, ← List.length_append, List.drop_left]
  have hp : B.length + F.length + 0 < X.length := by omega
  have hq : 0 < (X.drop (B.length + F.length)).length := by simp; omega
  have hsh := oneL_shift X (B.length + F.length) 0 hp hq
  have hq2 : oneL (X.drop (B.length + F.length)) 0 hq = (0, t') := by
    have : ∀ (Y : List UInt8) (h : 0 < Y.length), Y = T ++ Z → oneL Y 0 h = (0, t') := by rintro Y h rfl; exact hfr h
    exact this _ _ hdr
  rw [hq2] at hsh
  have hs2 := hsh.2 rfl
  have hone : oneL X (B.length + F.length) (by omega) = (0, shiftT (B.length + F.length) t') := Prod.ext hsh.1 hs2
  obtain ⟨hbl, h35⟩ := oneL_in (by rw [hone])
  have hc := cutL_eq X (B.length + F.length)
  rw [dif_pos (by omega), if_neg h35, if_neg (by simp [hbl]), dif_pos (by rw [hone]), hone] at hc
  have hfin : (shiftT (B.length + F.length) t').fin = B.length + F.length + T.length := by show B.length + F.length + t'.fin = _; rw [hf]
  simp only [hfin] at hc
  rw [s1, hc, show (B ++ F ++ T).length = B.length + F.length + T.length by simp; omega]
  congr 1
  show Tk.mk _ _ _ _ _ :: _ = _
  congr 2
def Stops (Z : List UInt8) : Prop := Z = [] ∨ ∃ c cs, Z = c :: cs ∧ goeB c = false
theorem tok_front {T Z : List UInt8} {t' : Tk} {hT : 0 < T.length} (ho : oneL T 0 hT = (0, t')) (hf : t'.fin = T.length) (hZ : Stops Z) : ∀ h, oneL (T ++ Z) 0 h = (0, t') := by
  intro h
  have := oneL_front (xs := T) (zs := T ++ Z) (a := T.length) (by rw [List.take_left, List.take_length]) (Nat.le_refl _) (by simp) (by
    rcases hZ with rfl | ⟨c, cs, rfl, hg⟩
    · exact .inl (by simp)
    · exact .inr ⟨by simp, by simp [hg]⟩) 0 hT hT h (by rw [ho]) (by rw [ho]; exact Nat.le_of_eq hf)
  rw [this, ho]
def tkey (t : Tk) : Nat × List UInt8 × Nat := (t.kind, t.text, t.n)
end Go.Proofs.YtanimeifmicmoaaDoor

set_option linter.unusedSimpArgs false
set_option linter.unusedVariables false
set_option maxRecDepth 100000
namespace Go.Proofs.YtanimeifmicmoaaDoor
open Go Go.Vc Go.RowKit Go.Proofs

inductive Sy where
  | schema | name | number | type | field | arm | fields | arms | shut
  | tk (k : Nat) (s : List UInt8)
structure Rd where
  at_ : Nat
  stk : List Sy
  opn : List Nat
  defs : Nat
inductive Ou where
  | er (e : Nat)
  | go (s : Rd)
def insS (t : Tk) : List Sy :=
  if t.text = [118, 101, 99, 116, 111, 114] ∨ t.text = [108, 105, 115, 116] then [.tk 3 [60], .type, .tk 3 [44], .number, .tk 3 [62], .shut]
  else if t.text = [111, 112, 116, 105, 111, 110] then [.tk 3 [60], .type, .tk 3 [62], .shut]
  else if t.text = [117, 110, 105, 111, 110] then [.tk 3 [123], .arm, .arms, .shut]
  else if t.text = [115, 116, 114, 117, 99, 116] then [.tk 3 [123], .field, .fields, .shut]
  else []
def isR (t : Tk) (s : List UInt8) : Bool := !decide (t.kind = 2) && decide (t.text = s)
def bgnR (t : Tk) : Bool := decide (t.kind = 1) && !decide (t.text = [116, 121, 112, 101])
def moreO (o : List Nat) : List Nat := (o.headD 0 + 1) :: o.tail
def stepF (T : List Tk) (i : Nat) (y : Sy) (S : List Sy) (o : List Nat) (d : Nat) : Ou :=
  match y with
  | .shut => .go ⟨i, S, o.tail, d⟩
  | .schema => if i = T.length then .go ⟨i, S, o, d⟩ else if isR (tkA T i) [116, 121, 112, 101] = false then .er 60 else if 256 < d + 1 then .er 5 else .go ⟨i, .tk 1 [116, 121, 112, 101] :: .name :: .tk 3 [61] :: .type :: .tk 3 [59] :: .schema :: S, o, d + 1⟩
  | .type => if i = T.length then .er 60 else if bgnR (tkA T i) = false then .er 60 else if 16 < o.length then .er 61 else .go ⟨i + 1, insS (tkA T i) ++ S, if insS (tkA T i) = [] then o else 0 :: o, d⟩
  | .field => if i = T.length then .er 60 else if nmT (tkA T i) = false then .er 60 else if 64 < o.headD 0 + 1 then .er 5 else .go ⟨i, .name :: .tk 3 [58] :: .type :: S, moreO o, d⟩
  | .arm => if i = T.length then .er 60 else if (tkA T i).kind ≠ 2 then .er 60 else if 64 < o.headD 0 + 1 then .er 5 else .go ⟨i, .number :: .tk 3 [58] :: .type :: S, moreO o, d⟩
  | .fields => if i = T.length then .er 60 else if isR (tkA T i) [44] = true then .go ⟨i, .tk 3 [44] :: .field :: .fields :: S, o, d⟩ else .go ⟨i, .tk 3 [125] :: S, o, d⟩
  | .arms => if i = T.length then .er 60 else if isR (tkA T i) [44] = true then .go ⟨i, .tk 3 [44] :: .arm :: .arms :: S, o, d⟩ else .go ⟨i, .tk 3 [125] :: S, o, d⟩
  | .name => if i = T.length then .er 60 else if nmT (tkA T i) = false then .er 60 else .go ⟨i + 1, S, o, d⟩
  | .number => if i = T.length then .er 60 else if (tkA T i).kind ≠ 2 then .er 60 else .go ⟨i + 1, S, o, d⟩
  | .tk _ s => if i = T.length then .er 60 else if isR (tkA T i) s = false then .er 60 else .go ⟨i + 1, S, o, d⟩
def OkY : Sy → List Nat → Prop
  | .field, o => ∃ k o', o = k :: o' ∧ k ≤ 64
  | .arm, o => ∃ k o', o = k :: o' ∧ k ≤ 64
  | .shut, o => ∃ k o', o = k :: o'
  | .tk _ s, _ => s.head? ≠ some 40
  | _, _ => True
inductive Run (T : List Tk) : Rd → Nat → Nat → Nat → Prop
  | fin {i d : Nat} {o : List Nat} : Run T ⟨i, [], o, d⟩ 0 0 i
  | er {i d e : Nat} {y : Sy} {S : List Sy} {o : List Nat} (h : stepF T i y S o d = .er e) (hk : OkY y o) : Run T ⟨i, y :: S, o, d⟩ 1 e i
  | go {i d e k j : Nat} {y : Sy} {S : List Sy} {o : List Nat} {s : Rd} (h : stepF T i y S o d = .go s) (hr : Run T s k e j) (hk : OkY y o) : Run T ⟨i, y :: S, o, d⟩ (k + 1) e j
def Runs (T : List Tk) (s : Rd) (e j : Nat) : Prop := ∃ k, Run T s k e j
theorem Runs.step {T : List Tk} {i d e j : Nat} {y : Sy} {S : List Sy} {o : List Nat} {s : Rd} (h : stepF T i y S o d = .go s) (hr : Runs T s e j) (hy : OkY y o) : Runs T ⟨i, y :: S, o, d⟩ e j := by
  obtain ⟨k, hk⟩ := hr
  exact ⟨k + 1, .go h hk hy⟩
/-- what a parse says, the machine says -/
def Sim {α : Type} (T : List Tk) (r : Pr α) (s : Rd) (c : Nat → Rd) : Prop := match r with
  | .ok _ j => ∀ e q, Runs T (c j) e q → Runs T s e q
  | .bad e j => Runs T s e j
theorem Sim.bind {α β : Type} {T : List Tk} {r : Pr α} {F : α → Nat → Pr β} {s : Rd} {c c2 : Nat → Rd} (h : Sim T r s c) (hF : ∀ a j, r = .ok a j → Sim T (F a j) (c j) c2) : Sim T (r.bind F) s c2 := by
  cases r with
  | ok a j =>
    have h2 := hF a j rfl
    show Sim T (F a j) s c2
    cases hq : F a j with
    | ok b q => rw [hq] at h2; exact fun e p hp => h e p (h2 e p hp)
    | bad e q => rw [hq] at h2; exact h e q h2
  | bad e j => exact h
theorem Sim.go {α : Type} {T : List Tk} {r : Pr α} {i d : Nat} {y : Sy} {S : List Sy} {o : List Nat} {s : Rd} {c : Nat → Rd} (hs : stepF T i y S o d = .go s) (h : Sim T r s c) (hy : OkY y o := by trivial) : Sim T r ⟨i, y :: S, o, d⟩ c := by
  cases r with
  | ok b q => exact fun e p hp => Runs.step hs (h e p hp) hy
  | bad e q => exact Runs.step hs h hy
theorem Sim.er {α : Type} {T : List Tk} {i d e : Nat} {y : Sy} {S : List Sy} {o : List Nat} {c : Nat → Rd} (hs : stepF T i y S o d = .er e) (hy : OkY y o := by trivial) : Sim T (.bad e i : Pr α) ⟨i, y :: S, o, d⟩ c := ⟨1, .er hs hy⟩
theorem Sim.ok {α : Type} {T : List Tk} {a : α} {j : Nat} {s : Rd} {c : Nat → Rd} (h : c j = s) : Sim T (.ok a j) s c := fun e q hq => h ▸ hq
end Go.Proofs.YtanimeifmicmoaaDoor

set_option linter.unusedSimpArgs false
set_option linter.unusedVariables false
set_option maxRecDepth 100000
namespace Go.Proofs.YtanimeifmicmoaaDoor
open Go Go.Vc Go.RowKit Go.Proofs

def mk8 : List (List UInt8) := [[61], [59], [60], [62], [44], [58], [123], [125]]
def wt : Sy → Nat
  | .schema => 0
  | .shut => 0
  | .name => 1
  | .number => 1
  | .type => 1
  | .field => 3
  | .arm => 3
  | .fields => 1
  | .arms => 1
  | .tk _ _ => 1
def wtS : List Sy → Nat
  | [] => 0
  | y :: S => wt y + wtS S
def shuts : List Sy → Nat
  | [] => 0
  | .shut :: S => shuts S + 1
  | _ :: S => shuts S
def okS : Nat → List Sy → Prop
  | _, [] => True
  | _, .shut :: S => okS 5 S
  | _, .schema :: S => S = []
  | b, .fields :: S => 1 ≤ b ∧ (∃ S', S = .shut :: S') ∧ okS (b - 1) S
  | b, .arms :: S => 1 ≤ b ∧ (∃ S', S = .shut :: S') ∧ okS (b - 1) S
  | b, .field :: S => 3 ≤ b ∧ 0 < shuts S ∧ okS (b - 3) S
  | b, .arm :: S => 3 ≤ b ∧ 0 < shuts S ∧ okS (b - 3) S
  | b, .tk k s :: S => k = 3 ∧ s ∈ mk8 ∧ 1 ≤ b ∧ okS (b - 1) S
  | b, .name :: S => 1 ≤ b ∧ okS (b - 1) S
  | b, .number :: S => 1 ≤ b ∧ okS (b - 1) S
  | b, .type :: S => 1 ≤ b ∧ okS (b - 1) S
inductive Rch (T : List Tk) : Rd → Rd → Prop
  | refl {s : Rd} : Rch T s s
  | step {i d : Nat} {y : Sy} {S : List Sy} {o : List Nat} {s s2 : Rd} (h : stepF T i y S o d = .go s) (hy : OkY y o) (hn : ¬ (y = .schema ∧ i = T.length)) (hi : i ≤ T.length) (hr : Rch T s s2) : Rch T ⟨i, y :: S, o, d⟩ s2
theorem Rch.trans {T : List Tk} {a b c : Rd} (h : Rch T a b) (k : Rch T b c) : Rch T a c := by
  induction h with
  | refl => exact k
  | step h hy hn hi _ ih => exact .step h hy hn hi (ih k)
theorem tkA_app {T : List Tk} {t : Tk} {i : Nat} (h : i < T.length) : tkA (T ++ [t]) i = tkA T i := by
  rw [tkA, List.getD_eq_getElem?_getD, List.getElem?_append_left h, tkA, List.getD_eq_getElem?_getD]
theorem step_app {T : List Tk} {t : Tk} {i d : Nat} {y : Sy} {S : List Sy} {o : List Nat} {s : Rd} (h : stepF T i y S o d = .go s) (hn : ¬ (y = .schema ∧ i = T.length)) (hi : i ≤ T.length) : stepF (T ++ [t]) i y S o d = .go s := by
  by_cases he : i = T.length
  · cases y <;> simp only [stepF, if_pos he] at h <;> first | (cases h; done) | exact h | exact absurd ⟨rfl, he⟩ hn
  · have hl : i < T.length := by omega
    have h1 : ¬ i = (T ++ [t]).length := by simp; omega
    cases y <;> simp only [stepF, if_neg he, if_neg h1, tkA_app hl] at h ⊢ <;> exact h
theorem Rch.app {T : List Tk} {t : Tk} {a b : Rd} (h : Rch T a b) : Rch (T ++ [t]) a b := by
  induction h with
  | refl => exact .refl
  | step h hy hn hi _ ih => exact .step (step_app h hn hi) hy (fun hh => by have := hh.2; simp at this; omega) (by simp; omega) ih
/-- a state at the end that something must follow -/
structure StkE (y : Sy) (S : List Sy) (o : List Nat) : Prop where
  pos : 0 < wt y
  ok : okS 5 (y :: S)
  sh : shuts (y :: S) = o.length
  len : o.length ≤ 17
  val : ∀ k ∈ o, k ≤ 64
theorem StkE.oky {y : Sy} {S : List Sy} {o : List Nat} (h : StkE y S o) : OkY y o := by
  obtain ⟨hp, hok, hsh, hln, hvl⟩ := h
  have h1 : 0 < shuts S → shuts S = o.length → ∃ k o', o = k :: o' ∧ k ≤ 64 := fun h1 h2 => by
    cases o with
    | nil => simp only [List.length_nil] at h2; omega
    | cons k o => exact ⟨k, o, rfl, hvl k (List.mem_cons_self ..)⟩
  cases y <;> simp only [wt] at hp <;> simp only [okS] at hok <;> simp only [shuts] at hsh <;> simp only [OkY]
  case field => exact h1 hok.2.1 hsh
  case arm => exact h1 hok.2.1 hsh
  case tk k s => obtain ⟨-, h, -⟩ := hok; simp only [mk8, List.mem_cons, List.not_mem_nil, or_false] at h; rcases h with rfl | rfl | rfl | rfl | rfl | rfl | rfl | rfl <;> decide
  all_goals omega
/-- .. at the end, with nothing that must follow, it is done; else it is stuck -/
theorem settle {T : List Tk} : ∀ (S : List Sy) (o : List Nat) (d : Nat), okS 5 S → shuts S = o.length → o.length ≤ 17 → (∀ k ∈ o, k ≤ 64) → Runs T ⟨T.length, S, o, d⟩ 0 T.length ∨ ∃ y S' o', StkE y S' o' ∧ wtS (y :: S') ≤ wtS S ∧ Rch T ⟨T.length, S, o, d⟩ ⟨T.length, y :: S', o', d⟩ ∧ Runs T ⟨T.length, S, o, d⟩ 60 T.length
  | [], o, d, _, _, _, _ => .inl ⟨0, .fin⟩
  | y :: S, o, d, hok, hsh, hln, hvl => by
    by_cases hp : 0 < wt y
    · refine .inr ⟨y, S, o, ⟨hp, hok, hsh, hln, hvl⟩, Nat.le_refl _, .refl, ?_⟩
      refine ⟨1, .er ?_ (StkE.oky ⟨hp, hok, hsh, hln, hvl⟩)⟩
      cases y <;> first | (simp [stepF]; done) | (simp only [wt] at hp; omega)
    · cases y <;> simp only [wt] at hp <;> first | omega | skip
      · simp only [okS] at hok
        subst hok
        exact .inl ⟨1, .go (s := ⟨T.length, [], o, d⟩) (by simp [stepF]) .fin trivial⟩
      · simp only [okS] at hok
        simp only [shuts] at hsh
        cases o with
        | nil => simp only [List.length_nil] at hsh; omega
        | cons k o =>
          have hst : stepF T T.length .shut S (k :: o) d = .go ⟨T.length, S, o, d⟩ := rfl
          rcases settle S o d hok (by simpa using hsh) (by simp only [List.length_cons] at hln; omega) (fun m hm => hvl m (List.mem_cons_of_mem _ hm)) with h | ⟨y, S', o', h1, h2, h3, h4⟩
          · exact .inl (Runs.step hst h ⟨_, _, rfl⟩)
          · exact .inr ⟨y, S', o', h1, by simp only [wtS, wt] at h2 ⊢; omega, .step hst ⟨_, _, rfl⟩ (fun h => by cases h.1) (Nat.le_refl _) h3, Runs.step hst h4 ⟨_, _, rfl⟩⟩
end Go.Proofs.YtanimeifmicmoaaDoor

set_option linter.unusedSimpArgs false
set_option linter.unusedVariables false
set_option maxRecDepth 100000
namespace Go.Proofs.YtanimeifmicmoaaDoor
open Go Go.Vc Go.RowKit Go.Proofs

mutual
inductive Tr where
  | node (y : Ex) (ks : Trs)
inductive Trs where
  | nil
  | cons (t : Tr) (ts : Trs)
end
def Tr.top : Tr → Ex
  | .node y _ => y
def Trs.len : Trs → Nat
  | .nil => 0
  | .cons _ ts => ts.len + 1
mutual
def Tr.flat : Tr → List Ex
  | .node y ks => y :: ks.flat
def Trs.flat : Trs → List Ex
  | .nil => []
  | .cons t ts => t.flat ++ ts.flat
end
mutual
def Tr.wf (above : Int) (deep : Nat) : Tr → Prop
  | .node y ks => deep ≤ 16 ∧ manyB y = false ∧ rightB y above = true ∧ (ks.len : Int) = y.kids ∧ ks.wf y.kind (deep + 1)
def Trs.wf (above : Int) (deep : Nat) : Trs → Prop
  | .nil => True
  | .cons t ts => t.wf above deep ∧ ts.wf above deep
end
theorem chk_tr : ∀ (n : Nat) (L : List Ex), L.length ≤ n → ∀ (o : Opn) (S : List Opn) (k deep : Nat), 0 < o.left → o.deep = (deep : Int) → (chkE (o :: S) k L).2 = 0 →
    ∃ t rest, L = Tr.flat t ++ rest ∧ t.wf o.kind deep ∧ (chkE ({ o with left := o.left - 1 } :: S) (k + (Tr.flat t).length) rest).2 = 0 := by
  intro n
  induction n with
  | zero =>
    intro L hL o S k deep hl hd h
    have : L = [] := List.eq_nil_of_length_eq_zero (by omega)
    subst this
    rw [chkE_nil, if_pos (by simp [leftB, hl])] at h
    cases h
  | succ n ih =>
    intro L hL o S k deep hl hd h
    cases L with
    | nil =>
      rw [chkE_nil, if_pos (by simp [leftB, hl])] at h
      cases h
    | cons x xs =>
      rw [chkE_o (popZ_n (by omega))] at h
      by_cases h16 : 16 < o.deep
      · rw [if_pos h16] at h; cases h
      · rw [if_neg h16] at h
        by_cases hm : manyB x = true
        · rw [if_pos hm] at h; cases h
        · rw [if_neg hm] at h
          by_cases hr : rightB x o.kind = false
          · rw [if_pos hr] at h; cases h
          · rw [if_neg hr] at h
            have hm : manyB x = false := by simpa using hm
            have hr : rightB x o.kind = true := by simpa using hr
            obtain ⟨hk0, hk1⟩ := rightB_kids hr hm
            -- the kids
            have many : ∀ (m : Nat) (M : List Ex), M.length ≤ n → ∀ (o2 : Opn) (S2 : List Opn) (k2 : Nat), o2.left = (m : Int) → o2.deep = ((deep + 1 : Nat) : Int) → (chkE (o2 :: S2) k2 M).2 = 0 →
                ∃ ts rest, M = Trs.flat ts ++ rest ∧ ts.wf o2.kind (deep + 1) ∧ ts.len = m ∧ (chkE ({ o2 with left := 0 } :: S2) (k2 + (Trs.flat ts).length) rest).2 = 0 := by
              intro m
              induction m with
              | zero =>
                intro M hM o2 S2 k2 h1 h2 h3
                refine ⟨.nil, M, rfl, trivial, rfl, ?_⟩
                have : ({ o2 with left := 0 } : Opn) = o2 := by obtain ⟨a, b, c⟩ := o2; simp only at h1; simp [h1]
                rw [this]; exact h3
              | succ m ihm =>
                intro M hM o2 S2 k2 h1 h2 h3
                obtain ⟨t, rest, rfl, g2, g3⟩ := ih M hM o2 S2 k2 (deep + 1) (by omega) h2 h3
                have hlen : rest.length ≤ n := by rw [List.length_append] at hM; omega
                obtain ⟨ts, rest2, rfl, e2, e3, e4⟩ := ihm rest hlen { o2 with left := o2.left - 1 } S2 _ (by simp only; omega) h2 g3
                exact ⟨.cons t ts, rest2, by simp [Trs.flat], ⟨g2, e2⟩, by simp only [Trs.len, e3], by simp only [Trs.flat, List.length_append]; rw [← Nat.add_assoc]; exact e4⟩
            obtain ⟨ts, rest, rfl, e2, e3, e4⟩ := many x.kids.toNat xs (by simpa using hL) ⟨x.kind, x.kids, o.deep + 1⟩ _ _ (by simp only; omega) (by simp only; omega) h
            refine ⟨.node x ts, rest, by simp [Tr.flat], ⟨by omega, hm, hr, by omega, e2⟩, ?_⟩
            rw [chkE_pz0] at e4
            simp only [Tr.flat, List.length_cons]
            rw [show k + ((Trs.flat ts).length + 1) = k + 1 + (Trs.flat ts).length by omega]
            exact e4
/-- what Check takes is a tree -/
theorem chkT_tr {l : List Ex} (h : (chkT l).2 = 0) : ∃ t : Tr, l = t.flat ∧ t.wf 0 0 := by
  obtain ⟨t, rest, h1, h2, h3⟩ := chk_tr l.length l (Nat.le_refl _) ⟨0, 1, 0⟩ [] 0 0 (by decide) rfl h
  have hr : rest = [] := by
    cases rest with
    | nil => rfl
    | cons x xs =>
      rw [chkE_z (by simp [popZ])] at h3
      cases h3
  subst hr
  exact ⟨t, by rw [h1, List.append_nil], h2⟩
abbrev Key := Nat × List UInt8 × Nat
def kN (s : List UInt8) : Key := (1, s, 0)
def kM (s : List UInt8) : Key := (3, s, 0)
def kD (n : Nat) : Key := (2, [], n)
def uWord (n : Int) : List UInt8 := if n = 1 then [117, 56] else if n = 2 then [117, 49, 54] else if n = 4 then [117, 51, 50] else [117, 54, 52]
def hdK (u : Bool) (y : Ex) : List Key := [if u then kD y.tag.toNat else kN y.label, kM [58]]
mutual
def Tr.keys : Tr → List Key
  | .node y ks =>
    if y.kind = 1 then [kN (uWord y.n)]
    else if y.kind = 2 then [kN [98, 111, 111, 108]]
    else if y.kind = 3 then [kN [118, 97, 114, 105, 110, 116]]
    else if y.kind = 9 then [kN y.name]
    else if y.kind = 4 ∨ y.kind = 5 then kN (if y.kind = 5 then [108, 105, 115, 116] else [118, 101, 99, 116, 111, 114]) :: kM [60] :: (ks.keys ++ [kM [44], kD y.n.toNat, kM [62]])
    else if y.kind = 6 then kN [111, 112, 116, 105, 111, 110] :: kM [60] :: (ks.keys ++ [kM [62]])
    else kN (if y.kind = 7 then [117, 110, 105, 111, 110] else [115, 116, 114, 117, 99, 116]) :: kM [123] :: (ks.rows (decide (y.kind = 7)) ++ [kM [125]])
/-- of types one behind the other -/
def Trs.keys : Trs → List Key
  | .nil => []
  | .cons t ts => t.keys ++ ts.keys
/-- of rows, a comma ahead of each but the first -/
def Trs.rows (u : Bool) : Trs → List Key
  | .nil => []
  | .cons t ts => hdK u t.top ++ t.keys ++ ts.more u
def Trs.more (u : Bool) : Trs → List Key
  | .nil => []
  | .cons t ts => kM [44] :: (hdK u t.top ++ t.keys ++ ts.more u)
end

end Go.Proofs.YtanimeifmicmoaaDoor

set_option linter.unusedSimpArgs false
set_option linter.unusedVariables false
set_option maxRecDepth 100000
namespace Go.Proofs.YtanimeifmicmoaaDoor
open Go Go.Vc Go.RowKit Go.Proofs

mutual
def Tr.idx (i a : Nat) : Tr → List Ex
  | .node y ks => { y with at_ := (a : Int) } :: (if y.kind = 7 ∨ y.kind = 8 then ks.idxR (i + 2) else ks.idxK (i + 2))
def Trs.idxK (i : Nat) : Trs → List Ex
  | .nil => []
  | .cons t ts => t.idx i i ++ ts.idxK (i + t.keys.length)
def Trs.idxR (i : Nat) : Trs → List Ex
  | .nil => []
  | .cons t ts => t.idx (i + 2) i ++ ts.idxR (i + 2 + t.keys.length + 1)
end
def AtK (T : List Tk) (i : Nat) (ks : List Key) : Prop := ∀ k (h : k < ks.length), tkey (tkA T (i + k)) = ks[k]
theorem AtK.cons {T : List Tk} {i : Nat} {a : Key} {ks : List Key} (h : AtK T i (a :: ks)) : tkey (tkA T i) = a ∧ AtK T (i + 1) ks :=
  ⟨h 0 (by simp), fun k hk => by have := h (k + 1) (by simpa using hk); rw [show i + 1 + k = i + (k + 1) by omega]; exact this⟩
theorem AtK.app {T : List Tk} {i : Nat} {a b : List Key} (h : AtK T i (a ++ b)) : AtK T i a ∧ AtK T (i + a.length) b :=
  ⟨fun k hk => by have := h k (by rw [List.length_append]; omega); rw [this, List.getElem_append_left hk], fun k hk => by
    have := h (a.length + k) (by rw [List.length_append]; omega)
    rw [Nat.add_assoc, this, List.getElem_append_right (by omega)]; simp⟩
theorem key_N {t : Tk} {s : List UInt8} (h : tkey t = kN s) : t.kind = 1 ∧ t.text = s ∧ t.n = 0 := by
  simp only [tkey, kN, Prod.mk.injEq] at h; exact h
theorem key_M {t : Tk} {s : List UInt8} (h : tkey t = kM s) : isT t 3 s = true := by
  simp only [tkey, kM, Prod.mk.injEq] at h; simp [isT, h.1, h.2.1]
theorem key_D {t : Tk} {n : Nat} (h : tkey t = kD n) : t.kind = 2 ∧ t.n = n := by
  simp only [tkey, kD, Prod.mk.injEq] at h; exact ⟨h.1, h.2.2⟩
theorem more_rows {u : Bool} {t : Tr} {ts : Trs} : (Trs.cons t ts).more u = kM [44] :: (Trs.cons t ts).rows u := rfl
theorem name_not {s : List UInt8} (h : nameB s = true) : leafE s = none ∧ ¬ (s = [118, 101, 99, 116, 111, 114] ∨ s = [108, 105, 115, 116]) ∧ ¬ s = [111, 112, 116, 105, 111, 110] ∧ ¬ s = [117, 110, 105, 111, 110] ∧ ¬ s = [115, 116, 114, 117, 99, 116] := by
  have h2 : ∀ x ∈ words, ¬ s = x := fun x hx he => by
    subst he
    have : wordB s = true := decide_eq_true hx
    simp [nameB, this] at h
  refine ⟨?_, ?_, h2 _ (by decide), h2 _ (by decide), h2 _ (by decide)⟩
  · unfold leafE
    rw [if_neg (h2 _ (by decide)), if_neg (h2 _ (by decide)), if_neg (h2 _ (by decide)), if_neg (h2 _ (by decide)), if_neg (h2 _ (by decide)), if_neg (h2 _ (by decide))]
  · exact fun h => h.elim (h2 _ (by decide)) (h2 _ (by decide))
theorem okB_cases {x : Ex} (h : okB x = true) : (x.kind = 1 ∧ (x.n = 1 ∨ x.n = 2 ∨ x.n = 4 ∨ x.n = 8) ∧ x.kids = 0) ∨ ((x.kind = 2 ∨ x.kind = 3 ∨ x.kind = 9) ∧ x.n = 0 ∧ x.kids = 0) ∨ ((x.kind = 4 ∨ x.kind = 5) ∧ 0 ≤ x.n ∧ x.n ≤ 2147483647 ∧ x.kids = 1) ∨ (x.kind = 6 ∧ x.n = 0 ∧ x.kids = 1) ∨ ((x.kind = 7 ∨ x.kind = 8) ∧ x.n = 0 ∧ 1 ≤ x.kids) := by
  unfold okB at h
  repeat' split at h
  all_goals first | (cases h; done) | (simp only [Bool.and_eq_true, Bool.or_eq_true, decide_eq_true_eq] at h; omega)
theorem trs_one {ts : Trs} (h : ts.len = 1) : ∃ t, ts = .cons t .nil := by
  cases ts with
  | nil => cases h
  | cons t ts => cases ts with
    | nil => exact ⟨t, rfl⟩
    | cons t2 ts2 => simp only [Trs.len] at h; omega
theorem trs_nil {ts : Trs} (h : ts.len = 0) : ts = .nil := by
  cases ts with
  | nil => rfl
  | cons t ts => simp only [Trs.len] at h; omega
theorem rightB_iff {x : Ex} {a : Int} (h : rightB x a = true) : okB x = true ∧ namB x = true ∧ labB x a = true ∧ tagB x a = true := by
  simp only [rightB, Bool.and_eq_true] at h; exact ⟨h.1.1.1, h.1.1.2, h.1.2, h.2⟩
mutual
theorem px_tr {T : List Tk} : ∀ (t : Tr) (above : Int) (deep i a : Nat) (x : Ex), t.wf above deep → AtK T i t.keys → atE i x = ⟨0, 0, [], t.top.label, t.top.tag, 0, (a : Int)⟩ → PX T none deep i x (t.idx i a) 0 (i + t.keys.length)
  | .node y ks, above, deep, i, a, x, hw, hk, hx => by
    obtain ⟨hd, hm, hr, hl, hks⟩ := hw
    obtain ⟨hok, hnm, -, -⟩ := rightB_iff hr
    simp only [Tr.top] at hx
    rcases okB_cases hok with ⟨k1, hn, k0⟩ | ⟨k1, hn, k0⟩ | ⟨k1, hn, hn2, k0⟩ | ⟨k1, hn, k0⟩ | ⟨k1, hn, k0⟩
    · have hnil := trs_nil (ts := ks) (by omega)
      subst hnil
      simp only [Tr.keys, if_pos k1] at hk ⊢
      obtain ⟨h1, h2, -⟩ := key_N hk.cons.1
      have hname : y.name = [] := by unfold namB at hnm; rw [if_neg (by omega)] at hnm; simpa using hnm
      have hlf : leafE (tkA T i).text = some (1, y.n) := by rw [h2]; rcases hn with e | e | e | e <;> (rw [e]; rfl)
      have hb : bgnT (tkA T i) = true := by simp [bgnT, h1, hlf]
      have hN : [(atE i x).lf 1 y.n] = Tr.idx i a (.node y .nil) := by
        rw [hx]; obtain ⟨a1, a2, a3, a4, a5, a6, a7⟩ := y
        simp only at k1 k0 hname; subst k1 k0 hname; simp [Tr.idx, Trs.idxK, Ex.lf]
      rw [← hN]
      exact .leaf (kn := (1, y.n)) hb hd hlf
    · have hnil := trs_nil (ts := ks) (by omega)
      subst hnil
      rcases k1 with k1 | k1 | k1
      · simp only [Tr.keys, if_neg (show ¬ y.kind = 1 by omega), if_pos k1] at hk ⊢
        obtain ⟨h1, h2, -⟩ := key_N hk.cons.1
        have hname : y.name = [] := by unfold namB at hnm; rw [if_neg (by omega)] at hnm; simpa using hnm
        have hlf : leafE (tkA T i).text = some (2, 0) := by rw [h2]; rfl
        have hb : bgnT (tkA T i) = true := by simp [bgnT, h1, hlf]
        have hN : [(atE i x).lf 2 0] = Tr.idx i a (.node y .nil) := by
          rw [hx]; obtain ⟨a1, a2, a3, a4, a5, a6, a7⟩ := y
          simp only at k1 k0 hname hn; subst k1 k0 hname hn; simp [Tr.idx, Trs.idxK, Ex.lf]
        rw [← hN]
        exact .leaf (kn := (2, 0)) hb hd hlf
      · simp only [Tr.keys, if_neg (show ¬ y.kind = 1 by omega), if_neg (show ¬ y.kind = 2 by omega), if_pos k1] at hk ⊢
        obtain ⟨h1, h2, -⟩ := key_N hk.cons.1
        have hname : y.name = [] := by unfold namB at hnm; rw [if_neg (by omega)] at hnm; simpa using hnm
        have hlf : leafE (tkA T i).text = some (3, 0) := by rw [h2]; rfl
        have hb : bgnT (tkA T i) = true := by simp [bgnT, h1, hlf]
        have hN : [(atE i x).lf 3 0] = Tr.idx i a (.node y .nil) := by
          rw [hx]; obtain ⟨a1, a2, a3, a4, a5, a6, a7⟩ := y
          simp only at k1 k0 hname hn; subst k1 k0 hname hn; simp [Tr.idx, Trs.idxK, Ex.lf]
        rw [← hN]
        exact .leaf (kn := (3, 0)) hb hd hlf
      · simp only [Tr.keys, if_neg (show ¬ y.kind = 1 by omega), if_neg (show ¬ y.kind = 2 by omega), if_neg (show ¬ y.kind = 3 by omega), if_pos k1] at hk ⊢
        obtain ⟨h1, h2, -⟩ := key_N hk.cons.1
        have hname : nameB y.name = true := by unfold namB at hnm; rw [if_pos k1] at hnm; exact hnm
        obtain ⟨n1, n2, n3, n4, n5⟩ := name_not hname
        have hb : bgnT (tkA T i) = true := by simp [bgnT, h1, h2, hname]
        have hN : [(atE i x).nm (tkA T i).text] = Tr.idx i a (.node y .nil) := by
          rw [hx, h2]; obtain ⟨a1, a2, a3, a4, a5, a6, a7⟩ := y
          simp only at k1 k0 hn; subst k1 k0 hn; simp [Tr.idx, Trs.idxK, Ex.nm]
        rw [← hN]
        exact .nm hb hd (by rw [h2]; exact n1) (by rw [h2]; exact n2) (by rw [h2]; exact n3) (by rw [h2]; exact n4) (by rw [h2]; exact n5)
    · obtain ⟨t, rfl⟩ := trs_one (ts := ks) (by omega)
      simp only [Tr.keys, if_neg (show ¬ y.kind = 1 by omega), if_neg (show ¬ y.kind = 2 by omega), if_neg (show ¬ y.kind = 3 by omega), if_neg (show ¬ y.kind = 9 by omega), if_pos k1, Trs.keys, List.append_nil] at hk ⊢
      obtain ⟨q1, hk⟩ := hk.cons
      obtain ⟨q2, hk⟩ := hk.cons
      obtain ⟨hkt, hk⟩ := hk.app
      obtain ⟨q3, hk⟩ := hk.cons
      obtain ⟨q4, hk⟩ := hk.cons
      obtain ⟨q5, -⟩ := hk.cons
      obtain ⟨h1, h2, -⟩ := key_N q1
      obtain ⟨d1, d2⟩ := key_D q4
      have hv : (tkA T i).text = [118, 101, 99, 116, 111, 114] ∨ (tkA T i).text = [108, 105, 115, 116] := by rw [h2]; by_cases e : y.kind = 5 <;> simp [e]
      have hlf : leafE (tkA T i).text = none := by rcases hv with e | e <;> (rw [e]; rfl)
      have hb : bgnT (tkA T i) = true := by rcases hv with e | e <;> simp [bgnT, h1, e]
      have hname : y.name = [] := by unfold namB at hnm; rw [if_neg (by omega)] at hnm; simpa using hnm
      have hkid := px_tr t y.kind (deep + 1) (i + 2) (i + 2) exM hks.1 hkt (by
        obtain ⟨-, -, g1, g2⟩ := rightB_iff (show rightB t.top y.kind = true by cases t; exact hks.1.2.2.1)
        unfold labB at g1; rw [if_neg (by omega)] at g1
        have e1 : t.top.label = [] := by simpa using g1
        have e2 : t.top.tag = 0 := by
          unfold tagB at g2
          simp only [Bool.or_eq_true, Bool.and_eq_true, decide_eq_true_eq] at g2
          rcases g2 with g2 | g2
          · exact g2
          · omega
        rw [e1, e2]; rfl)
      have hN : (atE i x).vec (decide ((tkA T i).text = [108, 105, 115, 116])) (tkA T (i + 2 + t.keys.length + 1)).n :: t.idx (i + 2) (i + 2) = Tr.idx i a (.node y (.cons t .nil)) := by
        have hdl : decide ((tkA T i).text = [108, 105, 115, 116]) = decide (y.kind = 5) := by rw [h2]; by_cases e : y.kind = 5 <;> simp [e]
        rw [hdl, d2, hx]
        simp only [Tr.idx, Trs.idxK, if_neg (show ¬ (y.kind = 7 ∨ y.kind = 8) by omega), List.append_nil, Ex.vec]
        congr 1
        obtain ⟨a1, a2, a3, a4, a5, a6, a7⟩ := y
        simp only at k1 k0 hname hn hn2 ⊢
        subst k0 hname
        rw [Ex.mk.injEq]
        refine ⟨?_, by omega, rfl, rfl, rfl, rfl, rfl⟩
        rcases k1 with e | e <;> simp [e]
      rw [← hN]
      have := PX.vec (x := x) hb hd hlf hv (key_M q2) hkid (key_M q3) d1 (key_M q5)
      simp only [List.length_cons, List.length_append, List.length_nil]
      rw [show i + (t.keys.length + (0 + 1 + 1 + 1) + 1 + 1) = i + 2 + t.keys.length + 3 by omega]
      exact this
    · obtain ⟨t, rfl⟩ := trs_one (ts := ks) (by omega)
      simp only [Tr.keys, if_neg (show ¬ y.kind = 1 by omega), if_neg (show ¬ y.kind = 2 by omega), if_neg (show ¬ y.kind = 3 by omega), if_neg (show ¬ y.kind = 9 by omega), if_neg (show ¬ (y.kind = 4 ∨ y.kind = 5) by omega), if_pos k1, Trs.keys, List.append_nil] at hk ⊢
      obtain ⟨q1, hk⟩ := hk.cons
      obtain ⟨q2, hk⟩ := hk.cons
      obtain ⟨hkt, hk⟩ := hk.app
      obtain ⟨q3, -⟩ := hk.cons
      obtain ⟨h1, h2, -⟩ := key_N q1
      have hlf : leafE (tkA T i).text = none := by rw [h2]; rfl
      have hb : bgnT (tkA T i) = true := by simp [bgnT, h1, h2]
      have hname : y.name = [] := by unfold namB at hnm; rw [if_neg (by omega)] at hnm; simpa using hnm
      have hkid := px_tr t y.kind (deep + 1) (i + 2) (i + 2) exM hks.1 hkt (by
        obtain ⟨-, -, g1, g2⟩ := rightB_iff (show rightB t.top y.kind = true by cases t; exact hks.1.2.2.1)
        unfold labB at g1; rw [if_neg (by omega)] at g1
        have e1 : t.top.label = [] := by simpa using g1
        have e2 : t.top.tag = 0 := by
          unfold tagB at g2
          simp only [Bool.or_eq_true, Bool.and_eq_true, decide_eq_true_eq] at g2
          rcases g2 with g2 | g2
          · exact g2
          · omega
        rw [e1, e2]; rfl)
      have hN : (atE i x).opt :: t.idx (i + 2) (i + 2) = Tr.idx i a (.node y (.cons t .nil)) := by
        rw [hx]
        simp only [Tr.idx, Trs.idxK, if_neg (show ¬ (y.kind = 7 ∨ y.kind = 8) by omega), List.append_nil, Ex.opt]
        congr 1
        obtain ⟨a1, a2, a3, a4, a5, a6, a7⟩ := y
        simp only at k1 k0 hname hn ⊢
        subst k0 hname hn k1
        rfl
      rw [← hN]
      have := PX.opt (x := x) hb hd hlf h2 (key_M q2) hkid (key_M q3)
      simp only [List.length_cons, List.length_append, List.length_nil]
      rw [show i + (t.keys.length + (0 + 1) + 1 + 1) = i + 2 + t.keys.length + 1 by omega]
      exact this
    · have hm64 : y.kids ≤ 64 := (rightB_kids hr hm).2
      obtain ⟨u, hu⟩ : ∃ u : Bool, u = decide (y.kind = 7) := ⟨_, rfl⟩
      have hku : y.kind = if u then 7 else 8 := by rcases k1 with e | e <;> simp [hu, e]
      simp only [Tr.keys, if_neg (show ¬ y.kind = 1 by omega), if_neg (show ¬ y.kind = 2 by omega), if_neg (show ¬ y.kind = 3 by omega), if_neg (show ¬ y.kind = 9 by omega), if_neg (show ¬ (y.kind = 4 ∨ y.kind = 5) by omega), if_neg (show ¬ y.kind = 6 by omega), ← hu] at hk ⊢
      obtain ⟨q1, hk⟩ := hk.cons
      obtain ⟨q2, hk⟩ := hk.cons
      obtain ⟨h1, h2, -⟩ := key_N q1
      have hw2 : (tkA T i).text = if u then [117, 110, 105, 111, 110] else [115, 116, 114, 117, 99, 116] := by rw [h2]; rcases k1 with e | e <;> simp [hu, e]
      have hlf : leafE (tkA T i).text = none := by rw [hw2]; cases u <;> rfl
      have hb : bgnT (tkA T i) = true := by rw [bgnT, hw2]; cases u <;> simp [h1]
      have hname : y.name = [] := by unfold namB at hnm; rw [if_neg (by omega)] at hnm; simpa using hnm
      have hrow := px_trs ks u deep (i + 2) 0 (fun e => by rw [e] at hl; simp only [Trs.len] at hl; omega) (by omega) (by rw [← hku]; exact hks) hk
      have hN : (atE i x).br u ((0 + ks.len : Nat) : Int) :: ks.idxR (i + 2) = Tr.idx i a (.node y ks) := by
        rw [hx]
        simp only [Tr.idx, if_pos k1, Ex.br]
        congr 1
        obtain ⟨a1, a2, a3, a4, a5, a6, a7⟩ := y
        simp only at k1 k0 hname hn hku hl ⊢
        subst hname hn
        rw [Ex.mk.injEq]
        exact ⟨hku.symm, rfl, rfl, rfl, rfl, by omega, rfl⟩
      rw [← hN]
      have := PX.br (x := x) u hb hd hlf hw2 (key_M q2) hrow
      simp only [List.length_cons, List.length_append, List.length_nil]
      rw [show i + ((ks.rows u).length + (0 + 1) + 1 + 1) = i + 2 + (ks.rows u).length + 1 by omega]
      exact this
theorem px_trs {T : List Tk} : ∀ (ts : Trs) (u : Bool) (deep i k : Nat), ts ≠ .nil → k + ts.len ≤ 64 → ts.wf (if u then 7 else 8) (deep + 1) → AtK T i (ts.rows u ++ [kM [125]]) → PX T (some (u, k)) deep i ex0 (ts.idxR i) (k + ts.len) (i + (ts.rows u).length + 1)
  | .nil, u, deep, i, k, hne, _, _, _ => absurd rfl hne
  | .cons t ts, u, deep, i, k, hne, hlen, hw, hk => by
    simp only [Trs.rows, List.append_assoc] at hk ⊢
    obtain ⟨hkh, hk⟩ := hk.app
    have hhl : (hdK u t.top).length = 2 := rfl
    rw [hhl] at hk
    obtain ⟨hkt, hk⟩ := hk.app
    have q1 := hkh.cons.1
    have q2 := hkh.cons.2.cons.1
    have hrt := rightB_iff (show rightB t.top (if u then 7 else 8) = true by cases t; exact hw.1.2.2.1)
    obtain ⟨-, -, g1, g2⟩ := hrt
    have hh : hdOk T u i := by
      cases u
      · obtain ⟨e1, e2, -⟩ := key_N q1
        unfold labB at g1
        have g1 : nameB t.top.label = true := by simpa using g1
        show nmT (tkA T i) = true
        simp [nmT, e1, e2, g1]
      · exact (key_D q1).1
    have hx : atE (i + 2) (hdE T u i) = ⟨0, 0, [], t.top.label, t.top.tag, 0, (i : Int)⟩ := by
      have ha : ¬ ((i : Int)) < 0 := by omega
      cases u
      · obtain ⟨e1, e2, -⟩ := key_N q1
        have e3 : t.top.tag = 0 := by
          unfold tagB at g2
          simpa using g2
        simp only [atE, hdE, ex0, ha, if_false, Bool.false_eq_true, e2, e3]
      · obtain ⟨e1, e2⟩ := key_D q1
        have e3 : t.top.label = [] := by unfold labB at g1; simpa using g1
        have e4 : (t.top.tag.toNat : Int) = t.top.tag := by
          unfold tagB at g2
          simp only [Bool.or_eq_true, Bool.and_eq_true, decide_eq_true_eq] at g2
          omega
        simp only [atE, hdE, ex0, ha, if_false, if_true, e2, e3, e4]
    have hkid := px_tr t _ (deep + 1) (i + 2) i (hdE T u i) hw.1 hkt hx
    simp only [Trs.len] at hlen ⊢
    cases ts with
    | nil =>
      simp only [Trs.more, List.nil_append] at hk ⊢
      have q3 := key_M hk.cons.1
      have hc : isT (tkA T (i + 2 + t.keys.length)) 3 [44] = false := by
        simp only [isT, Bool.and_eq_true, decide_eq_true_eq] at q3
        simp [isT, q3.2]
      have := PX.last (show k < 64 by simp only [Trs.len] at hlen; omega) hh (key_M q2) hkid hc q3
      simp only [Trs.idxR, Trs.len, List.append_nil, List.length_append, hhl, List.length_nil]
      rw [show i + (2 + t.keys.length) + 1 = i + 2 + t.keys.length + 1 by omega]
      exact this
    | cons t2 ts2 =>
      rw [more_rows] at hk ⊢
      obtain ⟨q3, hk⟩ := hk.cons
      have hrest := px_trs (.cons t2 ts2) u deep (i + 2 + t.keys.length + 1) (k + 1) (fun h => by cases h) (by omega) hw.2 hk
      have := PX.more (show k < 64 by omega) hh (key_M q2) hkid (key_M q3) hrest
      rw [show (Trs.cons t (.cons t2 ts2)).idxR i = t.idx (i + 2) i ++ (Trs.cons t2 ts2).idxR (i + 2 + t.keys.length + 1) from rfl]
      simp only [List.length_append, List.length_cons, hhl]
      rw [show k + ((Trs.cons t2 ts2).len + 1) = k + 1 + (Trs.cons t2 ts2).len by omega, show i + (2 + (t.keys.length + (((Trs.cons t2 ts2).rows u).length + 1))) + 1 = i + 2 + t.keys.length + 1 + ((Trs.cons t2 ts2).rows u).length + 1 by omega]
      exact this
end

end Go.Proofs.YtanimeifmicmoaaDoor

set_option linter.unusedSimpArgs false
set_option linter.unusedVariables false
set_option maxRecDepth 100000
namespace Go.Proofs.YtanimeifmicmoaaDoor
open Go Go.Vc Go.RowKit Go.Proofs

abbrev DefT := List UInt8 × Tr
def DefW (p : DefT) : Prop := nameB p.1 = true ∧ p.2.wf 0 0
theorem wf_top {t : Tr} {a : Int} {deep : Nat} (h : t.wf a deep) : rightB t.top a = true := by cases t; exact h.2.2.1
/-- what Check takes: names and trees -/
theorem chkA_trees : ∀ (D : List Df) (i : Nat), (chkA i D).2.2 = 0 → ∃ l : List DefT, (∀ p ∈ l, DefW p) ∧ D.map (fun d => (d.name, d.ty)) = l.map (fun p => (p.1, p.2.flat))
  | [], _, _ => ⟨[], fun p h => (by cases h), rfl⟩
  | d :: D, i, h => by
    rw [chkA_cons] at h
    by_cases h1 : nameB d.name = false
    · rw [if_pos h1] at h; cases h
    · rw [if_neg h1] at h
      by_cases h2 : (chkT d.ty).2 = 0
      · rw [if_pos h2] at h
        obtain ⟨l, g1, g2⟩ := chkA_trees D (i + 1) h
        obtain ⟨t, t1, t2⟩ := chkT_tr h2
        refine ⟨(d.name, t) :: l, fun p hp => ?_, ?_⟩
        · rcases List.mem_cons.1 hp with rfl | hp
          · exact ⟨by simpa using h1, t2⟩
          · exact g1 p hp
        · rw [List.map_cons, List.map_cons, g2, t1]
      · rw [if_neg h2] at h; exact absurd h h2
theorem chkS_trees {D : List Df} (h : (chkS D).2.2 = 0) : D.length ≤ 256 ∧ ∃ l : List DefT, (∀ p ∈ l, DefW p) ∧ D.map (fun d => (d.name, d.ty)) = l.map (fun p => (p.1, p.2.flat)) := by
  unfold chkS at h
  by_cases hl : 256 < D.length
  · rw [if_pos hl] at h; cases h
  · rw [if_neg hl] at h
    exact ⟨by omega, chkA_trees D 0 h⟩

end Go.Proofs.YtanimeifmicmoaaDoor

set_option linter.unusedSimpArgs false
set_option linter.unusedVariables false
set_option maxRecDepth 100000
namespace Go.Proofs.YtanimeifmicmoaaDoor
open Go Go.Vc Go.RowKit Go.Proofs

def digL (n : Nat) : List UInt8 := if n < 10 then [UInt8.ofNat (48 + n)] else digL (n / 10) ++ [UInt8.ofNat (48 + n % 10)]
termination_by n
decreasing_by omega
theorem digL_lt {n : Nat} (h : n < 10) : digL n = [UInt8.ofNat (48 + n)] := by rw [digL, if_pos h]
theorem digL_ge {n : Nat} (h : ¬ n < 10) : digL n = digL (n / 10) ++ [UInt8.ofNat (48 + n % 10)] := by rw [digL, if_neg h]
theorem d8 {k : Nat} (h : k < 10) : (UInt8.ofNat (48 + k)).toNat = 48 + k := by simp; omega
theorem digL_dig : ∀ n, (digL n).all digB = true := by
  intro n
  induction n using Nat.strongRecOn with
  | _ n ih =>
    by_cases h : n < 10
    · rw [digL_lt h]; simp only [List.all_cons, List.all_nil, Bool.and_true, digB, d8 h]; simp; omega
    · rw [digL_ge h, List.all_append, ih (n / 10) (by omega)]
      simp only [List.all_cons, List.all_nil, Bool.and_true, digB, d8 (show n % 10 < 10 by omega)]; simp; omega
theorem valF_snoc (n : Nat) (xs : List UInt8) (c : UInt8) : valF n (xs ++ [c]) = 10 * valF n xs + (c.toNat - 48) := by
  simp only [valF, List.foldl_append, List.foldl_cons, List.foldl_nil]
theorem digL_val : ∀ n, valF 0 (digL n) = n := by
  intro n
  induction n using Nat.strongRecOn with
  | _ n ih =>
    by_cases h : n < 10
    · rw [digL_lt h, show [UInt8.ofNat (48 + n)] = [] ++ [UInt8.ofNat (48 + n)] from rfl, valF_snoc, d8 h]
      show 10 * 0 + _ = n; omega
    · rw [digL_ge h, valF_snoc, ih (n / 10) (by omega), d8 (show n % 10 < 10 by omega)]; omega
theorem digL_head : ∀ n, 1 ≤ n → ∃ c cs, digL n = c :: cs ∧ 49 ≤ c.toNat := by
  intro n
  induction n using Nat.strongRecOn with
  | _ n ih =>
    intro h1
    by_cases h : n < 10
    · exact ⟨_, _, digL_lt h, by rw [d8 h]; omega⟩
    · obtain ⟨c, cs, g1, g2⟩ := ih (n / 10) (by omega) (by omega)
      exact ⟨c, cs ++ [UInt8.ofNat (48 + n % 10)], by rw [digL_ge h, g1]; rfl, g2⟩
theorem digL_pos (n : Nat) : 0 < (digL n).length := by
  by_cases h : n < 10
  · rw [digL_lt h]; exact Nat.one_pos
  · rw [digL_ge h]; simp
theorem digL_num {n : Nat} (h : n ≤ 2147483647) : numL (digL n) = (n, 0) := by
  have hl : lead (digL n) = false := by
    by_cases h0 : n < 10
    · rw [digL_lt h0]; rfl
    · obtain ⟨c, cs, g1, g2⟩ := digL_head n (by omega)
      rw [g1]
      have : ¬ c.toNat = 48 := by omega
      simp [lead, this]
  rw [numL_val _ hl, digL_val, if_pos h]
def Own (b : List UInt8) (k : Key) : Prop := ∃ hT : 0 < b.length, oneL b 0 hT = (0, ⟨k.1, k.2.1, k.2.2, 0, b.length⟩)
theorem sub_whole (b : List UInt8) : sub b 0 b.length = b := by unfold sub; simp
theorem own_name {s : List UInt8} (h1 : s.head?.any letB = true) (h2 : s.length ≤ 32) (h3 : s.all goeB = true) : Own s (kN s) := by
  cases s with
  | nil => cases h1
  | cons c cs =>
    have hT : 0 < (c :: cs).length := by simp
    have hc : letB (c :: cs)[0] = true := h1
    have hr : runL goeB (c :: cs) 0 = (c :: cs).length := (runL_all goeB _).2 h3
    refine ⟨hT, ?_⟩
    unfold oneL
    rw [if_pos hc, hr, if_neg (by omega), sub_whole]
    rfl
theorem own_nameB {s : List UInt8} (h : nameB s = true) : Own s (kN s) := by
  simp only [nameB, Bool.and_eq_true, decide_eq_true_eq] at h
  exact own_name h.1.1.2 h.1.1.1.2 h.1.2
theorem own_num {n : Nat} (h : n ≤ 2147483647) : Own (digL n) (kD n) := by
  have hT := digL_pos n
  have hd : digB (digL n)[0] = true := List.all_eq_true.1 (digL_dig n) _ (List.getElem_mem hT)
  have hl : ¬ letB (digL n)[0] = true := by
    generalize (digL n)[0] = c at hd
    simp only [digB, letB, Bool.and_eq_true, decide_eq_true_eq] at hd ⊢
    omega
  have hr : runL digB (digL n) 0 = (digL n).length := (runL_all digB _).2 (digL_dig n)
  refine ⟨hT, ?_⟩
  unfold oneL
  rw [if_neg hl, if_pos hd, hr, sub_whole, digL_num h]
  rfl
theorem mark_goe {c : UInt8} (h : markB c = true) : goeB c = false ∧ letB c = false ∧ digB c = false := by
  rw [mark_or] at h
  simp only [Bool.or_eq_true, decide_eq_true_eq] at h
  simp only [goeB, letB, digB, Bool.or_eq_false_iff, Bool.and_eq_false_iff, decide_eq_false_iff_not]
  omega
theorem own_mark {c : UInt8} (h : markB c = true) (Z : List UInt8) : ∀ hT, oneL ([c] ++ Z) 0 hT = (0, ⟨3, [c], 0, 0, 1⟩) := by
  intro hT
  obtain ⟨h1, h2, h3⟩ := mark_goe h
  unfold oneL
  rw [if_neg (by show ¬ letB c = true; simp [h2]), if_neg (by show ¬ digB c = true; simp [h3]), if_pos (show markB ([c] ++ Z)[0] = true from h)]
  rfl
def Cut2 (bs : List UInt8) (us : List Tk) (m : Bool) : Prop := ∀ Z, (m = true ∨ Stops Z) → cutL (bs ++ Z) 0 = (us ++ (cutL (bs ++ Z) bs.length).1, (cutL (bs ++ Z) bs.length).2)
theorem Cut2.weak {bs : List UInt8} {us : List Tk} {m : Bool} (h : Cut2 bs us m) : Cut2 bs us false := fun Z hZ => h Z (.inr (hZ.resolve_left (by decide)))
theorem Cut2.gap {bs F : List UInt8} {us : List Tk} {m : Bool} (h : Cut2 bs us m) (hg : gapS false F = some false) (hF : ∃ c cs, F = c :: cs ∧ goeB c = false) : Cut2 (bs ++ F) us true := by
  intro Z _
  obtain ⟨c, cs, rfl, hc⟩ := hF
  have h1 := h ((c :: cs) ++ Z) (.inr (.inr ⟨c, cs ++ Z, rfl, hc⟩))
  rw [← List.append_assoc] at h1
  have e1 : ((bs ++ (c :: cs) ++ Z).take (bs ++ (c :: cs)).length).drop bs.length = c :: cs := by rw [List.take_left, List.drop_left]
  have s1 := gap_skip (bs ++ (c :: cs) ++ Z) (bs ++ (c :: cs)).length (by simp) bs.length (by simp) false (by rw [e1]; exact hg)
  rw [if_neg (by decide)] at s1
  rw [h1, s1]
def tkP (p : Nat) (b : List UInt8) (k : Key) : Tk := ⟨k.1, k.2.1, k.2.2, p, p + b.length⟩
theorem tkP_key (p : Nat) (b : List UInt8) (k : Key) : tkey (tkP p b k) = k := rfl
theorem Cut2.tok {bs b : List UInt8} {us : List Tk} {k : Key} (h : Cut2 bs us true) (ho : Own b k) : Cut2 (bs ++ b) (us ++ [tkP bs.length b k]) false := by
  intro Z hZ
  have hZ := hZ.resolve_left (by decide)
  obtain ⟨hT, ho⟩ := ho
  have h1 := h (b ++ Z) (.inl rfl)
  rw [← List.append_assoc] at h1
  have h2 := put_step bs [] b Z _ hT rfl (tok_front ho rfl hZ) rfl
  simp only [List.append_nil, List.length_nil, Nat.add_zero] at h2
  rw [h1, h2]
  simp only [tkP, List.append_assoc, List.cons_append, List.nil_append]
theorem Cut2.mark {bs : List UInt8} {us : List Tk} {m : Bool} (h : Cut2 bs us m) (c : UInt8) (hc : markB c = true) : Cut2 (bs ++ [c]) (us ++ [tkP bs.length [c] (kM [c])]) true := by
  intro Z _
  have h1 := h ([c] ++ Z) (.inr (.inr ⟨c, Z, rfl, (mark_goe hc).1⟩))
  rw [← List.append_assoc] at h1
  have h2 := put_step bs [] [c] Z _ (by simp) rfl (own_mark hc Z) rfl
  simp only [List.append_nil, List.length_nil, Nat.add_zero] at h2
  rw [h1, h2]
  simp only [tkP, kM, List.append_assoc, List.cons_append, List.nil_append, List.length_singleton]
theorem Cut2.done {bs : List UInt8} {us : List Tk} {m : Bool} (h : Cut2 bs us m) : cutL bs 0 = (us, 0, 0) := by
  have := h [] (.inr (.inl rfl))
  rw [List.append_nil, show cutL bs bs.length = ([], 0, 0) by rw [cutL_eq, dif_neg (by omega)], List.append_nil] at this
  exact this

end Go.Proofs.YtanimeifmicmoaaDoor

set_option linter.unusedSimpArgs false
set_option linter.unusedVariables false
set_option maxRecDepth 100000
namespace Go.Proofs.YtanimeifmicmoaaDoor
open Go Go.Vc Go.RowKit Go.Proofs

def wrHead (s first : Bool) (y : Ex) (bs : List UInt8) : List UInt8 := (if first then bs else bs ++ [44]) ++ (if s then y.label ++ [58, 32] else digL y.tag.toNat ++ [58])
mutual
def Tr.wr (bs : List UInt8) : Tr → List UInt8
  | .node y ks =>
    if y.kind = 1 then bs ++ ([117] ++ digL (8 * y.n).toNat)
    else if y.kind = 2 then bs ++ [98, 111, 111, 108]
    else if y.kind = 3 then bs ++ [118, 97, 114, 105, 110, 116]
    else if y.kind = 9 then bs ++ y.name
    else if y.kind = 4 ∨ y.kind = 5 then ks.wrK (bs ++ (if y.kind = 4 then [118, 101, 99, 116, 111, 114, 60] else [108, 105, 115, 116, 32, 60])) ++ ([44, 32] ++ digL y.n.toNat ++ [62])
    else if y.kind = 6 then ks.wrK (bs ++ [111, 112, 116, 105, 111, 110, 60]) ++ [62]
    else ks.wrR (decide (y.kind = 8)) true (bs ++ (if y.kind = 8 then [115, 116, 114, 117, 99, 116, 32, 123] else [117, 110, 105, 111, 110, 123])) ++ [125]
def Trs.wrK (bs : List UInt8) : Trs → List UInt8
  | .nil => bs
  | .cons t ts => ts.wrK (t.wr bs)
def Trs.wrR (s first : Bool) (bs : List UInt8) : Trs → List UInt8
  | .nil => bs
  | .cons t ts => ts.wrR s false (t.wr (wrHead s first t.top bs))
end
mutual
/-- the nodes, each at the place where it is written -/
def Tr.pl (p : Nat) (bs : List UInt8) : Tr → List Ex
  | .node y ks => { y with at_ := (p : Int) } ::
    (if y.kind = 7 ∨ y.kind = 8 then ks.plR (decide (y.kind = 8)) true (bs ++ (if y.kind = 8 then [115, 116, 114, 117, 99, 116, 32, 123] else [117, 110, 105, 111, 110, 123]))
     else ks.plK (bs ++ (if y.kind = 4 then [118, 101, 99, 116, 111, 114, 60] else if y.kind = 5 then [108, 105, 115, 116, 32, 60] else [111, 112, 116, 105, 111, 110, 60])))
def Trs.plK (bs : List UInt8) : Trs → List Ex
  | .nil => []
  | .cons t ts => t.pl bs.length bs ++ ts.plK (t.wr bs)
def Trs.plR (s first : Bool) (bs : List UInt8) : Trs → List Ex
  | .nil => []
  | .cons t ts => t.pl (if first then bs else bs ++ [44]).length (wrHead s first t.top bs) ++ ts.plR s false (t.wr (wrHead s first t.top bs))
end
def Pf (T L : List Tk) : Prop := ∀ k, k < L.length → tkA T k = tkA L k
theorem Pf.app {T a b : List Tk} (h : Pf T (a ++ b)) : Pf T a := fun k hk => by
  rw [h k (by rw [List.length_append]; omega), tkA, List.getD_eq_getElem?_getD, List.getElem?_append_left hk, tkA, List.getD_eq_getElem?_getD]
theorem Pf.at {T a : List Tk} {v : Tk} {b : List Tk} (h : Pf T (a ++ v :: b)) : tkA T a.length = v := by
  rw [h a.length (by simp), tkA, List.getD_eq_getElem?_getD, List.getElem?_append_right (Nat.le_refl _)]; simp
theorem plE_at' {T : List Tk} {y : Ex} {ai p : Nat} (h : (tkA T ai).at_ = p) : plE T { y with at_ := (ai : Int) } = { y with at_ := (p : Int) } := by
  unfold plE
  rw [if_neg (show ¬ ((ai : Int)) < 0 by omega)]
  simp [h]
theorem own_word {s : List UInt8} (h : (decide (s.length ≤ 32) && s.head?.any letB && s.all goeB) = true) : Own s (kN s) := by
  simp only [Bool.and_eq_true, decide_eq_true_eq] at h
  exact own_name h.1.2 h.1.1 h.2
mutual
theorem wr_tr : ∀ (t : Tr) (above : Int) (deep : Nat) (bs : List UInt8) (us : List Tk), t.wf above deep → Cut2 bs us true →
    ∃ v vs, Cut2 (t.wr bs) (us ++ v :: vs) false ∧ (v :: vs).map tkey = t.keys ∧ v.at_ = bs.length ∧ ∀ T, Pf T (us ++ v :: vs) → ∀ ai p, (tkA T ai).at_ = p → (t.idx us.length ai).map (plE T) = t.pl p bs
  | .node y ks, above, deep, bs, us, hw, hc => by
    obtain ⟨hd, hm, hr, hl, hks⟩ := hw
    obtain ⟨hok, hnm, -, -⟩ := rightB_iff hr
    rcases okB_cases hok with ⟨k1, hn, k0⟩ | ⟨k1, hn, k0⟩ | ⟨k1, hn, hn2, k0⟩ | ⟨k1, hn, k0⟩ | ⟨k1, hn, k0⟩
    · have hnil := trs_nil (ts := ks) (by omega)
      subst hnil
      have hw8 : [117] ++ digL (8 * y.n).toNat = uWord y.n := by
        rcases hn with e | e | e | e <;> rw [e]
        · show _ ++ digL 8 = _; rw [digL_lt (by decide)]; rfl
        · show _ ++ digL 16 = _; rw [digL_ge (by decide), digL_lt (by decide)]; rfl
        · show _ ++ digL 32 = _; rw [digL_ge (by decide), digL_lt (by decide)]; rfl
        · show _ ++ digL 64 = _; rw [digL_ge (by decide), digL_lt (by decide)]; rfl
      have ho : Own (uWord y.n) (kN (uWord y.n)) := by rcases hn with e | e | e | e <;> (rw [e]; exact own_word (by decide))
      refine ⟨tkP bs.length (uWord y.n) (kN (uWord y.n)), [], ?_, ?_, ?_, fun T hT ai p hp => ?_⟩
      · simp only [Tr.wr, if_pos k1, hw8]; exact hc.tok ho
      · simp only [Tr.keys, if_pos k1]; rfl
      · rfl
      · simp only [Tr.idx, Tr.pl, if_neg (show ¬ (y.kind = 7 ∨ y.kind = 8) by omega), Trs.idxK, Trs.plK, List.map_cons, List.map_nil, plE_at' hp]
    · have hnil := trs_nil (ts := ks) (by omega)
      subst hnil
      rcases k1 with k1 | k1 | k1
      · refine ⟨tkP bs.length [98, 111, 111, 108] (kN [98, 111, 111, 108]), [], ?_, ?_, ?_, fun T hT ai p hp => ?_⟩
        · simp only [Tr.wr, if_neg (show ¬ y.kind = 1 by omega), if_pos k1]; exact hc.tok (own_word (by decide))
        · simp only [Tr.keys, if_neg (show ¬ y.kind = 1 by omega), if_pos k1]; rfl
        · rfl
        · simp only [Tr.idx, Tr.pl, if_neg (show ¬ (y.kind = 7 ∨ y.kind = 8) by omega), Trs.idxK, Trs.plK, List.map_cons, List.map_nil, plE_at' hp]
      · refine ⟨tkP bs.length [118, 97, 114, 105, 110, 116] (kN [118, 97, 114, 105, 110, 116]), [], ?_, ?_, ?_, fun T hT ai p hp => ?_⟩
        · simp only [Tr.wr, if_neg (show ¬ y.kind = 1 by omega), if_neg (show ¬ y.kind = 2 by omega), if_pos k1]; exact hc.tok (own_word (by decide))
        · simp only [Tr.keys, if_neg (show ¬ y.kind = 1 by omega), if_neg (show ¬ y.kind = 2 by omega), if_pos k1]; rfl
        · rfl
        · simp only [Tr.idx, Tr.pl, if_neg (show ¬ (y.kind = 7 ∨ y.kind = 8) by omega), Trs.idxK, Trs.plK, List.map_cons, List.map_nil, plE_at' hp]
      · have hname : nameB y.name = true := by unfold namB at hnm; rw [if_pos k1] at hnm; exact hnm
        refine ⟨tkP bs.length y.name (kN y.name), [], ?_, ?_, ?_, fun T hT ai p hp => ?_⟩
        · simp only [Tr.wr, if_neg (show ¬ y.kind = 1 by omega), if_neg (show ¬ y.kind = 2 by omega), if_neg (show ¬ y.kind = 3 by omega), if_pos k1]; exact hc.tok (own_nameB hname)
        · simp only [Tr.keys, if_neg (show ¬ y.kind = 1 by omega), if_neg (show ¬ y.kind = 2 by omega), if_neg (show ¬ y.kind = 3 by omega), if_pos k1]; rfl
        · rfl
        · simp only [Tr.idx, Tr.pl, if_neg (show ¬ (y.kind = 7 ∨ y.kind = 8) by omega), Trs.idxK, Trs.plK, List.map_cons, List.map_nil, plE_at' hp]
    · obtain ⟨t, rfl⟩ := trs_one (ts := ks) (by omega)
      -- the word and its bracket
      obtain ⟨b1, hb1, v1, v2, hc1, hk1, hv1⟩ : ∃ b1, b1 = bs ++ (if y.kind = 4 then [118, 101, 99, 116, 111, 114, 60] else [108, 105, 115, 116, 32, 60]) ∧ ∃ v1 v2, Cut2 b1 (us ++ [v1, v2]) true ∧ [v1, v2].map tkey = [kN (if y.kind = 5 then [108, 105, 115, 116] else [118, 101, 99, 116, 111, 114]), kM [60]] ∧ v1.at_ = bs.length := by
        rcases k1 with e | e
        · refine ⟨_, rfl, tkP bs.length [118, 101, 99, 116, 111, 114] (kN [118, 101, 99, 116, 111, 114]), tkP (bs ++ [118, 101, 99, 116, 111, 114]).length [60] (kM [60]), ?_, ?_, ?_⟩
          · have := (hc.tok (own_word (s := [118, 101, 99, 116, 111, 114]) (by decide))).mark 60 (by decide)
            rw [List.append_assoc, List.append_assoc] at this
            rw [if_pos e]; exact this
          · rw [e]; rfl
          · rfl
        · refine ⟨_, rfl, tkP bs.length [108, 105, 115, 116] (kN [108, 105, 115, 116]), tkP (bs ++ [108, 105, 115, 116] ++ [32]).length [60] (kM [60]), ?_, ?_, ?_⟩
          · have := (((hc.tok (own_word (s := [108, 105, 115, 116]) (by decide)))).gap (F := [32]) (by decide) ⟨_, _, rfl, by decide⟩).mark 60 (by decide)
            rw [List.append_assoc, List.append_assoc, List.append_assoc] at this
            rw [if_neg (by omega)]; exact this
          · rw [e]; rfl
          · rfl
      obtain ⟨v, vs, hc2, hk2, hv2, hp2⟩ := wr_tr t y.kind (deep + 1) b1 (us ++ [v1, v2]) hks.1 hc1
      have hc3 := (((hc2.mark 44 (by decide)).gap (F := [32]) (by decide) ⟨_, _, rfl, by decide⟩).tok (own_num (n := y.n.toNat) (by omega))).mark 62 (by decide)
      have e1 : ∀ {a b c : Tk}, us ++ [v1, v2] ++ v :: vs ++ [a] ++ [b] ++ [c] = us ++ v1 :: (v2 :: (v :: vs ++ [a, b, c])) := by intros; simp
      rw [e1] at hc3
      have e2 : t.wr b1 ++ [44] ++ [32] ++ digL y.n.toNat ++ [62] = Tr.wr bs (.node y (.cons t .nil)) := by
        simp only [Tr.wr, if_neg (show ¬ y.kind = 1 by omega), if_neg (show ¬ y.kind = 2 by omega), if_neg (show ¬ y.kind = 3 by omega), if_neg (show ¬ y.kind = 9 by omega), if_pos k1, Trs.wrK, ← hb1]
        simp
      rw [e2] at hc3
      refine ⟨v1, _, hc3.weak, ?_, hv1, fun T hT ai p hp => ?_⟩
      · simp only [Tr.keys, if_neg (show ¬ y.kind = 1 by omega), if_neg (show ¬ y.kind = 2 by omega), if_neg (show ¬ y.kind = 3 by omega), if_neg (show ¬ y.kind = 9 by omega), if_pos k1, Trs.keys, List.append_nil, ← hk2]
        simp only [List.map_cons, List.map_nil, List.cons.injEq, and_true] at hk1
        simp [hk1.1, hk1.2, tkP_key]
      · have hT2 : Pf T (us ++ [v1, v2] ++ v :: vs) := by
          have : us ++ v1 :: (v2 :: (v :: vs ++ [tkP (t.wr b1).length [44] (kM [44]), tkP (t.wr b1 ++ [44] ++ [32]).length (digL y.n.toNat) (kD y.n.toNat), tkP (t.wr b1 ++ [44] ++ [32] ++ digL y.n.toNat).length [62] (kM [62])])) = (us ++ [v1, v2] ++ v :: vs) ++ [tkP (t.wr b1).length [44] (kM [44]), tkP (t.wr b1 ++ [44] ++ [32]).length (digL y.n.toNat) (kD y.n.toNat), tkP (t.wr b1 ++ [44] ++ [32] ++ digL y.n.toNat).length [62] (kM [62])] := by simp
          rw [this] at hT
          exact hT.app
        have hk := hp2 T hT2 (us ++ [v1, v2]).length b1.length (by rw [hT2.at]; exact hv2)
        rw [show (us ++ [v1, v2]).length = us.length + 2 by simp] at hk
        simp only [Tr.idx, Tr.pl, if_neg (show ¬ (y.kind = 7 ∨ y.kind = 8) by omega), Trs.idxK, Trs.plK, List.append_nil, List.map_cons, plE_at' hp]
        rw [hk, hb1]
        rcases k1 with e | e <;> simp [e]
    · obtain ⟨t, rfl⟩ := trs_one (ts := ks) (by omega)
      have hc1 := (hc.tok (own_word (s := [111, 112, 116, 105, 111, 110]) (by decide))).mark 60 (by decide)
      rw [List.append_assoc, List.append_assoc] at hc1
      obtain ⟨v, vs, hc2, hk2, hv2, hp2⟩ := wr_tr t y.kind (deep + 1) _ _ hks.1 hc1
      have hc3 := hc2.mark 62 (by decide)
      obtain ⟨v1, hv1⟩ : ∃ v, v = tkP bs.length [111, 112, 116, 105, 111, 110] (kN [111, 112, 116, 105, 111, 110]) := ⟨_, rfl⟩
      obtain ⟨v2, hv2'⟩ : ∃ v, v = tkP (bs ++ [111, 112, 116, 105, 111, 110]).length [60] (kM [60]) := ⟨_, rfl⟩
      rw [← hv1, ← hv2'] at hc2 hp2 hc3
      have e1 : ∀ {a : Tk}, us ++ ([v1] ++ [v2]) ++ v :: vs ++ [a] = us ++ v1 :: (v2 :: (v :: vs ++ [a])) := by intros; simp
      rw [e1] at hc3
      have e2 : Tr.wr (bs ++ ([111, 112, 116, 105, 111, 110] ++ [60])) t ++ [62] = Tr.wr bs (.node y (.cons t .nil)) := by
        simp only [Tr.wr, if_neg (show ¬ y.kind = 1 by omega), if_neg (show ¬ y.kind = 2 by omega), if_neg (show ¬ y.kind = 3 by omega), if_neg (show ¬ y.kind = 9 by omega), if_neg (show ¬ (y.kind = 4 ∨ y.kind = 5) by omega), if_pos k1, Trs.wrK]
        rfl
      rw [e2] at hc3
      refine ⟨v1, _, hc3.weak, ?_, by subst hv1; rfl, fun T hT ai p hp => ?_⟩
      · simp only [Tr.keys, if_neg (show ¬ y.kind = 1 by omega), if_neg (show ¬ y.kind = 2 by omega), if_neg (show ¬ y.kind = 3 by omega), if_neg (show ¬ y.kind = 9 by omega), if_neg (show ¬ (y.kind = 4 ∨ y.kind = 5) by omega), if_pos k1, Trs.keys, List.append_nil, ← hk2]
        simp [hv1, hv2', tkP_key]
      · have hT2 : Pf T (us ++ ([v1] ++ [v2]) ++ v :: vs) := by rw [← e1] at hT; exact hT.app
        have hk := hp2 T hT2 (us ++ ([v1] ++ [v2])).length (bs ++ ([111, 112, 116, 105, 111, 110] ++ [60])).length (by rw [hT2.at]; exact hv2)
        rw [show (us ++ ([v1] ++ [v2])).length = us.length + 2 by simp] at hk
        simp only [Tr.idx, Tr.pl, if_neg (show ¬ (y.kind = 7 ∨ y.kind = 8) by omega), Trs.idxK, Trs.plK, List.append_nil, List.map_cons, plE_at' hp]
        rw [hk, if_neg (show ¬ y.kind = 4 by omega), if_neg (show ¬ y.kind = 5 by omega)]
        rfl
    · obtain ⟨s, hs⟩ : ∃ s : Bool, s = decide (y.kind = 8) := ⟨_, rfl⟩
      have hsu : decide (y.kind = 7) = !s := by rcases k1 with e | e <;> simp [hs, e]
      have hks2 : y.kind = if s then 8 else 7 := by rcases k1 with e | e <;> simp [hs, e]
      obtain ⟨b1, hb1, v1, v2, hc1, hk1, hv1⟩ : ∃ b1, b1 = bs ++ (if y.kind = 8 then [115, 116, 114, 117, 99, 116, 32, 123] else [117, 110, 105, 111, 110, 123]) ∧ ∃ v1 v2, Cut2 b1 (us ++ [v1, v2]) true ∧ [v1, v2].map tkey = [kN (if y.kind = 7 then [117, 110, 105, 111, 110] else [115, 116, 114, 117, 99, 116]), kM [123]] ∧ v1.at_ = bs.length := by
        rcases k1 with e | e
        · refine ⟨_, rfl, tkP bs.length [117, 110, 105, 111, 110] (kN [117, 110, 105, 111, 110]), tkP (bs ++ [117, 110, 105, 111, 110]).length [123] (kM [123]), ?_, ?_, ?_⟩
          · have := (hc.tok (own_word (s := [117, 110, 105, 111, 110]) (by decide))).mark 123 (by decide)
            rw [List.append_assoc, List.append_assoc] at this
            rw [if_neg (by omega)]; exact this
          · rw [e]; rfl
          · rfl
        · refine ⟨_, rfl, tkP bs.length [115, 116, 114, 117, 99, 116] (kN [115, 116, 114, 117, 99, 116]), tkP (bs ++ [115, 116, 114, 117, 99, 116] ++ [32]).length [123] (kM [123]), ?_, ?_, ?_⟩
          · have := (((hc.tok (own_word (s := [115, 116, 114, 117, 99, 116]) (by decide)))).gap (F := [32]) (by decide) ⟨_, _, rfl, by decide⟩).mark 123 (by decide)
            rw [List.append_assoc, List.append_assoc, List.append_assoc] at this
            rw [if_pos e]; exact this
          · rw [e]; rfl
          · rfl
      obtain ⟨vs, hc2, hk2, hp2⟩ := wr_trs ks s true (deep + 1) b1 (us ++ [v1, v2]) (by rw [← hks2]; exact hks) hc1
      have hc3 := hc2.mark 125 (by decide)
      have e1 : ∀ {a : Tk}, us ++ [v1, v2] ++ vs ++ [a] = us ++ v1 :: (v2 :: (vs ++ [a])) := by intros; simp
      rw [e1] at hc3
      have e2 : ks.wrR s true b1 ++ [125] = Tr.wr bs (.node y ks) := by
        simp only [Tr.wr, if_neg (show ¬ y.kind = 1 by omega), if_neg (show ¬ y.kind = 2 by omega), if_neg (show ¬ y.kind = 3 by omega), if_neg (show ¬ y.kind = 9 by omega), if_neg (show ¬ (y.kind = 4 ∨ y.kind = 5) by omega), if_neg (show ¬ y.kind = 6 by omega), ← hb1, ← hs]
      rw [e2] at hc3
      refine ⟨v1, _, hc3.weak, ?_, hv1, fun T hT ai p hp => ?_⟩
      · simp only [Tr.keys, if_neg (show ¬ y.kind = 1 by omega), if_neg (show ¬ y.kind = 2 by omega), if_neg (show ¬ y.kind = 3 by omega), if_neg (show ¬ y.kind = 9 by omega), if_neg (show ¬ (y.kind = 4 ∨ y.kind = 5) by omega), if_neg (show ¬ y.kind = 6 by omega), hsu]
        simp only [List.map_cons, List.map_nil, List.cons.injEq, and_true] at hk1
        simp only [if_true] at hk2
        simp [hk1.1, hk1.2, tkP_key, hk2]
      · have hT2 : Pf T (us ++ [v1, v2] ++ vs) := by rw [← e1] at hT; exact hT.app
        have hk := hp2 T hT2
        simp only [if_true, Nat.add_zero] at hk
        rw [show (us ++ [v1, v2]).length = us.length + 2 by simp] at hk
        simp only [Tr.idx, Tr.pl, if_pos k1, List.map_cons, plE_at' hp, ← hs]
        rw [hk, hb1]
theorem wr_trs : ∀ (ts : Trs) (s first : Bool) (deep : Nat) (bs : List UInt8) (us : List Tk), ts.wf (if s then 8 else 7) deep → Cut2 bs us first →
    ∃ vs, Cut2 (ts.wrR s first bs) (us ++ vs) false ∧ vs.map tkey = (if first then ts.rows (!s) else ts.more (!s)) ∧ ∀ T, Pf T (us ++ vs) → (ts.idxR (us.length + (if first then 0 else 1))).map (plE T) = ts.plR s first bs
  | .nil, s, first, deep, bs, us, hw, hc => ⟨[], by rw [List.append_nil]; exact hc.weak, by cases first <;> rfl, fun T _ => rfl⟩
  | .cons t ts, s, first, deep, bs, us, hw, hc => by
    obtain ⟨-, -, g1, g2⟩ := rightB_iff (wf_top hw.1)
    -- the comma
    obtain ⟨b1, hb1, us1, hu1, hc1, hkk⟩ : ∃ b1, b1 = (if first then bs else bs ++ [44]) ∧ ∃ us1, us1 = (if first then us else us ++ [tkP bs.length [44] (kM [44])]) ∧ Cut2 b1 us1 true ∧ us1.length = us.length + (if first then 0 else 1) := by
      cases first
      · exact ⟨_, rfl, _, rfl, hc.mark 44 (by decide), by simp⟩
      · exact ⟨_, rfl, _, rfl, hc, by simp⟩
    -- what stands ahead of the colon
    obtain ⟨b2, hb2, v1, v2, hc2, hk2, hv1⟩ : ∃ b2, b2 = wrHead s first t.top bs ∧ ∃ v1 v2, Cut2 b2 (us1 ++ [v1, v2]) true ∧ [v1, v2].map tkey = hdK (!s) t.top ∧ v1.at_ = b1.length := by
      cases s
      · have htag : t.top.tag.toNat ≤ 2147483647 := by
          unfold tagB at g2
          simp only [Bool.or_eq_true, Bool.and_eq_true, decide_eq_true_eq] at g2
          omega
        refine ⟨_, rfl, tkP b1.length (digL t.top.tag.toNat) (kD t.top.tag.toNat), tkP (b1 ++ digL t.top.tag.toNat).length [58] (kM [58]), ?_, ?_, ?_⟩
        · have := (hc1.tok (own_num (n := t.top.tag.toNat) htag)).mark 58 (by decide)
          rw [List.append_assoc, List.append_assoc] at this
          rw [wrHead, ← hb1]; exact this
        · rfl
        · rfl
      · have hlab : nameB t.top.label = true := by unfold labB at g1; simpa using g1
        refine ⟨_, rfl, tkP b1.length t.top.label (kN t.top.label), tkP (b1 ++ t.top.label).length [58] (kM [58]), ?_, ?_, ?_⟩
        · have := ((hc1.tok (own_nameB hlab)).mark 58 (by decide)).gap (F := [32]) (by decide) ⟨_, _, rfl, by decide⟩
          rw [List.append_assoc, List.append_assoc, List.append_assoc] at this
          rw [wrHead, ← hb1]; exact this
        · rfl
        · rfl
    obtain ⟨v, vs, hc3, hk3, hv3, hp3⟩ := wr_tr t _ deep b2 (us1 ++ [v1, v2]) hw.1 hc2
    obtain ⟨ws, hc4, hk4, hp4⟩ := wr_trs ts s false deep (t.wr b2) (us1 ++ [v1, v2] ++ v :: vs) hw.2 hc3
    have hall : us1 ++ [v1, v2] ++ v :: vs ++ ws = us ++ ((if first then [] else [tkP bs.length [44] (kM [44])]) ++ [v1, v2] ++ v :: vs ++ ws) := by
      rw [hu1]; cases first <;> simp
    refine ⟨(if first then [] else [tkP bs.length [44] (kM [44])]) ++ [v1, v2] ++ v :: vs ++ ws, ?_, ?_, fun T hT => ?_⟩
    · rw [← hall]
      simp only [Trs.wrR, ← hb2]
      exact hc4
    · have hh : (([v1, v2] ++ v :: vs) ++ ws).map tkey = (Trs.cons t ts).rows (!s) := by
        rw [List.map_append, List.map_append, hk2, hk3, hk4]
        simp [Trs.rows]
      cases first
      · simp only [Bool.false_eq_true, if_false, more_rows]
        rw [← hh]
        simp [tkP_key]
      · simp only [if_true]
        rw [← hh]
        simp
    · rw [← hall] at hT
      have hT3 : Pf T (us1 ++ [v1, v2] ++ v :: vs) := hT.app
      have hT1 : Pf T (us1 ++ v1 :: [v2]) := hT3.app
      have hk := hp3 T hT3 us1.length b1.length (by rw [hT1.at]; exact hv1)
      have hr := hp4 T hT
      rw [show (us1 ++ [v1, v2]).length = us1.length + 2 by simp] at hk
      rw [← hkk]
      simp only [Trs.idxR, Trs.plR, List.map_append, ← hb1, ← hb2]
      rw [hk]
      congr 1
      have hkl : (v :: vs).length = t.keys.length := by rw [← hk3, List.length_map]
      rw [show us1.length + 2 + t.keys.length + 1 = (us1 ++ [v1, v2] ++ v :: vs).length + (if false = true then 0 else 1) by rw [List.length_append, List.length_append, hkl]; simp]
      exact hr
end

end Go.Proofs.YtanimeifmicmoaaDoor

set_option linter.unusedSimpArgs false
set_option linter.unusedVariables false
set_option maxRecDepth 100000
namespace Go.Proofs.YtanimeifmicmoaaDoor
open Go Go.Vc Go.RowKit Go.Proofs

theorem digL_len : ∀ (k n : Nat), n < 10 ^ k → 0 < k → (digL n).length ≤ k := by
  intro k
  induction k with
  | zero => intro n h h0; omega
  | succ k ih =>
    intro n h _
    by_cases h10 : n < 10
    · rw [digL_lt h10]; simp
    · rw [digL_ge h10, List.length_append, List.length_singleton]
      have hk : 0 < k := by
        rcases Nat.eq_zero_or_pos k with h0 | h0
        · subst h0; simp at h; omega
        · exact h0
      have := ih (n / 10) (by rw [Nat.pow_succ] at h; omega) hk
      omega

end Go.Proofs.YtanimeifmicmoaaDoor

set_option linter.unusedSimpArgs false
set_option linter.unusedVariables false
set_option maxRecDepth 100000
namespace Go.Proofs.YtanimeifmicmoaaDoor
open Go Go.Vc Go.RowKit Go.Proofs

theorem shape_of {w : World} {b : Nat} {cs : Array Value} {T : TypeId} {fr : Nat × Nat} (h : w.heap[b]? = some (.cells cs T fr)) : w.shape? b = some (T, cs.size) := by unfold World.shape?; rw [h]
theorem o_cvPU {P : Program} {e : Env} {w : World} {K : Value → World → Prop} {ty : TypeId} {x : Operand} {src dst t : TypeId} {d0 : TypeDesc} {sz0 bs0 : Nat} {z0 : Value} {a : Addr} {cs : Array Value} {T : TypeId} {fr : Nat × Nat} (hs : P.underlying src = some (.pointer t)) (hd : P.underlying dst = some .unsafePointer) (hT : Ty P t d0 sz0 bs0 z0) (hj : sz0 ≠ 0) (hx : ev e x = .pointer (some a))
    (hB : w.heap[a.block]? = some (.cells cs T fr)) (ho : a.off < cs.size) (k : K (.pointer (some a)) w) : OP P e (.convert src dst x) ty w K := by
  obtain ⟨i, hi1, hi2, hi3, hi4⟩ := hT.info
  exact OP.of (by simp [execOp, hx, Lib.run_to_unsafe w a hs hd hi1 (by rw [hi2]; exact hj) (shape_of hB) ho]) k
theorem o_cvUP {P : Program} {e : Env} {w : World} {K : Value → World → Prop} {ty : TypeId} {x : Operand} {src dst u : TypeId} {d0 : TypeDesc} {sz0 bs0 : Nat} {z0 : Value} {a : Addr} {cs : Array Value} {T : TypeId} {fr : Nat × Nat} (hs : P.underlying src = some .unsafePointer) (hd : P.underlying dst = some (.pointer u)) (hT : Ty P u d0 sz0 bs0 z0) (hx : ev e x = .pointer (some a))
    (hB : w.heap[a.block]? = some (.cells cs T fr)) (hlies : liesAt P P.depth T (cs.size / P.cellsOf T) a.off u 1 = true) (k : K (.pointer (some a)) w) : OP P e (.convert src dst x) ty w K := by
  obtain ⟨i, hi1, hi2, hi3, hi4⟩ := hT.info
  exact OP.of (by simp [execOp, hx, Lib.run_from_unsafe w a hs hd hi1 (shape_of hB) hlies]) k
theorem o_neP {P : Program} {e : Env} {w : World} {K : Value → World → Prop} {ty : TypeId} {x y : Operand} {t te u : TypeId} {d0 : TypeDesc} {sz0 bs0 : Nat} {z0 : Value} {a : Addr} (ht : P.underlying t = some (.pointer te)) (hT : Ty P te d0 sz0 bs0 z0) (hx : ev e x = .pointer (some a)) (hy : ev e y = .pointer (some a)) (k : K (.bool false) w) : OP P e (.binOp .neq t x y u) ty w K := by
  obtain ⟨i, hi1, hi2, hi3, hi4⟩ := hT.info
  exact OP.of (by have := Lib.run_neq_ptr_same (P := P) w a ht hi1; simp only [execOp, eqGuard, hx, hy]; simp [this]) k
theorem only_freeze (w : World) (p : Addr) (n : Nat) : Only (fun k => k = p.block) w (w.freeze p n) := by
  unfold World.freeze
  split
  · exact Only.refl _ _
  · refine ⟨rfl, rfl, rfl, by simp, fun k hk hn => ?_⟩
    simp only [Array.getElem?_modify]
    rw [if_neg (fun h => hn h.symm)]
theorem o_uS {P : Program} {e : Env} {w : World} {K : Value → World → Prop} {ty : TypeId} {x y : Operand} {pt it el : TypeId} {g : Nat} {cs : Array Value} {fr : Nat × Nat} {l : List UInt8} (hp : P.underlying pt = some (.pointer el)) (hc : P.cellsOf el = 1) (hx : ev e x = .pointer (some ⟨g, 0, none⟩)) (hy : ev e y = .int .i64 (l.length : Int)) (hB : w.heap[g]? = some (.cells cs el fr)) (h0 : l ≠ []) (hn : l.length ≤ cs.size) (h63 : l.length ≤ 9223372036854775807) (hC : Cells w g 0 (l.map bv))
    (k : ∀ w', Only (fun k => k = g) w w' → K (st l) w') : OP P e (.call ⟨.builtin .unsafeString, #[x, y], #[pt, it]⟩) ty w K := by
  have h := Lib.run_unsafeString_row (P := P) w pt it ty el hp hc g cs.size (shape_of hB) l h0 hn h63 (fun j x hj => by rw [add_none]; exact hC j (bv x) (by simp [hj]))
  exact OP.of (by simp [execOp, resolve, invoke, builtin, hx, hy, h]) (k _ (only_freeze w ⟨g, 0, none⟩ l.length))
theorem o_uS0 {P : Program} {e : Env} {w : World} {K : Value → World → Prop} {ty : TypeId} {x y : Operand} {pt it : TypeId} {p : Option Addr} (hx : ev e x = .pointer p) (hy : ev e y = .int .i64 0) (k : K (st []) w) : OP P e (.call ⟨.builtin .unsafeString, #[x, y], #[pt, it]⟩) ty w K := by
  have h := Lib.run_unsafeString_none (P := P) w pt it ty p
  exact OP.of (by simp [execOp, resolve, invoke, builtin, hx, hy, h]; rfl) k
structure PrM (w : World) (H p : Nat) (ad v lf : Value) (bs : List UInt8) : Prop where
  cell : w.heap[p]? = some (.cells #[ad, v, lf] 51 (0, 0))
  adr : ad = .pointer none ∨ ad = .pointer (some ⟨p, 0, none⟩)
  row : w.ownsRow H 5 1 v bs.length (bs.map bv)
  hp : H ≤ p
theorem PrM.ext {w w' : World} {H p : Nat} {ad v lf : Value} {bs : List UInt8} (h : PrM w H p ad v lf bs) (ho : Ext w w') : PrM w' H p ad v lf bs := ⟨ho.blk h.cell (fun h => h), h.adr, own_ext h.row ho, h.hp⟩
theorem PrM.lt {w : World} {H p : Nat} {ad v lf : Value} {bs : List UInt8} (h : PrM w H p ad v lf bs) : H ≤ p ∧ p < w.heap.size := ⟨h.hp, (Array.getElem?_eq_some_iff.1 h.cell).1⟩
/-- what a printer writes: its own cell, rows of bytes -/
def FP (H p : Nat) (w : World) (k : Nat) : Prop := k = p ∨ (H ≤ k ∧ ∃ c d, w.heap[k]? = some (.cells c 5 d))
theorem FP.tr {H p : Nat} {a b c : World} (h : Only (FP H p a) a b) (k : Only (FP H p b) b c) : Only (FP H p a) a c :=
  h.trans' k (fun _ h => h) (fun j hj hF => by
    rcases hF with hF | ⟨h1, x, d, h2⟩
    · exact .inl hF
    · by_cases hn : FP H p a j
      · exact hn
      · have := h.block j hj hn
        exact .inr ⟨h1, x, d, by rw [← this]; exact h2⟩)
theorem FP.ext {H p : Nat} {a b c : World} (h : Only (FP H p a) a b) (k : Ext b c) : Only (FP H p a) a c := h.trans' k (fun _ h => h) (fun _ _ h => h.elim)
/-- a block of another type stays -/
theorem FP.blk {H p : Nat} {a b : World} (h : Only (FP H p a) a b) {k : Nat} {cs : Array Value} {T : TypeId} {fr : Nat × Nat} (hk : a.heap[k]? = some (.cells cs T fr)) (hT : T ≠ 5) (hp : k ≠ p) : b.heap[k]? = some (.cells cs T fr) :=
  h.blk hk (fun hF => by
    rcases hF with hF | ⟨-, c, d, h2⟩
    · exact hp hF
    · rw [hk] at h2; simp only [Option.some.injEq, Obj.cells.injEq] at h2; exact hT h2.2.1)
theorem FP.off {H p : Nat} {a : World} {k : Nat} (hp : H ≤ p) (h : k < H) : ¬ FP H p a k := fun hF => by
  rcases hF with hF | ⟨h1, -⟩ <;> omega
theorem own_u8 {w : World} {base b : Nat} {n : Nat} {v : Value} {xs : List Value} (h : w.ownsRow base 5 1 v n xs) (hb : v.ownBlock = some b) : ∃ c d, w.heap[b]? = some (.cells c 5 d) := by
  rcases h.2 with ⟨rfl, _⟩ | ⟨g, cap, cur, rfl, h1, h2, r⟩
  · simp [Value.ownBlock] at hb
  · simp only [Value.ownBlock, Option.some.injEq] at hb
    subst hb
    exact ⟨cur, _, h2⟩

theorem copycheck_fresh (H p : Nat) (v lf : Value) (bs : List UInt8) (w0 : World) (hM : PrM w0 H p (.pointer none) v lf bs) : Ca Tryd.prog 61 #[.pointer (some ⟨p, 0, none⟩)] w0 (fun u w' => PrM w' H p (.pointer (some ⟨p, 0, none⟩)) v lf bs ∧ Only (fun k => k = p) w0 w') := by
  have hcell := hM.cell
  refine Ca.of Tryd.func61 Tryd.ntmps61 rfl rfl ?_
  refine W.seq ?_
  refine W.region ?_
  refine WL.c rfl (o_mvh (by first | exact (show _ = Value.pointer _ from rfl) | exact rfl) ?_)
  refine WL.c rfl (o_nil rfl ?_)
  refine WL.c rfl (o_fa 0 TI49 rfl TI46 rfl rfl ?_)
  refine WL.c rfl (o_ld TI46 rfl rfl (cell_of hcell rfl) ?_)
  refine WL.c rfl (o_eqN TI46 rfl rfl ?_)
  refine WL.nil ?_
  refine W.condT' rfl (rfl) ?_
  refine W.region ?_
  refine WL.c rfl (o_mvh (by first | exact (show _ = Value.pointer _ from rfl) | exact rfl) ?_)
  refine WL.c rfl (o_mvh (by first | exact (show _ = Value.pointer _ from rfl) | exact rfl) ?_)
  refine WL.c rfl (o_cvPU Tryd.underlying46 Tryd.underlying115 TI49 (by decide) rfl hcell (by simp) ?_)
  refine WL.c rfl (o_callX Tryd.func71 (by kernel_rfl) rfl (by kernel_rfl) (show _ = some Extern.AbiNoEscape.same by kernel_rfl) (lc rfl ln) (rfl) ?_)
  refine WL.c rfl (o_cvUP Tryd.underlying115 Tryd.underlying46 TI49 rfl hcell (by kernel_rfl) ?_)
  refine WL.c rfl (o_nil rfl ?_)
  refine WL.c rfl (o_fa 0 TI49 rfl TI46 rfl rfl ?_)
  refine WL.u (o_stB TI46 rfl (show _ = Value.pointer (some ⟨p, 0, none⟩) from rfl) rfl hcell (show 0 < 3 by decide) ?_)
  intro wc hB13 ho hs13
  have hM2 : PrM wc H p (.pointer (some ⟨p, 0, none⟩)) v lf bs := ⟨hB13, .inr rfl, own_only hM.row ho (fun k hk he => by subst he; exact own_off hM.row hcell (by decide) hk), hM.hp⟩
  refine WL.nil ?_
  refine ret0 rfl ?_
  exact ⟨hM2, ho⟩
theorem copycheck_used (H p : Nat) (v lf : Value) (bs : List UInt8) (w0 : World) (hM : PrM w0 H p (.pointer (some ⟨p, 0, none⟩)) v lf bs) : Ca Tryd.prog 61 #[.pointer (some ⟨p, 0, none⟩)] w0 (fun u w' => PrM w' H p (.pointer (some ⟨p, 0, none⟩)) v lf bs ∧ Only (fun k => k = p) w0 w') := by
  have hcell := hM.cell
  refine Ca.of Tryd.func61 Tryd.ntmps61 rfl rfl ?_
  refine W.seq ?_
  refine W.region ?_
  refine WL.c rfl (o_mvh (by first | exact (show _ = Value.pointer _ from rfl) | exact rfl) ?_)
  refine WL.c rfl (o_nil rfl ?_)
  refine WL.c rfl (o_fa 0 TI49 rfl TI46 rfl rfl ?_)
  refine WL.c rfl (o_ld TI46 rfl rfl (cell_of hcell rfl) ?_)
  refine WL.c rfl (o_eqN TI46 rfl rfl ?_)
  refine WL.nil ?_
  refine W.condF' rfl (rfl) ?_
  refine W.seq ?_
  refine W.region ?_
  refine WL.c rfl (o_mvh (by first | exact (show _ = Value.pointer _ from rfl) | exact rfl) ?_)
  refine WL.c rfl (o_nil rfl ?_)
  refine WL.c rfl (o_fa 0 TI49 rfl TI46 rfl rfl ?_)
  refine WL.c rfl (o_ld TI46 rfl rfl (cell_of hcell rfl) ?_)
  refine WL.c rfl (o_mvh (by first | exact (show _ = Value.pointer _ from rfl) | exact rfl) ?_)
  refine WL.c rfl (o_neP Tryd.underlying46 TI49 rfl rfl ?_)
  refine WL.nil ?_
  refine W.condF' rfl (rfl) ?_
  refine W.skip ?_
  refine ret0 rfl ?_
  exact ⟨hM, Only.refl _ _⟩

theorem copycheck_spec (H p : Nat) (ad v lf : Value) (bs : List UInt8) (w0 : World) (hM : PrM w0 H p ad v lf bs) : Ca Tryd.prog 61 #[.pointer (some ⟨p, 0, none⟩)] w0 (fun u w' => PrM w' H p (.pointer (some ⟨p, 0, none⟩)) v lf bs ∧ Only (fun k => k = p) w0 w') := by
  rcases hM.adr with h | h
  · subst h; exact copycheck_fresh H p v lf bs w0 hM
  · subst h; exact copycheck_used H p v lf bs w0 hM

theorem write_spec (H p : Nat) (ad v lf : Value) (bs s : List UInt8) (w0 : World) (hM : PrM w0 H p ad v lf bs) (hl : bs.length + s.length ≤ 140737488355328) : Ca Tryd.prog 37 #[.pointer (some ⟨p, 0, none⟩), st s] w0 (fun u w' => ∃ ad' v', PrM w' H p ad' v' lf (bs ++ s) ∧ Only (FP H p w0) w0 w') := by
  refine Ca.of Tryd.func37 Tryd.ntmps37 rfl rfl ?_
  refine W.seq ?_
  refine W.region ?_
  refine WL.c rfl (o_ash (show _ = Value.int _ _ from rfl) ?_)
  refine WL.c rfl (o_as ?_)
  refine WL.nil ?_
  refine W.seq ?_
  refine W.region ?_
  refine WL.c rfl (o_mvh (by first | exact (show _ = Value.pointer _ from rfl) | exact rfl) ?_)
  refine WL.c rfl (o_call Tryd.call61 (lc rfl ln) ((copycheck_spec H p ad v lf bs _ hM).mono ?_))
  rintro v7 w7 ⟨hM7, ho7⟩
  have hcell := hM7.cell
  have hlt := hM7.lt
  have hmx : 140737488355328 ≤ maxLen := by rw [maxLen_eq]; decide
  refine WL.nil ?_
  refine W.seq ?_
  refine W.region ?_
  refine WL.c rfl (o_mvh (by first | exact (show _ = Value.pointer _ from rfl) | exact rfl) ?_)
  refine WL.c rfl (o_mvh (by first | exact (show _ = Value.pointer _ from rfl) | exact rfl) ?_)
  refine WL.c rfl (o_nil rfl ?_)
  refine WL.c rfl (o_fa 1 TI49 rfl TI47 rfl rfl ?_)
  refine WL.c rfl (o_ld TI47 rfl rfl (cell_of hcell rfl) ?_)
  refine WL.c rfl (o_mvh (show _ = Value.string _ from rfl) ?_)
  refine WL.c rfl (o_apS (H) TI47 TI5 TI9 rfl rfl hM7.row rfl (by omega) hl (by omega) ?_)
  intro v14 w14 hr14 ho14
  rw [← List.map_append, ← List.length_append] at hr14
  have hoff := own_off hM7.row hcell (show 5 ≠ 51 by decide)
  have hc14 := ho14.blk hcell hoff
  have hge := fun k hk => (hM7.row.lt k hk).1
  have hu8 := fun k (hk : v.ownBlock = some k) => own_u8 hM7.row hk
  refine WL.c rfl (o_nil rfl ?_)
  refine WL.c rfl (o_fa 1 TI49 rfl TI47 rfl rfl ?_)
  refine WL.u (o_stB TI47 rfl (show _ = v14 from rfl) (own_one hr14) hc14 (show 1 < 3 by decide) ?_)
  intro w16 hB16 ho16 hs16
  have hM2 : PrM w16 H p (.pointer (some ⟨p, 0, none⟩)) v14 lf (bs ++ s) := ⟨hB16, .inr rfl, own_only hr14 ho16 (fun k hk he => by subst he; exact own_off hr14 hc14 (by decide) hk), hM7.hp⟩
  have hO : Only (FP H p w0) w0 w16 := FP.tr (ho7.mono (fun k _ h => .inl h)) (FP.tr (ho14.mono (fun k _ h => .inr ⟨hge k h, hu8 k h⟩)) (ho16.mono (fun k _ h => .inl h)))
  refine WL.nil ?_
  refine W.seq ?_
  refine W.region ?_
  refine WL.c rfl (o_mvh (show _ = Value.string _ from rfl) ?_)
  refine WL.c rfl (o_lenT TI9 rfl ?_)
  refine WL.c rfl (o_ash (show _ = Value.int _ _ from rfl) ?_)
  refine WL.c rfl (o_as ?_)
  refine WL.nil ?_
  refine W.ret ?_
  refine ret2v rfl (show _ = Value.int _ _ from rfl) rfl ?_
  exact ⟨_, _, hM2, hO⟩
theorem blen_spec (H p : Nat) (ad v lf : Value) (bs : List UInt8) (w0 : World) (hM : PrM w0 H p ad v lf bs) : Ca Tryd.prog 18 #[.pointer (some ⟨p, 0, none⟩)] w0 (fun u w' => u = .int .i64 (bs.length : Int) ∧ w' = w0) := by
  refine Ca.of Tryd.func18 Tryd.ntmps18 rfl rfl ?_
  refine W.seq ?_
  refine W.region ?_
  refine WL.c rfl (o_ash (show _ = Value.int _ _ from rfl) ?_)
  refine WL.nil ?_
  refine W.seq ?_
  refine W.region ?_
  refine WL.c rfl (o_mvh (by first | exact (show _ = Value.pointer _ from rfl) | exact rfl) ?_)
  refine WL.c rfl (o_nil rfl ?_)
  refine WL.c rfl (o_fa 1 TI49 rfl TI47 rfl rfl ?_)
  refine WL.c rfl (o_ld TI47 rfl rfl (cell_of hM.cell rfl) ?_)
  refine WL.c rfl (o_lenR TI47 rfl (Sl.own hM.row) ?_)
  refine WL.c rfl (o_ash (show _ = Value.int _ _ from rfl) ?_)
  refine WL.nil ?_
  refine W.ret ?_
  refine ret1v rfl (show _ = Value.int _ _ from rfl) ?_
  exact ⟨rfl, rfl⟩
end Go.Proofs.YtanimeifmicmoaaDoor

namespace Go.Proofs
open Go.Shelf
def Tryd.laysM171_ren : Go.Shelf.Ren := ⟨fun | 171 => 38 | 243 => 62 | 246 => 72 | 283 => 75 | 284 => 76 | 285 => 77 | 286 => 78 | 129 => 81 | 317 => 80 | 318 => 82 | 319 => 83 | 320 => 84 | 337 => 85 | 338 => 86 | n => n, fun | 3 => 3 | 9 => 9 | 2 => 2 | 4 => 4 | 171 => 118 | 0 => 0 | 53 => 119 | 37 => 47 | 5 => 5 | 173 => 122 | 212 => 126 | 51 => 127 | 20 => 20 | 213 => 128 | 46 => 130 | 232 => 133 | 233 => 134 | n => n, fun | 17 => 1 | 18 => 3 | 19 => 4 | n => n⟩
theorem Tryd.laysM171 : Go.Proofs.LaysM.n171 Tryd.prog Tryd.laysM171_ren := {
  mixed := by kernel_rfl
  f129 := Tryd.func81.trans (congrArg some (by kernel_rfl))
  f171 := Tryd.func38.trans (congrArg some (by kernel_rfl))
  f243 := Tryd.func62.trans (congrArg some (by kernel_rfl))
  f246 := Tryd.func72.trans (congrArg some (by kernel_rfl))
  f283 := Tryd.func75.trans (congrArg some (by kernel_rfl))
  f284 := Tryd.func76.trans (congrArg some (by kernel_rfl))
  f285 := Tryd.func77.trans (congrArg some (by kernel_rfl))
  f286 := Tryd.func78.trans (congrArg some (by kernel_rfl))
  f317 := Tryd.func80.trans (congrArg some (by kernel_rfl))
  f318 := Tryd.func82.trans (congrArg some (by kernel_rfl))
  f319 := Tryd.func83.trans (congrArg some (by kernel_rfl))
  f320 := Tryd.func84.trans (congrArg some (by kernel_rfl))
  f337 := Tryd.func85.trans (congrArg some (by kernel_rfl))
  f338 := Tryd.func86.trans (congrArg some (by kernel_rfl))
  t0 := Tryd.underlying0
  a0 := Tryd.isAgg0
  z0 := Tryd.sizeOf0
  v0 := Tryd.zeroValue0
  t2 := Tryd.underlying2
  a2 := Tryd.isAgg2
  z2 := Tryd.sizeOf2
  v2 := Tryd.zeroValue2
  t3 := Tryd.underlying3
  a3 := Tryd.isAgg3
  z3 := Tryd.sizeOf3
  v3 := Tryd.zeroValue3
  t4 := Tryd.underlying4
  a4 := Tryd.isAgg4
  z4 := Tryd.sizeOf4
  v4 := Tryd.zeroValue4
  t5 := Tryd.underlying5
  a5 := Tryd.isAgg5
  z5 := Tryd.sizeOf5
  v5 := Tryd.zeroValue5
  t9 := Tryd.underlying9
  a9 := Tryd.isAgg9
  z9 := Tryd.sizeOf9
  v9 := Tryd.zeroValue9
  t20 := Tryd.underlying20
  a20 := Tryd.isAgg20
  z20 := Tryd.sizeOf20
  v20 := Tryd.zeroValue20
  t37 := Tryd.underlying47
  a37 := Tryd.isAgg47
  z37 := Tryd.sizeOf47
  v37 := Tryd.zeroValue47
  t46 := Tryd.underlying130
  a46 := Tryd.isAgg130
  z46 := Tryd.sizeOf130
  v46 := Tryd.zeroValue130
  t51 := Tryd.underlying127
  a51 := Tryd.isAgg127
  z51 := Tryd.sizeOf127
  v51 := Tryd.zeroValue127
  t53 := Tryd.underlying119
  a53 := Tryd.isAgg119
  z53 := Tryd.sizeOf119
  v53 := Tryd.zeroValue119
  t171 := Tryd.underlying118
  a171 := Tryd.isAgg118
  z171 := Tryd.sizeOf118
  v171 := Tryd.zeroValue118
  t173 := Tryd.underlying122
  a173 := Tryd.isAgg122
  z173 := Tryd.sizeOf122
  v173 := Tryd.zeroValue122
  t212 := Tryd.underlying126
  a212 := Tryd.isAgg126
  z212 := Tryd.sizeOf126
  v212 := Tryd.zeroValue126
  t213 := Tryd.underlying128
  a213 := Tryd.isAgg128
  z213 := Tryd.sizeOf128
  t232 := Tryd.underlying133
  a232 := Tryd.isAgg133
  z232 := Tryd.sizeOf133
  v232 := Tryd.zeroValue133
  t233 := Tryd.underlying134
  a233 := Tryd.isAgg134
  z233 := Tryd.sizeOf134
  v233 := Tryd.zeroValue134
  g17 := by kernel_rfl
  g18 := by kernel_rfl
  g19 := by kernel_rfl
  i0 := by kernel_rfl
  i2 := by kernel_rfl
  i3 := by kernel_rfl
  i4 := by kernel_rfl
  i5 := by kernel_rfl
  i9 := by kernel_rfl
  i20 := by kernel_rfl
  i37 := by kernel_rfl
  i46 := by kernel_rfl
  i51 := by kernel_rfl
  i53 := by kernel_rfl
  i171 := by kernel_rfl
  i173 := by kernel_rfl
  i212 := by kernel_rfl
  i232 := by kernel_rfl
  i233 := by kernel_rfl
  m17 := by kernel_rfl
  m18 := by kernel_rfl
  m19 := by kernel_rfl }
open Go.RowKit Go.Sort Go.Lib in
/-- strconv.Itoa: "Itoa is equivalent to FormatInt(int64(i), 10).": i's DECIMAL NUMERAL ('Lib.itoa': a '-' where i is negative, then the digits), FOR EVERY int. The world behind the call: the world before it, new blocks behind the heap (the library's 'var a [24]byte'), draws. (LAID: no walk: one application.) -/
theorem Tryd.strconv_Itoa (n : Int) (h0 : -9223372036854775808 ≤ n) (h1 : n ≤ 9223372036854775807) (w : World) (htab : Lib.TabIs Tryd.prog w "internal/strconv.uint64pow10" .u64 Lib.pow10Tab) :
    Calls Tryd.prog 38 #[.int .i64 n] w fun e w' => e = .returned (.string ⟨(Lib.itoa n).toArray⟩) ∧ ∃ k os, w' = grow (w.drewN k) os := Any.strconv_Itoa Tryd.laysM171 n h0 h1 w htab
end Go.Proofs

set_option linter.unusedSimpArgs false
set_option linter.unusedVariables false
set_option maxRecDepth 100000
namespace Go.Proofs.YtanimeifmicmoaaDoor
open Go Go.Vc Go.RowKit Go.Proofs

/-- the table of the library lies where it lies -/
def tabC : Array Value := (Lib.pow10Tab.map fun z => Value.int .u64 z).toArray
def Tab (w : World) : Prop := ∃ T fr, w.heap[1]? = some (.cells tabC T fr)
theorem Tab.only {w w' : World} {F : Nat → Prop} (h : Tab w) (ho : Only F w w') (hn : ¬ F 1) : Tab w' := by
  obtain ⟨T, fr, h⟩ := h
  exact ⟨T, fr, ho.blk h hn⟩
theorem Tab.ext {w w' : World} (h : Tab w) (ho : Ext w w') : Tab w' := h.only ho (fun h => h)
theorem only_grow (w : World) (os : Array Obj) : Ext w (Go.Sort.grow w os) := ⟨rfl, rfl, rfl, by simp [Go.Sort.grow], fun k hk _ => by simp only [Go.Sort.grow]; rw [Array.getElem?_append_left hk]⟩
theorem dec_digL : ∀ n, Lib.decDigits n = digL n := by
  intro n
  induction n using Nat.strongRecOn with
  | _ n ih =>
    rw [Lib.decDigits, digL]
    by_cases h : n < 10
    · rw [if_pos h]; simp [h]
    · rw [if_neg h]; simp only [h, dif_neg, not_false_iff]; rw [ih (n / 10) (by omega)]
theorem itoa_spec (n : Nat) (hn : n ≤ 9223372036854775807) (w0 : World) (hT : Tab w0) : Ca Tryd.prog 38 #[.int .i64 (n : Int)] w0 (fun v w' => v = st (digL n) ∧ Ext w0 w') := by
  have htab : Lib.TabIs Tryd.prog w0 "internal/strconv.uint64pow10" .u64 Lib.pow10Tab := by
    obtain ⟨T, fr, h⟩ := hT
    have hg : (Tryd.prog).globalNamed "internal/strconv.uint64pow10" = some 1 := by kernel_rfl
    simp only [Lib.TabIs, World.var?, hg, Option.bind_some, h]
    rfl
  refine Calls.mono (Tryd.strconv_Itoa (n : Int) (by omega) (by omega) w0 htab) ?_
  rintro e w' ⟨rfl, k, os, rfl⟩
  refine ⟨?_, (Only.drewN w0 k).tr (only_grow _ os)⟩
  rw [Lib.itoa_nonneg, dec_digL]
mutual
def Tr.sh : Tr → List UInt8
  | .node y ks =>
    if y.kind = 1 then [117] ++ digL (8 * y.n).toNat
    else if y.kind = 2 then [98, 111, 111, 108]
    else if y.kind = 3 then [118, 97, 114, 105, 110, 116]
    else if y.kind = 9 then y.name
    else if y.kind = 4 ∨ y.kind = 5 then (if y.kind = 4 then [118, 101, 99, 116, 111, 114, 60] else [108, 105, 115, 116, 60]) ++ (ks.shK ++ ([44] ++ (digL y.n.toNat ++ [62])))
    else if y.kind = 6 then [111, 112, 116, 105, 111, 110, 60] ++ (ks.shK ++ [62])
    else (if y.kind = 8 then [115, 116, 114, 117, 99, 116, 123] else [117, 110, 105, 111, 110, 123]) ++ (ks.shR (decide (y.kind = 8)) true ++ [125])
def Trs.shK : Trs → List UInt8
  | .nil => []
  | .cons t ts => t.sh ++ ts.shK
def Trs.shR (s first : Bool) : Trs → List UInt8
  | .nil => []
  | .cons t ts => (if first then [] else [44]) ++ ((if s then t.top.label else digL t.top.tag.toNat) ++ ([58] ++ (t.sh ++ ts.shR s false)))
end
def shHd (s : Bool) (y : Ex) : List UInt8 := (if s then y.label else digL y.tag.toNat) ++ [58]
theorem r_uSD {P : Program} {e : Env} {w : World} {ty : TypeId} {x : Operand} {t : TypeId} {a : Addr} {n c : Nat} (hx : ev e x = .slice (some a) n c) (hc : c ≠ 0) : RV P e (.call ⟨.builtin .unsafeSliceData, #[x], #[t]⟩) ty w (.pointer (some a)) := by
  have := Lib.run_unsafeSliceData_row (P := P) w #[t] ty a n c hc; simp [RV, execOp, resolve, invoke, builtin, hx, this]
theorem r_uSD0 {P : Program} {e : Env} {w : World} {ty : TypeId} {x : Operand} {t : TypeId} {n c : Nat} (hx : ev e x = .slice none n c) : RV P e (.call ⟨.builtin .unsafeSliceData, #[x], #[t]⟩) ty w (.pointer none) := by
  have := Lib.run_unsafeSliceData_nil (P := P) w #[t] ty n c; simp [RV, execOp, resolve, invoke, builtin, hx, this]

theorem bstr_full (H p : Nat) (ad v lf : Value) (bs : List UInt8) (w0 : World) (hM : PrM w0 H p ad v lf bs) (h0 : bs ≠ []) : Ca Tryd.prog 19 #[.pointer (some ⟨p, 0, none⟩)] w0 (fun u w' => u = st bs ∧ Only (fun k => H ≤ k) w0 w') := by
  have hlen : 0 < bs.length := List.length_pos_iff.2 h0
  obtain ⟨g, cap, hv, hgb⟩ := own_some hM.row hlen
  subst hv
  have hcell := hM.cell
  obtain ⟨cap2, cur, hv2, hHg, hBg, hnc, hcm, hcs, ht⟩ := own_blk hM.row hgb
  cases hv2
  have hmx := maxLen_eq
  have hCb : Cells w0 g 0 (bs.map bv) := by
    rcases (Sl.own hM.row).val with ⟨hz, -⟩ | ⟨b, o, c, hvv, -, hc⟩
    · omega
    · cases hvv; exact hc
  refine Ca.of Tryd.func19 Tryd.ntmps19 rfl rfl ?_
  refine W.seq ?_
  refine W.region ?_
  refine WL.c rfl (o_ash (show _ = Value.string _ from rfl) ?_)
  refine WL.nil ?_
  refine W.seq ?_
  refine W.tail 10 rfl (by kernel_rfl) ?_
  refine WS.c rfl ((SO.o rfl (o_mvh (by first | exact (show _ = Value.pointer _ from rfl) | exact rfl) ⟨rfl, rfl⟩))) ?_
  refine WS.c rfl ((SO.r (r_nil rfl))) ?_
  refine WS.c rfl ((SO.o rfl (o_fa 1 TI49 rfl TI47 rfl rfl ⟨rfl, rfl⟩))) ?_
  refine WS.c rfl ((SO.o rfl (o_ld TI47 rfl rfl (cell_of hcell rfl) ⟨rfl, rfl⟩))) ?_
  refine WS.c rfl ((SO.r (r_uSD rfl (by omega)))) ?_
  refine WS.c rfl ((SO.o rfl (o_mvh (by first | exact (show _ = Value.pointer _ from rfl) | exact rfl) ⟨rfl, rfl⟩))) ?_
  refine WS.c rfl ((SO.r (r_nil rfl))) ?_
  refine WS.c rfl ((SO.o rfl (o_fa 1 TI49 rfl TI47 rfl rfl ⟨rfl, rfl⟩))) ?_
  refine WS.c rfl ((SO.o rfl (o_ld TI47 rfl rfl (cell_of hcell rfl) ⟨rfl, rfl⟩))) ?_
  refine WS.c rfl ((SO.r (r_lenR TI47 rfl (Sl.own hM.row)))) ?_
  refine WS.nil ?_
  have hxd := Only.drew w0
  obtain ⟨wd, hwd⟩ : ∃ wd, wd = w0.drew := ⟨_, rfl⟩
  rw [← hwd] at hxd ⊢
  replace hBg := hxd.blk hBg (fun h => h)
  replace hCb := hCb.only hxd (fun h => h)
  refine WL.c rfl (o_uS Tryd.underlying87 (by kernel_rfl) rfl rfl hBg h0 (by omega) (by omega) hCb ?_)
  intro w13 ho13
  refine WL.c rfl (o_ash (show _ = Value.string _ from rfl) ?_)
  refine WL.nil ?_
  refine W.ret ?_
  refine ret1v rfl (show _ = st bs from rfl) ?_
  exact ⟨rfl, (hxd.mono (fun _ _ h => h.elim)).trans (ho13.mono (fun k _ h => by subst h; exact hHg))⟩
theorem bstr_nil (H p : Nat) (ad lf : Value) (w0 : World) (hM : PrM w0 H p ad (.slice none 0 0) lf []) : Ca Tryd.prog 19 #[.pointer (some ⟨p, 0, none⟩)] w0 (fun u w' => u = st [] ∧ Only (fun k => H ≤ k) w0 w') := by
  have hcell := hM.cell
  refine Ca.of Tryd.func19 Tryd.ntmps19 rfl rfl ?_
  refine W.seq ?_
  refine W.region ?_
  refine WL.c rfl (o_ash (show _ = Value.string _ from rfl) ?_)
  refine WL.nil ?_
  refine W.seq ?_
  refine W.tail 10 rfl (by kernel_rfl) ?_
  refine WS.c rfl ((SO.o rfl (o_mvh (by first | exact (show _ = Value.pointer _ from rfl) | exact rfl) ⟨rfl, rfl⟩))) ?_
  refine WS.c rfl ((SO.r (r_nil rfl))) ?_
  refine WS.c rfl ((SO.o rfl (o_fa 1 TI49 rfl TI47 rfl rfl ⟨rfl, rfl⟩))) ?_
  refine WS.c rfl ((SO.o rfl (o_ld TI47 rfl rfl (cell_of hcell rfl) ⟨rfl, rfl⟩))) ?_
  refine WS.c rfl ((SO.r (r_uSD0 rfl))) ?_
  refine WS.c rfl ((SO.o rfl (o_mvh (by first | exact (show _ = Value.pointer _ from rfl) | exact rfl) ⟨rfl, rfl⟩))) ?_
  refine WS.c rfl ((SO.r (r_nil rfl))) ?_
  refine WS.c rfl ((SO.o rfl (o_fa 1 TI49 rfl TI47 rfl rfl ⟨rfl, rfl⟩))) ?_
  refine WS.c rfl ((SO.o rfl (o_ld TI47 rfl rfl (cell_of hcell rfl) ⟨rfl, rfl⟩))) ?_
  refine WS.c rfl ((SO.r (r_lenR TI47 rfl (Sl.own hM.row)))) ?_
  refine WS.nil ?_
  have hxd := Only.drew w0
  obtain ⟨wd, hwd⟩ : ∃ wd, wd = w0.drew := ⟨_, rfl⟩
  rw [← hwd] at hxd ⊢
  refine WL.c rfl (o_uS0 rfl rfl ?_)
  refine WL.c rfl (o_ash (show _ = Value.string _ from rfl) ?_)
  refine WL.nil ?_
  refine W.ret ?_
  refine ret1v rfl (show _ = st [] from rfl) ?_
  exact ⟨rfl, hxd.mono (fun _ _ h => h.elim)⟩
theorem text_spec (H p : Nat) (ad v lf : Value) (bs : List UInt8) (b : Nat) (ss : List (List UInt8)) (w0 : World) (hM : PrM w0 H p ad v lf bs) (hB : w0.heap[b]? = some (.cells (ss.map st).toArray 9 (0, 0))) (hbp : b ≠ p) (hb : bs.length + ss.flatten.length ≤ 140737488355328) (hn : ss.length ≤ 100) : Ca Tryd.prog 16 #[.pointer (some ⟨p, 0, none⟩), .slice (some ⟨b, 0, none⟩) ss.length ss.length] w0 (fun u w' => ∃ ad' v', PrM w' H p ad' v' lf (bs ++ ss.flatten) ∧ Only (FP H p w0) w0 w') := by
  have hx : Only (FP H p w0) w0 w0 := Only.refl _ _
  refine Ca.of Tryd.func16 Tryd.ntmps16 rfl rfl ?_
  refine W.seq ?_
  refine W.region ?_
  refine WL.c rfl (o_mvh (by first | exact (show _ = Value.slice _ _ _ from rfl) | exact rfl) ?_)
  refine WL.c rfl (o_len TI78 rfl ?_)
  refine WL.c rfl (o_mvh (show _ = Value.int _ _ from rfl) ?_)
  refine WL.nil ?_
  refine W.block ?_
  refine W.loop (fun e w => ∃ (k : Nat) (ad v : Value), k ≤ ss.length ∧ e 0 = .pointer (some ⟨p, 0, none⟩) ∧ e 6 = .slice (some ⟨b, 0, none⟩) ss.length ss.length ∧ e 7 = .int .i64 (ss.length : Int) ∧ e 8 = .int .i64 (k : Int) ∧ PrM w H p ad v lf (bs ++ (ss.take k).flatten) ∧ w.heap[b]? = some (.cells (ss.map st).toArray 9 (0, 0)) ∧ Only (FP H p w0) w0 w) (fun e w => ss.length - (intOf (e 8)).toNat) ?_ ?_
  · exact ⟨0, ad, v, Nat.zero_le _, rfl, rfl, rfl, rfl, by simpa using hM, hB, hx⟩
  rintro e w ⟨k, ad, v, hk, h0, h6, h7, h8, hM, hB, hx⟩
  have hm8 := h8
  refine W.seq ?_
  refine W.region ?_
  refine WL.c rfl (o_lt h8 h7 ?_)
  refine WL.nil ?_
  refine W.seq ?_
  refine W.cond rfl (fun c9 => ?_) (fun c9 => ?_)
  · try simp only [decide_eq_true_eq, decide_eq_false_iff_not, Bool.not_eq_true', Bool.not_eq_false', Bool.and_eq_true, Bool.or_eq_true, Bool.and_eq_false_iff, Bool.or_eq_false_iff] at c9
    have hk1 : k < ss.length := by omega
    have htk : bs ++ (ss.take k).flatten ++ ss[k] = bs ++ (ss.take (k + 1)).flatten := by
      have h1 : ss.take (k + 1) = ss.take k ++ [ss[k]] := by rw [List.take_add_one, List.getElem?_eq_getElem hk1]; rfl
      rw [h1, List.flatten_append, List.append_assoc]; simp
    have hfl : (ss.take k).flatten.length + ss[k].length ≤ ss.flatten.length := by
      have h1 : ss.flatten = (ss.take (k + 1)).flatten ++ (ss.drop (k + 1)).flatten := by rw [← List.flatten_append, List.take_append_drop]
      have h2 := congrArg List.length h1
      have h3 := congrArg List.length htk
      simp only [List.length_append] at h2 h3
      omega
    have hcell : w.cell? ⟨b, 0 + k * 1, none⟩ = some (st ss[k]) := by
      have h1 : Cells w b 0 (ss.map st) := Cells.of hB 0 _ (by simp)
      have h2 := h1 k (st ss[k]) (by simp [hk1])
      simpa using h2
    refine W.skip ?_
    refine W.seq ?_
    refine W.block ?_
    refine W.seq ?_
    refine W.region ?_
    refine WL.c rfl (o_ixB TI78 TI9 h6 h8 (by omega) ?_)
    refine WL.c rfl (o_ld TI9 rfl rfl hcell ?_)
    refine WL.c rfl (o_ash (show _ = Value.string _ from rfl) ?_)
    refine WL.nil ?_
    refine W.region ?_
    refine WL.c rfl (o_mvh h0 ?_)
    refine WL.c rfl (o_nil rfl ?_)
    refine WL.c rfl (o_fa 0 TI51 rfl TI49 rfl rfl ?_)
    refine WL.c rfl (o_mvh (show _ = Value.string _ from rfl) ?_)
    refine WL.c rfl (o_call Tryd.call37 (lc rfl (lc rfl ln)) ((write_spec H p ad v lf _ ss[k] _ hM (by rw [List.length_append]; omega)).mono ?_))
    rintro v16 w16 ⟨ad', v', hM2, ho16⟩
    replace hB := FP.blk ho16 hB (by decide) hbp
    replace hx := FP.tr hx ho16
    clear hM
    have hM := hM2
    clear hM2
    refine WL.nil ?_
    refine W.region ?_
    refine WL.c rfl (o_addi h8 rfl (by omega) ?_)
    refine WL.c rfl (o_mvh (show _ = Value.int _ _ from rfl) ?_)
    refine WL.nil ?_
    refine ⟨⟨k + 1, ad', v', by omega, h0, h6, h7, rfl, ?_, hB, hx⟩, ?_⟩
    · rw [← htk]; exact hM
    · show ss.length - ((k : Int) + 1).toNat < _
      rw [hm8]; simp [intOf]; omega
  · try simp only [decide_eq_true_eq, decide_eq_false_iff_not, Bool.not_eq_true', Bool.not_eq_false', Bool.and_eq_true, Bool.or_eq_true, Bool.and_eq_false_iff, Bool.or_eq_false_iff] at c9
    have hk1 : k = ss.length := by omega
    subst hk1
    rw [List.take_length] at hM
    refine W.exit ?_
    refine ret0 rfl ?_
    exact ⟨_, _, hM, hx⟩
end Go.Proofs.YtanimeifmicmoaaDoor

set_option linter.unusedSimpArgs false
set_option linter.unusedVariables false
set_option maxRecDepth 100000
namespace Go.Proofs.YtanimeifmicmoaaDoor
open Go Go.Vc Go.RowKit Go.Proofs

theorem sliced_one (a : Option Addr) (l h c s : Nat) : (sliced a l h c s).oneCell' = true := by
  unfold sliced; repeat' split
  all_goals rfl
def NPost (H p : Nat) (C : List Ex) (b2 : List UInt8) (w0 : World) (_ : Value) (w' : World) : Prop := ∃ ad' v' lf', PrM w' H p ad' v' lf' b2 ∧ Sl w' 7 lf' C.length (exs C) ∧ (∀ k, lf'.ownBlock = some k → k < H) ∧ Only (FP H p w0) w0 w'
def SNode (n : Nat) : Prop := ∀ (t : Tr) (above : Int) (deep H p : Nat) (ad v lf : Value) (C : List Ex) (bs : List UInt8) (w0 : World), t.flat.length ≤ n → t.wf above deep → PrM w0 H p ad v lf bs → Sl w0 7 lf (t.flat ++ C).length (exs (t.flat ++ C)) → (∀ k, lf.ownBlock = some k → k < H) → Tab w0 → 1 < H → bs.length + t.sh.length ≤ 140737488355328 →
  Ca Tryd.prog 17 #[.pointer (some ⟨p, 0, none⟩)] w0 (NPost H p C (bs ++ t.sh) w0)
def SEach (n : Nat) (s : Bool) (f : FuncId) : Prop := ∀ (t : Tr) (deep H p b1 : Nat) (ad v lf : Value) (C : List Ex) (bs : List UInt8) (w0 : World), t.flat.length ≤ n → t.wf (if s then 8 else 7) deep → PrM w0 H p ad v lf bs → w0.heap[b1]? = some (.cells #[.pointer (some ⟨p, 0, none⟩)] 77 (0, 0)) → b1 ≠ p → Sl w0 7 lf (t.flat ++ C).length (exs (t.flat ++ C)) → (∀ k, lf.ownBlock = some k → k < H) → Tab w0 → 1 < H → bs.length + (shHd s t.top ++ t.sh).length ≤ 140737488355328 →
  Ca Tryd.prog f #[.agg (exV t.top).toArray, .pointer (some ⟨b1, 0, none⟩)] w0 (NPost H p C (bs ++ (shHd s t.top ++ t.sh)) w0)
theorem fm_top {t : Tr} : ∃ F, t.flat = t.top :: F := by
  cases t with
  | node y ks => exact ⟨ks.flat, rfl⟩

theorem many_spec (n : Nat) (IH : SNode n) (t : Tr) (above : Int) (deep : Nat) (wd : List UInt8) (nn : Nat) (H p : Nat) (ad v lf : Value) (C : List Ex) (bs : List UInt8) (w0 : World) (hn : t.flat.length ≤ n) (hw : t.wf above deep) (hM : PrM w0 H p ad v lf bs) (hS : Sl w0 7 lf (t.flat ++ C).length (exs (t.flat ++ C))) (hlf : ∀ k, lf.ownBlock = some k → k < H) (hT : Tab w0) (h1H : 1 < H) (hnn : nn ≤ 9223372036854775807) (hb : bs.length + (wd ++ (t.sh ++ ([44] ++ (digL nn ++ [62])))).length ≤ 140737488355328) : Ca Tryd.prog 39 #[.pointer (some ⟨p, 0, none⟩), st wd, .int .i64 (nn : Int)] w0 (NPost H p C (bs ++ (wd ++ (t.sh ++ ([44] ++ (digL nn ++ [62]))))) w0) := by
  have hHp := hM.hp
  have hx : Only (FP H p w0) w0 w0 := Only.refl _ _
  refine Ca.of Tryd.func39 Tryd.ntmps39 rfl rfl ?_
  refine W.seq ?_
  refine W.region ?_
  refine WL.c rfl (o_mvh (by first | exact (show _ = Value.pointer _ from rfl) | exact rfl) ?_)
  refine WL.c rfl (o_mvh (show _ = Value.string _ from rfl) ?_)
  refine WL.c rfl (o_bs1 (v := st (wd)) TI78 TI9 (show _ = st (wd) from rfl) (by decide) (by decide) rfl ?_)
  have hB8 : (w0.alloc (Obj.cells (st (wd)).cells 9)).heap[w0.heap.size]? = some (.cells (List.map st [wd]).toArray 9 (0, 0)) := heap_alloc_new _ _
  have hxl := Only.alloc w0 (Obj.cells (st (wd)).cells 9)
  have hbp8 : w0.heap.size ≠ p := by have := hM.lt; omega
  generalize w0.alloc (Obj.cells (st (wd)).cells 9) = ws8 at hB8 hxl ⊢
  obtain ⟨b8, hb8⟩ : ∃ b, b = w0.heap.size := ⟨_, rfl⟩
  rw [← hb8] at hB8 hbp8 ⊢
  replace hS := hS.ext hxl
  replace hT := hT.ext hxl
  replace hM := hM.ext hxl
  replace hx := FP.ext hx hxl
  clear hxl
  refine WL.c rfl (o_call Tryd.call16 (lc rfl (lc rfl ln)) ((text_spec H p _ _ lf (bs) b8 [wd] _ hM hB8 hbp8 (by simp [List.length_append] at hb ⊢; omega) (by simp)).mono ?_))
  rintro v9 w9 ⟨ad9, vv9, hM2, ho9⟩
  replace hS := hS.only ho9 (fun k hk => FP.off hHp (hlf k hk))
  replace hT := hT.only ho9 (FP.off hHp h1H)
  replace hx := FP.tr hx ho9
  clear hM
  have hM := hM2
  clear hM2
  refine WL.nil ?_
  refine W.seq ?_
  refine W.region ?_
  refine WL.c rfl (o_mvh (by first | exact (show _ = Value.pointer _ from rfl) | exact rfl) ?_)
  have hIH := IH t above deep H p _ _ lf C _ _ hn hw hM hS hlf hT h1H (by simp [List.length_append] at hb ⊢; omega)
  refine WL.c rfl (o_call Tryd.call17 (lc rfl ln) ((hIH).mono ?_))
  rintro v11 w11 ⟨ad11, vv11, lf2, hM2, hS2, hlf2, ho11⟩
  replace hT := hT.only ho11 (FP.off hHp h1H)
  replace hx := FP.tr hx ho11
  clear hM hS hlf hIH
  have hM := hM2
  have hS := hS2
  have hlf := hlf2
  clear hM2 hS2 hlf2
  refine WL.nil ?_
  refine W.region ?_
  refine WL.c rfl (o_mvh (by first | exact (show _ = Value.pointer _ from rfl) | exact rfl) ?_)
  refine WL.c rfl (o_mvh (show _ = Value.int _ _ from rfl) ?_)
  refine WL.c rfl (o_call Tryd.call38 (lc rfl ln) ((itoa_spec nn hnn _ hT).mono ?_))
  rintro v14 w14 ⟨rfl, hx14⟩
  replace hS := hS.ext hx14
  replace hT := hT.ext hx14
  replace hM := hM.ext hx14
  replace hx := FP.ext hx hx14
  refine WL.c rfl (o_bsn (vs := [st ([44]), st (digL nn), st ([62])]) (xs := [(.const (.string (.mk #[44]))), (.tmp 14), (.const (.string (.mk #[62])))]) TI78 TI9 rfl (lc (show _ = Value.string _ from rfl) (lc (show _ = Value.string _ from rfl) (lc (show _ = Value.string _ from rfl) ln))) rfl rfl (by decide) (by decide) ?_)
  have hB15 : (w14.alloc (Obj.cells [st ([44]), st (digL nn), st ([62])].toArray 9)).heap[w14.heap.size]? = some (.cells (List.map st [[44], digL nn, [62]]).toArray 9 (0, 0)) := heap_alloc_new _ _
  have hxl := Only.alloc w14 (Obj.cells [st ([44]), st (digL nn), st ([62])].toArray 9)
  have hbp15 : w14.heap.size ≠ p := by have := hM.lt; omega
  generalize w14.alloc (Obj.cells [st ([44]), st (digL nn), st ([62])].toArray 9) = ws15 at hB15 hxl ⊢
  obtain ⟨b15, hb15⟩ : ∃ b, b = w14.heap.size := ⟨_, rfl⟩
  rw [← hb15] at hB15 hbp15 ⊢
  replace hS := hS.ext hxl
  replace hT := hT.ext hxl
  replace hM := hM.ext hxl
  replace hx := FP.ext hx hxl
  clear hxl
  refine WL.c rfl (o_call Tryd.call16 (lc rfl (lc rfl ln)) ((text_spec H p _ _ lf2 _ b15 [[44], digL nn, [62]] _ hM hB15 hbp15 (by simp [List.length_append] at hb ⊢; omega) (by simp)).mono ?_))
  rintro v16 w16 ⟨ad16, vv16, hM2, ho16⟩
  replace hS := hS.only ho16 (fun k hk => FP.off hHp (hlf k hk))
  replace hT := hT.only ho16 (FP.off hHp h1H)
  replace hx := FP.tr hx ho16
  clear hM
  have hM := hM2
  clear hM2
  refine WL.nil ?_
  refine ret0 rfl ?_
  exact ⟨_, _, _, by simpa [List.append_assoc] using hM, hS, hlf, hx⟩
theorem each_u (n : Nat) (IH : SNode n) : SEach n false 41 := by
  intro t deep H p b1 ad v lf C bs w0 hn hw hM hB1 hb1p hS hlf hT h1H hb
  obtain ⟨x, hx0⟩ : ∃ x, x = t.top := ⟨_, rfl⟩
  rw [← hx0] at hb ⊢
  have hHp := hM.hp
  have hx : Only (FP H p w0) w0 w0 := Only.refl _ _
  have hl1 := (Array.getElem?_eq_some_iff.1 hB1).1
  obtain ⟨-, -, g1, g2⟩ := rightB_iff (wf_top hw)
  rw [← hx0] at g1 g2
  have htg : 0 ≤ x.tag ∧ x.tag ≤ 2147483647 := by unfold tagB at g2; simp only [Bool.or_eq_true, Bool.and_eq_true, decide_eq_true_eq] at g2; omega
  have hdg := fun w hT => itoa_spec x.tag.toNat (by omega) w hT
  simp only [show ((x.tag.toNat : Nat) : Int) = x.tag by omega] at hdg
  refine Ca.of Tryd.func41 Tryd.ntmps41 rfl rfl ?_
  refine W.seq ?_
  refine W.region ?_
  refine WL.c rfl (o_boxB rfl ?_)
  intro w2 hC2 hx2 hs2
  obtain ⟨b2, hb2⟩ : ∃ b, b = w0.heap.size := ⟨_, rfl⟩
  rw [← hb2] at hC2 ⊢
  have hb2p : b2 ≠ p := by have := hM.lt; omega
  replace hC2 : w2.heap[b2]? = some (.cells (exV x).toArray 36 (0, 0)) := hC2
  replace hS := hS.ext hx2
  replace hT := hT.ext hx2
  replace hM := hM.ext hx2
  replace hx := FP.ext hx hx2
  replace hB1 := hx2.blk hB1 (fun h => h)
  refine WL.nil ?_
  refine W.seq ?_
  obtain ⟨wd, hwd⟩ : ∃ wd, wd = w2.drew := ⟨_, rfl⟩
  have hxd : Ext w2 wd := hwd ▸ Only.drew w2
  replace hS := hS.ext hxd
  replace hT := hT.ext hxd
  replace hM := hM.ext hxd
  replace hx := FP.ext hx hxd
  replace hB1 := hxd.blk hB1 (fun h => h)
  replace hC2 := hxd.blk hC2 (fun h => h)
  refine W.drawT 5 (Ext) [(1, fun v _ => v = _), (2, fun v _ => v = _)] rfl (by kernel_rfl) (Only.refl No) (fun _ _ _ h k => h.trans k) ⟨Mono.eq, Mono.eq, trivial⟩ ⟨rfl, rfl, trivial⟩ ?_
  refine WD.p rfl (fun e w hR hh => by obtain ⟨h1, -⟩ := hh; rw [← hwd] at hR; exact SG.n (o_ld TI77 rfl h1 (cell_of (hR.blk hB1 (fun h => h)) rfl) ⟨rfl, Only.refl No _⟩)) ?_
  refine WD.p rfl (fun e w hR hh => by obtain ⟨h2, -⟩ := hh; exact SG.n (o_fa 4 TI36 rfl TI3 rfl h2 ⟨rfl, Only.refl No _⟩)) ?_
  refine WD.p rfl (fun e w hR hh => by obtain ⟨h4, -⟩ := hh; rw [← hwd] at hR; exact SG.n (o_ld TI3 rfl h4 (cell_of (hR.blk hC2 (fun h => h)) rfl) ⟨rfl, Only.refl No _⟩)) ?_
  refine WD.p rfl (fun e w hR hh => by obtain ⟨h5, -⟩ := hh; rw [← hwd] at hR; exact SG.n (o_call Tryd.call38 (lc h5 ln) ((hdg _ (hT.ext hR)).mono (fun v w' h => h)))) ?_
  refine WD.q (fun u w => ∃ b, wd.heap.size ≤ b ∧ w.heap[b]? = some (.cells (List.map st [digL x.tag.toNat, [58]]).toArray 9 (0, 0)) ∧ u = .slice (some ⟨b, 0, none⟩) 2 2) (fun u w w2 hR hh => by obtain ⟨b, h1, h2, h3⟩ := hh; exact ⟨b, h1, hR.blk h2 (fun h => h), h3⟩) rfl (fun e w hR hh => by obtain ⟨h6, -⟩ := hh; rw [← hwd] at hR; exact SG.n (o_bsn (vs := [st (digL x.tag.toNat), st [58]]) (xs := [(.tmp 6), (.const (.string (.mk #[58])))]) TI78 TI9 rfl (lc h6 (lc (show _ = Value.string _ from rfl) ln)) rfl rfl (by decide) (by decide) ⟨⟨_, hR.size, heap_alloc_new _ _, rfl⟩, Only.alloc _ _⟩)) ?_
  rintro e w hR ⟨h7, h6, h5, h4, h3, h1, h2, -⟩
  rw [← hwd] at hR
  obtain ⟨b7, hb7, hB7, h7⟩ := h7
  have hbp7 : b7 ≠ p := by have := hM.lt; omega
  replace hS := hS.ext hR
  replace hT := hT.ext hR
  replace hM := hM.ext hR
  replace hx := FP.ext hx hR
  replace hB1 := hR.blk hB1 (fun h => h)
  replace hC2 := hR.blk hC2 (fun h => h)
  refine WL.c rfl (o_call Tryd.call16 (lc h3 (lc h7 ln)) ((text_spec H p _ _ lf (bs) b7 [digL x.tag.toNat, [58]] _ hM hB7 hbp7 (by simp [shHd] at hb ⊢; omega) (by simp)).mono ?_))
  rintro v8 w8 ⟨ad8, vv8, hM2, ho8⟩
  replace hS := hS.only ho8 (fun k hk => FP.off hHp (hlf k hk))
  replace hT := hT.only ho8 (FP.off hHp h1H)
  replace hB1 := FP.blk ho8 hB1 (by decide) hb1p
  replace hx := FP.tr hx ho8
  clear hM
  have hM := hM2
  clear hM2
  refine WL.nil ?_
  refine W.region ?_
  refine WL.c rfl (o_ld TI77 rfl h1 (cell_of hB1 rfl) ?_)
  have hIH := IH t _ deep H p _ _ lf C _ _ hn hw hM hS hlf hT h1H (by simp [shHd] at hb ⊢; omega)
  refine WL.c rfl (o_call Tryd.call17 (lc rfl ln) ((hIH).mono ?_))
  rintro v10 w10 ⟨adx, vx, lf2, hM2, hS2, hlf2, hox⟩
  refine WL.nil ?_
  refine ret0 rfl ?_
  exact ⟨_, _, _, by simpa [shHd, List.append_assoc] using hM2, hS2, hlf2, FP.tr hx hox⟩
theorem each_s (n : Nat) (IH : SNode n) : SEach n true 42 := by
  intro t deep H p b1 ad v lf C bs w0 hn hw hM hB1 hb1p hS hlf hT h1H hb
  obtain ⟨x, hx0⟩ : ∃ x, x = t.top := ⟨_, rfl⟩
  rw [← hx0] at hb ⊢
  have hHp := hM.hp
  have hx : Only (FP H p w0) w0 w0 := Only.refl _ _
  have hl1 := (Array.getElem?_eq_some_iff.1 hB1).1
  obtain ⟨-, -, g1, g2⟩ := rightB_iff (wf_top hw)
  rw [← hx0] at g1 g2
  refine Ca.of Tryd.func42 Tryd.ntmps42 rfl rfl ?_
  refine W.seq ?_
  refine W.region ?_
  refine WL.c rfl (o_boxB rfl ?_)
  intro w2 hC2 hx2 hs2
  obtain ⟨b2, hb2⟩ : ∃ b, b = w0.heap.size := ⟨_, rfl⟩
  rw [← hb2] at hC2 ⊢
  have hb2p : b2 ≠ p := by have := hM.lt; omega
  replace hC2 : w2.heap[b2]? = some (.cells (exV x).toArray 36 (0, 0)) := hC2
  replace hS := hS.ext hx2
  replace hT := hT.ext hx2
  replace hM := hM.ext hx2
  replace hx := FP.ext hx hx2
  replace hB1 := hx2.blk hB1 (fun h => h)
  refine WL.nil ?_
  refine W.seq ?_
  refine W.region ?_
  refine WL.c rfl (o_ld TI77 rfl rfl (cell_of hB1 rfl) ?_)
  refine WL.c rfl (o_fa 3 TI36 rfl TI9 rfl rfl ?_)
  refine WL.c rfl (o_ld TI9 rfl rfl (cell_of hC2 rfl) ?_)
  refine WL.c rfl (o_bsn (vs := [st (x.label), st ([58])]) (xs := [(.tmp 5), (.const (.string (.mk #[58])))]) TI78 TI9 rfl (lc (show _ = Value.string _ from rfl) (lc (show _ = Value.string _ from rfl) ln)) rfl rfl (by decide) (by decide) ?_)
  have hB6 : (w2.alloc (Obj.cells [st (x.label), st ([58])].toArray 9)).heap[w2.heap.size]? = some (.cells (List.map st [x.label, [58]]).toArray 9 (0, 0)) := heap_alloc_new _ _
  have hxl := Only.alloc w2 (Obj.cells [st (x.label), st ([58])].toArray 9)
  have hbp6 : w2.heap.size ≠ p := by have := hM.lt; omega
  generalize w2.alloc (Obj.cells [st (x.label), st ([58])].toArray 9) = ws6 at hB6 hxl ⊢
  obtain ⟨b6, hb6⟩ : ∃ b, b = w2.heap.size := ⟨_, rfl⟩
  rw [← hb6] at hB6 hbp6 ⊢
  replace hS := hS.ext hxl
  replace hT := hT.ext hxl
  replace hM := hM.ext hxl
  replace hx := FP.ext hx hxl
  replace hB1 := hxl.blk hB1 (fun h => h)
  clear hxl
  refine WL.c rfl (o_call Tryd.call16 (lc rfl (lc rfl ln)) ((text_spec H p _ _ lf (bs) b6 [x.label, [58]] _ hM hB6 hbp6 (by simp [shHd] at hb ⊢; omega) (by simp)).mono ?_))
  rintro v7 w7 ⟨ad7, vv7, hM2, ho7⟩
  replace hS := hS.only ho7 (fun k hk => FP.off hHp (hlf k hk))
  replace hT := hT.only ho7 (FP.off hHp h1H)
  replace hB1 := FP.blk ho7 hB1 (by decide) hb1p
  replace hx := FP.tr hx ho7
  clear hM
  have hM := hM2
  clear hM2
  refine WL.nil ?_
  refine W.region ?_
  refine WL.c rfl (o_ld TI77 rfl rfl (cell_of hB1 rfl) ?_)
  have hIH := IH t _ deep H p _ _ lf C _ _ hn hw hM hS hlf hT h1H (by simp [shHd] at hb ⊢; omega)
  refine WL.c rfl (o_call Tryd.call17 (lc rfl ln) ((hIH).mono ?_))
  rintro v10 w10 ⟨adx, vx, lf2, hM2, hS2, hlf2, hox⟩
  refine WL.nil ?_
  refine ret0 rfl ?_
  exact ⟨_, _, _, by simpa [shHd, List.append_assoc] using hM2, hS2, hlf2, FP.tr hx hox⟩
theorem kids_spec (n : Nat) (s : Bool) (fc : FuncId) (hE : SEach n s fc) (hcall : ∀ args w, (callFunc fc args).run Tryd.prog w = .ok (.enter fc args) w) (ks : Trs) (deep b1 : Nat) (H p : Nat) (ad v lf : Value) (C : List Ex) (bs : List UInt8) (w0 : World) (hn : ks.flat.length ≤ n) (hw : ks.wf (if s then 8 else 7) deep) (hM : PrM w0 H p ad v lf bs) (hB1 : w0.heap[b1]? = some (.cells #[.pointer (some ⟨p, 0, none⟩)] 77 (0, 0))) (hb1p : b1 ≠ p) (hS : Sl w0 7 lf (ks.flat ++ C).length (exs (ks.flat ++ C))) (hlf : ∀ k, lf.ownBlock = some k → k < H) (hT : Tab w0) (h1H : 1 < H) (h64 : ks.len ≤ 64) (hb : bs.length + (ks.shR s true).length ≤ 140737488355328) : Ca Tryd.prog 40 #[.pointer (some ⟨p, 0, none⟩), .int .i64 (ks.len : Int), .func (.func fc) #[] #[.pointer (some ⟨b1, 0, none⟩)]] w0 (NPost H p C (bs ++ ks.shR s true) w0) := by
  have hHp := hM.hp
  have hx : Only (FP H p w0) w0 w0 := Only.refl _ _
  refine Ca.of Tryd.func40 Tryd.ntmps40 rfl rfl ?_
  refine W.seq ?_
  refine W.region ?_
  refine WL.c rfl (o_mvh (show _ = Value.int _ _ from rfl) ?_)
  refine WL.c rfl (o_mvh (show _ = Value.int _ _ from rfl) ?_)
  refine WL.nil ?_
  refine W.block ?_
  refine W.loop (fun e w => ∃ (k : Nat) (rest : Trs) (ad v lf : Value) (b : List UInt8), k + rest.len = ks.len ∧ rest.flat.length ≤ n ∧ rest.wf (if s then 8 else 7) deep ∧ bs ++ ks.shR s true = b ++ rest.shR s (decide (k = 0)) ∧ e 0 = .pointer (some ⟨p, 0, none⟩) ∧ e 2 = .func (.func fc) #[] #[.pointer (some ⟨b1, 0, none⟩)] ∧ e 7 = .int .i64 (ks.len : Int) ∧ e 8 = .int .i64 (k : Int) ∧ PrM w H p ad v lf b ∧ w.heap[b1]? = some (.cells #[.pointer (some ⟨p, 0, none⟩)] 77 (0, 0)) ∧ Sl w 7 lf (rest.flat ++ C).length (exs (rest.flat ++ C)) ∧ (∀ k, lf.ownBlock = some k → k < H) ∧ Tab w ∧ Only (FP H p w0) w0 w) (fun e w => ks.len - (intOf (e 8)).toNat) ?_ ?_
  · exact ⟨0, ks, ad, v, lf, bs, by omega, hn, hw, rfl, rfl, rfl, rfl, rfl, hM, hB1, hS, hlf, hT, hx⟩
  rintro e w ⟨k, rest, ad, v, lf, b, hkl, hn, hw, hq, h0, h2, h7, h8, hM, hB1, hS, hlf, hT, hx⟩
  have hm8 := h8
  have hqb := congrArg List.length hq
  rw [List.length_append, List.length_append] at hqb
  refine W.seq ?_
  rcases rest with _ | ⟨t, ts⟩
  · skip
    have hk0 : k = ks.len := by simpa [Trs.len] using hkl
    have hq2 : bs ++ ks.shR s true = b := by rw [hq]; simp [Trs.shR]
    refine W.region ?_
    refine WL.c rfl (o_lt h8 h7 ?_)
    refine WL.nil ?_
    refine W.seq ?_
    refine W.condF' rfl (by simp; omega) ?_
    refine W.exit ?_
    refine ret0 rfl ?_
    exact ⟨_, _, _, by rw [hq2]; exact hM, by simpa [Trs.flat] using hS, hlf, hx⟩
  · skip
    have hk1 : k + ts.len + 1 = ks.len := by simp only [Trs.len] at hkl; omega
    obtain ⟨F, hF⟩ := fm_top (t := t)
    have hsr : (Trs.cons t ts).shR s (decide (k = 0)) = (if decide (k = 0) = true then [] else [44]) ++ (shHd s t.top ++ (t.sh ++ ts.shR s false)) := by simp [Trs.shR, shHd]
    rw [hsr] at hqb
    have hn1 : t.flat.length ≤ n := by simp [Trs.flat] at hn; omega
    have hn2 : ts.flat.length ≤ n := by simp [Trs.flat] at hn; omega
    have hS0 : Sl w 7 lf (t.flat ++ (ts.flat ++ C)).length (exs (t.flat ++ (ts.flat ++ C))) := by simpa [Trs.flat] using hS
    clear hS
    have hS := hS0
    clear hS0
    refine W.region ?_
    refine WL.c rfl (o_lt h8 h7 ?_)
    refine WL.nil ?_
    refine W.seq ?_
    refine W.condT' rfl (by simp; omega) ?_
    refine W.skip ?_
    refine W.seq ?_
    refine W.block ?_
    refine W.seq ?_
    refine W.region ?_
    refine WL.c rfl (o_mvh h8 ?_)
    refine WL.c rfl (o_ash (show _ = Value.int _ _ from rfl) ?_)
    refine WL.nil ?_
    refine W.seq ?_
    refine W.seq ?_
    refine W.region ?_
    refine WL.c rfl (o_mvh (show _ = Value.int _ _ from rfl) ?_)
    refine WL.c rfl (o_gt rfl rfl ?_)
    refine WL.nil ?_
    refine W.cut (fun e1 w1 => e1 0 = .pointer (some ⟨p, 0, none⟩) ∧ e1 2 = .func (.func fc) #[] #[.pointer (some ⟨b1, 0, none⟩)] ∧ e1 7 = .int .i64 (ks.len : Int) ∧ e1 8 = .int .i64 (k : Int) ∧ ∃ ad v, PrM w1 H p ad v lf (b ++ (if decide (k = 0) = true then [] else [44])) ∧ w1.heap[b1]? = some (.cells #[.pointer (some ⟨p, 0, none⟩)] 77 (0, 0)) ∧ Sl w1 7 lf (t.flat ++ (ts.flat ++ C)).length (exs (t.flat ++ (ts.flat ++ C))) ∧ Tab w1 ∧ Only (FP H p w0) w0 w1) ?_ ?_
    · -- both ways
      refine W.cond rfl (fun c12 => ?_) (fun c12 => ?_)
      · try simp only [decide_eq_true_eq, decide_eq_false_iff_not, Bool.not_eq_true', Bool.not_eq_false', Bool.and_eq_true, Bool.or_eq_true, Bool.and_eq_false_iff, Bool.or_eq_false_iff] at c12
        have hkz : ¬ k = 0 := by omega
        refine W.region ?_
        refine WL.c rfl (o_mvh h0 ?_)
        refine WL.c rfl (o_bs1 (v := st ([44])) TI78 TI9 (show _ = st ([44]) from rfl) (by decide) (by decide) rfl ?_)
        have hB14 : (w.alloc (Obj.cells (st ([44])).cells 9)).heap[w.heap.size]? = some (.cells (List.map st [[44]]).toArray 9 (0, 0)) := heap_alloc_new _ _
        have hxl := Only.alloc w (Obj.cells (st ([44])).cells 9)
        have hbp14 : w.heap.size ≠ p := by have := hM.lt; omega
        generalize w.alloc (Obj.cells (st ([44])).cells 9) = ws14 at hB14 hxl ⊢
        obtain ⟨b14, hb14⟩ : ∃ b, b = w.heap.size := ⟨_, rfl⟩
        rw [← hb14] at hB14 hbp14 ⊢
        replace hS := hS.ext hxl
        replace hT := hT.ext hxl
        replace hM := hM.ext hxl
        replace hx := FP.ext hx hxl
        replace hB1 := hxl.blk hB1 (fun h => h)
        clear hxl
        refine WL.c rfl (o_call Tryd.call16 (lc rfl (lc rfl ln)) ((text_spec H p _ _ lf (b) b14 [[44]] _ hM hB14 hbp14 (by rw [if_neg (by simpa using hkz)] at hqb; simp [List.length_append] at hqb ⊢; omega) (by simp)).mono ?_))
        rintro v15 w15 ⟨ad15, vv15, hM2, ho15⟩
        replace hS := hS.only ho15 (fun k hk => FP.off hHp (hlf k hk))
        replace hT := hT.only ho15 (FP.off hHp h1H)
        replace hB1 := FP.blk ho15 hB1 (by decide) hb1p
        replace hx := FP.tr hx ho15
        clear hM
        have hM := hM2
        clear hM2
        refine WL.nil ?_
        first | exact ⟨h0, h2, h7, h8, _, _, by rw [if_neg (by simpa using hkz)]; simpa using hM, hB1, hS, hT, hx⟩ | exact ⟨h0, h2, h7, h8, _, _, by rw [if_pos (by simpa using hkz)]; simpa using hM, hB1, hS, hT, hx⟩
      · try simp only [decide_eq_true_eq, decide_eq_false_iff_not, Bool.not_eq_true', Bool.not_eq_false', Bool.and_eq_true, Bool.or_eq_true, Bool.and_eq_false_iff, Bool.or_eq_false_iff] at c12
        have hkz : k = 0 := by omega
        refine W.skip ?_
        first | exact ⟨h0, h2, h7, h8, _, _, by rw [if_neg (by simpa using hkz)]; simpa using hM, hB1, hS, hT, hx⟩ | exact ⟨h0, h2, h7, h8, _, _, by rw [if_pos (by simpa using hkz)]; simpa using hM, hB1, hS, hT, hx⟩
    rintro e w ⟨h0, h2, h7, h8, ad, v, hM, hB1, hS, hT, hx⟩
    obtain ⟨gb, go, gc, hlv, htc⟩ := Sl.exq hS (k := 0) (by rw [hF]; simp)
    subst hlv
    replace htc : Cells w gb (go + 0 * 7) (exV t.top) := by have h1 := htc; simp only [hF] at h1; exact h1
    refine W.region ?_
    refine WL.c rfl (o_mvh h2 ?_)
    refine WL.c rfl (o_mvh h0 ?_)
    refine WL.c rfl (o_nil rfl ?_)
    refine WL.c rfl (o_fa 2 TI51 rfl TI32 rfl rfl ?_)
    refine WL.c rfl (o_ld TI32 rfl rfl (cell_of hM.cell rfl) ?_)
    refine WL.c rfl (o_ixB (i := 0) TI32 TI36 rfl rfl (by rw [hF]; simp) ?_)
    refine WL.c rfl (o_ldA TI36 rfl rfl htc rfl ?_)
    refine WL.c rfl (o_callC rfl hcall (lc rfl ln) ((hE t deep H p b1 _ _ _ (ts.flat ++ C) _ _ hn1 hw.1 hM hB1 hb1p hS hlf hT h1H (by rw [List.length_append] at hqb ⊢; simp only [List.length_append] at hqb ⊢; omega)).mono ?_))
    rintro v23 w23 ⟨ad23, v23b, lf2, hM2, hS2, hlf2, ho23⟩
    replace hT := hT.only ho23 (FP.off hHp h1H)
    replace hB1 := FP.blk ho23 hB1 (by decide) hb1p
    replace hx := FP.tr hx ho23
    clear hM hS hlf htc
    have hM := hM2
    have hS := hS2
    have hlf := hlf2
    clear hM2 hS2 hlf2
    refine WL.nil ?_
    refine W.region ?_
    refine WL.c rfl (o_addi h8 rfl (by omega) ?_)
    refine WL.c rfl (o_mvh (show _ = Value.int _ _ from rfl) ?_)
    refine WL.nil ?_
    refine ⟨⟨k + 1, ts, _, _, _, _, by omega, hn2, hw.2, ?_, h0, h2, h7, rfl, hM, hB1, hS, hlf, hT, hx⟩, ?_⟩
    · rw [hq, hsr]; simp [shHd]
    · show ks.len - ((k : Int) + 1).toNat < _
      rw [hm8]; simp [intOf]; omega
end Go.Proofs.YtanimeifmicmoaaDoor

set_option linter.unusedSimpArgs false
set_option linter.unusedVariables false
set_option maxRecDepth 100000
namespace Go.Proofs.YtanimeifmicmoaaDoor
open Go Go.Vc Go.RowKit Go.Proofs
set_option maxHeartbeats 4000000 in
theorem node_step (n : Nat) (IH : SNode n) (y : Ex) (ks : Trs) (above : Int) (deep H p : Nat) (ad v lf : Value) (C : List Ex) (bs : List UInt8) (w0 : World) (hn : ks.flat.length ≤ n) (hw : (Tr.node y ks).wf above deep) (hM : PrM w0 H p ad v lf bs) (hS : Sl w0 7 lf (y :: (ks.flat ++ C)).length (exs (y :: (ks.flat ++ C)))) (hlf : ∀ k, lf.ownBlock = some k → k < H) (hT : Tab w0) (h1H : 1 < H) (hb : bs.length + (Tr.node y ks).sh.length ≤ 140737488355328) : Ca Tryd.prog 17 #[.pointer (some ⟨p, 0, none⟩)] w0 (NPost H p C (bs ++ (Tr.node y ks).sh) w0) := by
  have hHp := hM.hp
  have hx : Only (FP H p w0) w0 w0 := Only.refl _ _
  obtain ⟨hok, hnm, -, -⟩ := rightB_iff hw.2.2.1
  obtain ⟨gb, go, gc, hlv, htc⟩ := Sl.exq hS (k := 0) (by simp)
  subst hlv
  replace htc : Cells w0 gb (go + 0 * 7) (exV y) := htc
  obtain ⟨NN, hNN⟩ : ∃ N, N = (y :: (ks.flat ++ C)).length := ⟨_, rfl⟩
  have hN1 : NN = (ks.flat ++ C).length + 1 := by rw [hNN]; simp
  rw [← hNN] at hS hM hlf
  have hcap : NN ≤ gc := by
    rcases hS.val with ⟨h0, -⟩ | ⟨b, o, c, hv, hnc, -⟩
    · omega
    · cases hv; exact hnc
  refine Ca.of Tryd.func17 Tryd.ntmps17 rfl rfl ?_
  refine W.seq ?_
  refine W.region ?_
  refine WL.c rfl (o_boxB rfl ?_)
  intro w1 hC1 hx1 hs1
  obtain ⟨b1, hb1⟩ : ∃ b, b = w0.heap.size := ⟨_, rfl⟩
  rw [← hb1] at hC1 ⊢
  have hb1p : b1 ≠ p := by have := hM.lt; omega
  replace hC1 : w1.heap[b1]? = some (.cells #[.pointer (some ⟨p, 0, none⟩)] 77 (0, 0)) := hC1
  replace htc := htc.only hx1 (fun h => h)
  replace hS := hS.ext hx1
  replace hT := hT.ext hx1
  replace hM := hM.ext hx1
  replace hx := FP.ext hx hx1
  refine WL.nil ?_
  refine W.seq ?_
  refine W.region ?_
  refine WL.c rfl (o_ld TI77 rfl rfl (cell_of hC1 rfl) ?_)
  refine WL.c rfl (o_nil rfl ?_)
  refine WL.c rfl (o_fa 2 TI51 rfl TI32 rfl rfl ?_)
  refine WL.c rfl (o_ld TI32 rfl rfl (cell_of hM.cell rfl) ?_)
  refine WL.c rfl (o_ixB (i := 0) TI32 TI36 rfl rfl (by omega) ?_)
  refine WL.c rfl (o_ldA TI36 rfl rfl htc rfl ?_)
  refine WL.c rfl (o_alB TI36 ?_)
  intro wa hCa hxa hsa
  refine WL.u (o_stA TI36 rfl (show _ = Value.agg (exV y).toArray from rfl) rfl rfl hCa rfl ?_)
  intro wb hC2 hob hsb
  have hxb := Ext.own hxa (Nat.le_refl _) hob
  obtain ⟨b2, hb2⟩ : ∃ b, b = w1.heap.size := ⟨_, rfl⟩
  rw [← hb2] at hC2 ⊢
  clear hCa hxa hsa hob hsb
  have hb2p : b2 ≠ p := by have := hM.lt; omega
  have hb12 : b1 < b2 := by have := (Array.getElem?_eq_some_iff.1 hC1).1; omega
  replace hS := hS.ext hxb
  replace hT := hT.ext hxb
  replace hM := hM.ext hxb
  replace hx := FP.ext hx hxb
  replace hC1 := hxb.blk hC1 (fun h => h)
  refine WL.nil ?_
  refine W.seq ?_
  refine W.tail 8 rfl (by kernel_rfl) ?_
  refine WS.c rfl ((SO.o rfl (o_ld TI77 rfl rfl (cell_of hC1 rfl) ⟨rfl, rfl⟩))) ?_
  refine WS.c rfl ((SO.o rfl (o_ld TI77 rfl rfl (cell_of hC1 rfl) ⟨rfl, rfl⟩))) ?_
  refine WS.c rfl ((SO.r (r_nil rfl))) ?_
  refine WS.c rfl ((SO.o rfl (o_fa 2 TI51 rfl TI32 rfl rfl ⟨rfl, rfl⟩))) ?_
  refine WS.c rfl ((SO.o rfl (o_ld TI32 rfl rfl (cell_of hM.cell rfl) ⟨rfl, rfl⟩))) ?_
  refine WS.c rfl ((SO.o rfl (o_slv TI32 TI36 rfl (Lo.s (l := 1) rfl) Hi.n (by omega) (by omega) ⟨rfl, rfl⟩))) ?_
  refine WS.c rfl ((SO.r (r_nil rfl))) ?_
  refine WS.c rfl ((SO.o rfl (o_fa 2 TI51 rfl TI32 rfl rfl ⟨rfl, rfl⟩))) ?_
  refine WS.nil ?_
  have hxd := Only.drew wb
  obtain ⟨wd, hwd⟩ : ∃ wd, wd = wb.drew := ⟨_, rfl⟩
  rw [← hwd] at hxd ⊢
  replace hS := hS.ext hxd
  replace hT := hT.ext hxd
  replace hM := hM.ext hxd
  replace hx := FP.ext hx hxd
  replace hC1 := hxd.blk hC1 (fun h => h)
  replace hC2 := hxd.blk hC2 (fun h => h)
  have hS2 := hS.sliced 1 NN (by omega) (Nat.le_refl _)
  have hcell := hM.cell
  refine WL.u (o_stB TI32 rfl (show _ = sliced _ _ _ _ _ from rfl) (sliced_one _ _ _ _ _) hcell (show 2 < 3 by decide) ?_)
  intro w hB16 ho16 hs16
  have hlf2 : ∀ k, (sliced (some ⟨gb, go, none⟩) 1 NN gc 7).ownBlock = some k → k < H := fun k hk => hlf k (by rw [← sliced_own (some ⟨gb, go, none⟩) 1 NN gc 7 NN gc]; exact hk)
  have hM2 : PrM w H p ad v (sliced (some ⟨gb, go, none⟩) 1 NN gc 7) bs := ⟨hB16, hM.adr, own_only hM.row ho16 (fun k hk he => by subst he; exact own_off hM.row hcell (by decide) hk), hM.hp⟩
  obtain ⟨lf, hlq⟩ : ∃ l, l = sliced (some ⟨gb, go, none⟩) 1 NN gc 7 := ⟨_, rfl⟩
  rw [← hlq] at hM2 hlf2 hS2
  replace hS2 : Sl w 7 lf (ks.flat ++ C).length (exs (ks.flat ++ C)) := by
    have h1 := hS2.only ho16 (fun k hk he => by have := hlf2 k hk; omega)
    have h2 : ((exs (y :: (ks.flat ++ C))).drop (1 * 7)).take ((NN - 1) * 7) = exs (ks.flat ++ C) := by
      rw [show exs (y :: (ks.flat ++ C)) = exV y ++ exs (ks.flat ++ C) from rfl, List.drop_left' (show (exV y).length = 1 * 7 from rfl), List.take_of_length_le (by rw [exs_len]; omega)]
    rw [h2, show NN - 1 = (ks.flat ++ C).length by omega] at h1
    exact h1
  replace hT := hT.only ho16 (fun he => by omega)
  replace hC1 := ho16.blk hC1 hb1p
  replace hC2 := ho16.blk hC2 hb2p
  replace hx := FP.tr hx (ho16.mono (fun k _ h => .inl h))
  clear hM hS hlf htc hcell
  have hM := hM2
  have hS := hS2
  have hlf := hlf2
  clear hM2 hS2 hlf2 hNN hN1 hlq
  refine WL.nil ?_
  refine W.seq ?_
  obtain hk | hk | hk | hk | hk | hk | hk | hk | hk : y.kind = 1 ∨ y.kind = 2 ∨ y.kind = 3 ∨ y.kind = 9 ∨ y.kind = 4 ∨ y.kind = 5 ∨ y.kind = 6 ∨ y.kind = 7 ∨ y.kind = 8 := by rcases okB_cases hok with h | h | h | h | h <;> omega
  · skip
    have hkz : y.kids = 0 := by rcases okB_cases hok with h | h | h | h | h <;> omega
    obtain rfl := trs_nil (ts := ks) (by have : (ks.len : Int) = y.kids := hw.2.2.2.1; omega)
    have hn8 : y.n = 1 ∨ y.n = 2 ∨ y.n = 4 ∨ y.n = 8 := by rcases okB_cases hok with h | h | h | h | h <;> omega
    have h8 : 8 * y.n = ((8 * y.n).toNat : Int) := by omega
    have hdg := fun w hT => itoa_spec (8 * y.n).toNat (by omega) w hT
    simp only [← h8] at hdg
    have hsh : (Tr.node y .nil).sh = [117] ++ digL (8 * y.n).toNat := by simp [Tr.sh, hk]
    rw [hsh] at hb
    refine W.region ?_
    refine WL.c rfl (o_fa 0 TI36 rfl TI3 rfl rfl ?_)
    refine WL.c rfl (o_ld TI3 rfl rfl (cell_of hC2 rfl) ?_)
    refine WL.nil ?_
    refine W.block ?_
    refine W.seq ?_
    refine W.region ?_
    refine WL.c rfl (o_eq rfl rfl ?_)
    refine WL.c rfl (o_ash (show _ = Value.bool _ from rfl) ?_)
    refine WL.nil ?_
    refine W.condT' rfl (by rw [hk]; decide) ?_
    obtain ⟨wd, hwd⟩ : ∃ wd, wd = w.drew := ⟨_, rfl⟩
    have hxd : Ext w wd := hwd ▸ Only.drew w
    replace hS := hS.ext hxd
    replace hT := hT.ext hxd
    replace hM := hM.ext hxd
    replace hx := FP.ext hx hxd
    replace hC1 := hxd.blk hC1 (fun h => h)
    replace hC2 := hxd.blk hC2 (fun h => h)
    refine W.drawT 6 (Ext) [(1, fun v _ => v = _), (2, fun v _ => v = _)] rfl (by kernel_rfl) (Only.refl No) (fun _ _ _ h k => h.trans k) ⟨Mono.eq, Mono.eq, trivial⟩ ⟨rfl, rfl, trivial⟩ ?_
    refine WD.p rfl (fun e w hR hh => by obtain ⟨h1, -⟩ := hh; rw [← hwd] at hR; exact SG.n (o_ld TI77 rfl h1 (cell_of (hR.blk hC1 (fun h => h)) rfl) ⟨rfl, Only.refl No _⟩)) ?_
    refine WD.p rfl (fun e w hR hh => by obtain ⟨h2, -⟩ := hh; exact SG.n (o_fa 1 TI36 rfl TI3 rfl h2 ⟨rfl, Only.refl No _⟩)) ?_
    refine WD.p rfl (fun e w hR hh => by obtain ⟨h22, -⟩ := hh; rw [← hwd] at hR; exact SG.n (o_ld TI3 rfl h22 (cell_of (hR.blk hC2 (fun h => h)) rfl) ⟨rfl, Only.refl No _⟩)) ?_
    refine WD.p rfl (fun e w hR hh => by obtain ⟨h23, -⟩ := hh; exact SG.n (o_muli rfl h23 (by omega) ⟨rfl, Only.refl No _⟩)) ?_
    refine WD.p rfl (fun e w hR hh => by obtain ⟨h24, -⟩ := hh; rw [← hwd] at hR; exact SG.n (o_call Tryd.call38 (lc h24 ln) ((hdg _ (hT.ext hR)).mono (fun v w' h => h)))) ?_
    refine WD.q (fun u w => ∃ b, wd.heap.size ≤ b ∧ w.heap[b]? = some (.cells (List.map st [[117], digL (8 * y.n).toNat]).toArray 9 (0, 0)) ∧ u = .slice (some ⟨b, 0, none⟩) 2 2) (fun u w w2 hR hh => by obtain ⟨b, h1, h2, h3⟩ := hh; exact ⟨b, h1, hR.blk h2 (fun h => h), h3⟩) rfl (fun e w hR hh => by obtain ⟨h25, -⟩ := hh; rw [← hwd] at hR; exact SG.n (o_bsn (vs := [st [117], st (digL (8 * y.n).toNat)]) (xs := [(.const (.string (.mk #[117]))), (.tmp 25)]) TI78 TI9 rfl (lc (show _ = Value.string _ from rfl) (lc h25 ln)) rfl rfl (by decide) (by decide) ⟨⟨_, hR.size, heap_alloc_new _ _, rfl⟩, Only.alloc _ _⟩)) ?_
    rintro e w hR ⟨h26, h25, h24, h23, h22, h21, h1, h2, -⟩
    rw [← hwd] at hR
    obtain ⟨b26, hb26, hB26, h26⟩ := h26
    have hbp26 : b26 ≠ p := by have := hM.lt; omega
    replace hS := hS.ext hR
    replace hT := hT.ext hR
    replace hM := hM.ext hR
    replace hx := FP.ext hx hR
    replace hC1 := hR.blk hC1 (fun h => h)
    replace hC2 := hR.blk hC2 (fun h => h)
    refine WL.c rfl (o_call Tryd.call16 (lc h21 (lc h26 ln)) ((text_spec H p _ _ lf (bs) b26 [[117], digL (8 * y.n).toNat] _ hM hB26 hbp26 (by simp at hb ⊢; omega) (by simp)).mono ?_))
    rintro v27 w27 ⟨ad27, vv27, hM2, ho27⟩
    replace hS := hS.only ho27 (fun k hk => FP.off hHp (hlf k hk))
    replace hT := hT.only ho27 (FP.off hHp h1H)
    replace hC1 := FP.blk ho27 hC1 (by decide) hb1p
    replace hC2 := FP.blk ho27 hC2 (by decide) hb2p
    replace hx := FP.tr hx ho27
    clear hM
    have hM := hM2
    clear hM2
    refine WL.nil ?_
    refine ret0 rfl ?_
    exact ⟨_, _, _, by rw [hsh]; simpa [List.append_assoc] using hM, by simpa [Trs.flat] using hS, hlf, hx⟩
  · skip
    have hkz : y.kids = 0 := by rcases okB_cases hok with h | h | h | h | h <;> omega
    obtain rfl := trs_nil (ts := ks) (by have : (ks.len : Int) = y.kids := hw.2.2.2.1; omega)
    have hsh : (Tr.node y .nil).sh = [98, 111, 111, 108] := by simp [Tr.sh, hk]
    rw [hsh] at hb
    refine W.region ?_
    refine WL.c rfl (o_fa 0 TI36 rfl TI3 rfl rfl ?_)
    refine WL.c rfl (o_ld TI3 rfl rfl (cell_of hC2 rfl) ?_)
    refine WL.nil ?_
    refine W.block ?_
    refine W.seq ?_
    refine W.region ?_
    refine WL.c rfl (o_eq rfl rfl ?_)
    refine WL.c rfl (o_ash (show _ = Value.bool _ from rfl) ?_)
    refine WL.nil ?_
    refine W.condF' rfl (by rw [hk]; decide) ?_
    refine W.seq ?_
    refine W.region ?_
    refine WL.c rfl (o_eq rfl rfl ?_)
    refine WL.c rfl (o_ash (show _ = Value.bool _ from rfl) ?_)
    refine WL.nil ?_
    refine W.condT' rfl (by rw [hk]; decide) ?_
    refine W.region ?_
    refine WL.c rfl (o_ld TI77 rfl rfl (cell_of hC1 rfl) ?_)
    refine WL.c rfl (o_bs1 (v := st ([98, 111, 111, 108])) TI78 TI9 (show _ = st ([98, 111, 111, 108]) from rfl) (by decide) (by decide) rfl ?_)
    have hB31 : (w.alloc (Obj.cells (st ([98, 111, 111, 108])).cells 9)).heap[w.heap.size]? = some (.cells (List.map st [[98, 111, 111, 108]]).toArray 9 (0, 0)) := heap_alloc_new _ _
    have hxl := Only.alloc w (Obj.cells (st ([98, 111, 111, 108])).cells 9)
    have hbp31 : w.heap.size ≠ p := by have := hM.lt; omega
    generalize w.alloc (Obj.cells (st ([98, 111, 111, 108])).cells 9) = ws31 at hB31 hxl ⊢
    obtain ⟨b31, hb31⟩ : ∃ b, b = w.heap.size := ⟨_, rfl⟩
    rw [← hb31] at hB31 hbp31 ⊢
    replace hS := hS.ext hxl
    replace hT := hT.ext hxl
    replace hM := hM.ext hxl
    replace hx := FP.ext hx hxl
    replace hC1 := hxl.blk hC1 (fun h => h)
    replace hC2 := hxl.blk hC2 (fun h => h)
    clear hxl
    refine WL.c rfl (o_call Tryd.call16 (lc rfl (lc rfl ln)) ((text_spec H p _ _ lf (bs) b31 [[98, 111, 111, 108]] _ hM hB31 hbp31 (by simp at hb ⊢; omega) (by simp)).mono ?_))
    rintro v32 w32 ⟨ad32, vv32, hM2, ho32⟩
    replace hS := hS.only ho32 (fun k hk => FP.off hHp (hlf k hk))
    replace hT := hT.only ho32 (FP.off hHp h1H)
    replace hC1 := FP.blk ho32 hC1 (by decide) hb1p
    replace hC2 := FP.blk ho32 hC2 (by decide) hb2p
    replace hx := FP.tr hx ho32
    clear hM
    have hM := hM2
    clear hM2
    refine WL.nil ?_
    refine ret0 rfl ?_
    exact ⟨_, _, _, by rw [hsh]; simpa [List.append_assoc] using hM, by simpa [Trs.flat] using hS, hlf, hx⟩
  · skip
    have hkz : y.kids = 0 := by rcases okB_cases hok with h | h | h | h | h <;> omega
    obtain rfl := trs_nil (ts := ks) (by have : (ks.len : Int) = y.kids := hw.2.2.2.1; omega)
    have hsh : (Tr.node y .nil).sh = [118, 97, 114, 105, 110, 116] := by simp [Tr.sh, hk]
    rw [hsh] at hb
    refine W.region ?_
    refine WL.c rfl (o_fa 0 TI36 rfl TI3 rfl rfl ?_)
    refine WL.c rfl (o_ld TI3 rfl rfl (cell_of hC2 rfl) ?_)
    refine WL.nil ?_
    refine W.block ?_
    refine W.seq ?_
    refine W.region ?_
    refine WL.c rfl (o_eq rfl rfl ?_)
    refine WL.c rfl (o_ash (show _ = Value.bool _ from rfl) ?_)
    refine WL.nil ?_
    refine W.condF' rfl (by rw [hk]; decide) ?_
    refine W.seq ?_
    refine W.region ?_
    refine WL.c rfl (o_eq rfl rfl ?_)
    refine WL.c rfl (o_ash (show _ = Value.bool _ from rfl) ?_)
    refine WL.nil ?_
    refine W.condF' rfl (by rw [hk]; decide) ?_
    refine W.seq ?_
    refine W.region ?_
    refine WL.c rfl (o_eq rfl rfl ?_)
    refine WL.c rfl (o_ash (show _ = Value.bool _ from rfl) ?_)
    refine WL.nil ?_
    refine W.condT' rfl (by rw [hk]; decide) ?_
    refine W.region ?_
    refine WL.c rfl (o_ld TI77 rfl rfl (cell_of hC1 rfl) ?_)
    refine WL.c rfl (o_bs1 (v := st ([118, 97, 114, 105, 110, 116])) TI78 TI9 (show _ = st ([118, 97, 114, 105, 110, 116]) from rfl) (by decide) (by decide) rfl ?_)
    have hB36 : (w.alloc (Obj.cells (st ([118, 97, 114, 105, 110, 116])).cells 9)).heap[w.heap.size]? = some (.cells (List.map st [[118, 97, 114, 105, 110, 116]]).toArray 9 (0, 0)) := heap_alloc_new _ _
    have hxl := Only.alloc w (Obj.cells (st ([118, 97, 114, 105, 110, 116])).cells 9)
    have hbp36 : w.heap.size ≠ p := by have := hM.lt; omega
    generalize w.alloc (Obj.cells (st ([118, 97, 114, 105, 110, 116])).cells 9) = ws36 at hB36 hxl ⊢
    obtain ⟨b36, hb36⟩ : ∃ b, b = w.heap.size := ⟨_, rfl⟩
    rw [← hb36] at hB36 hbp36 ⊢
    replace hS := hS.ext hxl
    replace hT := hT.ext hxl
    replace hM := hM.ext hxl
    replace hx := FP.ext hx hxl
    replace hC1 := hxl.blk hC1 (fun h => h)
    replace hC2 := hxl.blk hC2 (fun h => h)
    clear hxl
    refine WL.c rfl (o_call Tryd.call16 (lc rfl (lc rfl ln)) ((text_spec H p _ _ lf (bs) b36 [[118, 97, 114, 105, 110, 116]] _ hM hB36 hbp36 (by simp at hb ⊢; omega) (by simp)).mono ?_))
    rintro v37 w37 ⟨ad37, vv37, hM2, ho37⟩
    replace hS := hS.only ho37 (fun k hk => FP.off hHp (hlf k hk))
    replace hT := hT.only ho37 (FP.off hHp h1H)
    replace hC1 := FP.blk ho37 hC1 (by decide) hb1p
    replace hC2 := FP.blk ho37 hC2 (by decide) hb2p
    replace hx := FP.tr hx ho37
    clear hM
    have hM := hM2
    clear hM2
    refine WL.nil ?_
    refine ret0 rfl ?_
    exact ⟨_, _, _, by rw [hsh]; simpa [List.append_assoc] using hM, by simpa [Trs.flat] using hS, hlf, hx⟩
  · skip
    have hkz : y.kids = 0 := by rcases okB_cases hok with h | h | h | h | h <;> omega
    obtain rfl := trs_nil (ts := ks) (by have : (ks.len : Int) = y.kids := hw.2.2.2.1; omega)
    have hsh : (Tr.node y .nil).sh = y.name := by simp [Tr.sh, hk]
    rw [hsh] at hb
    refine W.region ?_
    refine WL.c rfl (o_fa 0 TI36 rfl TI3 rfl rfl ?_)
    refine WL.c rfl (o_ld TI3 rfl rfl (cell_of hC2 rfl) ?_)
    refine WL.nil ?_
    refine W.block ?_
    refine W.seq ?_
    refine W.region ?_
    refine WL.c rfl (o_eq rfl rfl ?_)
    refine WL.c rfl (o_ash (show _ = Value.bool _ from rfl) ?_)
    refine WL.nil ?_
    refine W.condF' rfl (by rw [hk]; decide) ?_
    refine W.seq ?_
    refine W.region ?_
    refine WL.c rfl (o_eq rfl rfl ?_)
    refine WL.c rfl (o_ash (show _ = Value.bool _ from rfl) ?_)
    refine WL.nil ?_
    refine W.condF' rfl (by rw [hk]; decide) ?_
    refine W.seq ?_
    refine W.region ?_
    refine WL.c rfl (o_eq rfl rfl ?_)
    refine WL.c rfl (o_ash (show _ = Value.bool _ from rfl) ?_)
    refine WL.nil ?_
    refine W.condF' rfl (by rw [hk]; decide) ?_
    refine W.seq ?_
    refine W.region ?_
    refine WL.c rfl (o_eq rfl rfl ?_)
    refine WL.c rfl (o_ash (show _ = Value.bool _ from rfl) ?_)
    refine WL.nil ?_
    refine W.condT' rfl (by rw [hk]; decide) ?_
    refine W.region ?_
    refine WL.c rfl (o_ld TI77 rfl rfl (cell_of hC1 rfl) ?_)
    refine WL.c rfl (o_fa 2 TI36 rfl TI9 rfl rfl ?_)
    refine WL.c rfl (o_ld TI9 rfl rfl (cell_of hC2 rfl) ?_)
    refine WL.c rfl (o_bs1 (v := st (y.name)) TI78 TI9 (show _ = st (y.name) from rfl) (by decide) (by decide) rfl ?_)
    have hB43 : (w.alloc (Obj.cells (st (y.name)).cells 9)).heap[w.heap.size]? = some (.cells (List.map st [y.name]).toArray 9 (0, 0)) := heap_alloc_new _ _
    have hxl := Only.alloc w (Obj.cells (st (y.name)).cells 9)
    have hbp43 : w.heap.size ≠ p := by have := hM.lt; omega
    generalize w.alloc (Obj.cells (st (y.name)).cells 9) = ws43 at hB43 hxl ⊢
    obtain ⟨b43, hb43⟩ : ∃ b, b = w.heap.size := ⟨_, rfl⟩
    rw [← hb43] at hB43 hbp43 ⊢
    replace hS := hS.ext hxl
    replace hT := hT.ext hxl
    replace hM := hM.ext hxl
    replace hx := FP.ext hx hxl
    replace hC1 := hxl.blk hC1 (fun h => h)
    replace hC2 := hxl.blk hC2 (fun h => h)
    clear hxl
    refine WL.c rfl (o_call Tryd.call16 (lc rfl (lc rfl ln)) ((text_spec H p _ _ lf (bs) b43 [y.name] _ hM hB43 hbp43 (by simp at hb ⊢; omega) (by simp)).mono ?_))
    rintro v44 w44 ⟨ad44, vv44, hM2, ho44⟩
    replace hS := hS.only ho44 (fun k hk => FP.off hHp (hlf k hk))
    replace hT := hT.only ho44 (FP.off hHp h1H)
    replace hC1 := FP.blk ho44 hC1 (by decide) hb1p
    replace hC2 := FP.blk ho44 hC2 (by decide) hb2p
    replace hx := FP.tr hx ho44
    clear hM
    have hM := hM2
    clear hM2
    refine WL.nil ?_
    refine ret0 rfl ?_
    exact ⟨_, _, _, by rw [hsh]; simpa [List.append_assoc] using hM, by simpa [Trs.flat] using hS, hlf, hx⟩
  · skip
    have hk1 : y.kids = 1 ∧ 0 ≤ y.n ∧ y.n ≤ 2147483647 := by rcases okB_cases hok with h | h | h | h | h <;> omega
    obtain ⟨t, rfl⟩ := trs_one (ts := ks) (by have : (ks.len : Int) = y.kids := hw.2.2.2.1; omega)
    have hwt : t.wf y.kind (deep + 1) := hw.2.2.2.2.1
    have htl : (Trs.cons t .nil).flat = t.flat := by simp [Trs.flat]
    rw [htl] at hS hn
    have hnn : y.n = (y.n.toNat : Int) := by omega
    have hsh : (Tr.node y (.cons t .nil)).sh = [118, 101, 99, 116, 111, 114, 60] ++ (t.sh ++ ([44] ++ (digL y.n.toNat ++ [62]))) := by simp [Tr.sh, Trs.shK, hk]
    rw [hsh] at hb
    have hmany := fun w ad v hM hS hT => many_spec n IH t y.kind (deep + 1) [118, 101, 99, 116, 111, 114, 60] y.n.toNat H p ad v lf C bs w hn hwt hM hS hlf hT h1H (by omega) hb
    simp only [← hnn] at hmany
    refine W.region ?_
    refine WL.c rfl (o_fa 0 TI36 rfl TI3 rfl rfl ?_)
    refine WL.c rfl (o_ld TI3 rfl rfl (cell_of hC2 rfl) ?_)
    refine WL.nil ?_
    refine W.block ?_
    refine W.seq ?_
    refine W.region ?_
    refine WL.c rfl (o_eq rfl rfl ?_)
    refine WL.c rfl (o_ash (show _ = Value.bool _ from rfl) ?_)
    refine WL.nil ?_
    refine W.condF' rfl (by rw [hk]; decide) ?_
    refine W.seq ?_
    refine W.region ?_
    refine WL.c rfl (o_eq rfl rfl ?_)
    refine WL.c rfl (o_ash (show _ = Value.bool _ from rfl) ?_)
    refine WL.nil ?_
    refine W.condF' rfl (by rw [hk]; decide) ?_
    refine W.seq ?_
    refine W.region ?_
    refine WL.c rfl (o_eq rfl rfl ?_)
    refine WL.c rfl (o_ash (show _ = Value.bool _ from rfl) ?_)
    refine WL.nil ?_
    refine W.condF' rfl (by rw [hk]; decide) ?_
    refine W.seq ?_
    refine W.region ?_
    refine WL.c rfl (o_eq rfl rfl ?_)
    refine WL.c rfl (o_ash (show _ = Value.bool _ from rfl) ?_)
    refine WL.nil ?_
    refine W.condF' rfl (by rw [hk]; decide) ?_
    refine W.seq ?_
    refine W.region ?_
    refine WL.c rfl (o_eq rfl rfl ?_)
    refine WL.c rfl (o_ash (show _ = Value.bool _ from rfl) ?_)
    refine WL.nil ?_
    refine W.condT' rfl (by rw [hk]; decide) ?_
    refine W.region ?_
    refine WL.c rfl (o_ld TI77 rfl rfl (cell_of hC1 rfl) ?_)
    refine WL.c rfl (o_fa 1 TI36 rfl TI3 rfl rfl ?_)
    refine WL.c rfl (o_ld TI3 rfl rfl (cell_of hC2 rfl) ?_)
    refine WL.c rfl (o_call Tryd.call39 (lc rfl (lc rfl (lc rfl ln))) ((hmany _ _ _ hM hS hT).mono ?_))
    rintro vz wz ⟨adz, vvz, lfz, hMz, hSz, hlfz, hoz⟩
    replace hx := FP.tr hx hoz
    clear hM hS hlf
    have hM := hMz
    have hS := hSz
    have hlf := hlfz
    refine WL.nil ?_
    refine ret0 rfl ?_
    exact ⟨_, _, _, by rw [hsh]; simpa [List.append_assoc] using hM, by simpa [Trs.flat] using hS, hlf, hx⟩
  · skip
    have hk1 : y.kids = 1 ∧ 0 ≤ y.n ∧ y.n ≤ 2147483647 := by rcases okB_cases hok with h | h | h | h | h <;> omega
    obtain ⟨t, rfl⟩ := trs_one (ts := ks) (by have : (ks.len : Int) = y.kids := hw.2.2.2.1; omega)
    have hwt : t.wf y.kind (deep + 1) := hw.2.2.2.2.1
    have htl : (Trs.cons t .nil).flat = t.flat := by simp [Trs.flat]
    rw [htl] at hS hn
    have hnn : y.n = (y.n.toNat : Int) := by omega
    have hsh : (Tr.node y (.cons t .nil)).sh = [108, 105, 115, 116, 60] ++ (t.sh ++ ([44] ++ (digL y.n.toNat ++ [62]))) := by simp [Tr.sh, Trs.shK, hk]
    rw [hsh] at hb
    have hmany := fun w ad v hM hS hT => many_spec n IH t y.kind (deep + 1) [108, 105, 115, 116, 60] y.n.toNat H p ad v lf C bs w hn hwt hM hS hlf hT h1H (by omega) hb
    simp only [← hnn] at hmany
    refine W.region ?_
    refine WL.c rfl (o_fa 0 TI36 rfl TI3 rfl rfl ?_)
    refine WL.c rfl (o_ld TI3 rfl rfl (cell_of hC2 rfl) ?_)
    refine WL.nil ?_
    refine W.block ?_
    refine W.seq ?_
    refine W.region ?_
    refine WL.c rfl (o_eq rfl rfl ?_)
    refine WL.c rfl (o_ash (show _ = Value.bool _ from rfl) ?_)
    refine WL.nil ?_
    refine W.condF' rfl (by rw [hk]; decide) ?_
    refine W.seq ?_
    refine W.region ?_
    refine WL.c rfl (o_eq rfl rfl ?_)
    refine WL.c rfl (o_ash (show _ = Value.bool _ from rfl) ?_)
    refine WL.nil ?_
    refine W.condF' rfl (by rw [hk]; decide) ?_
    refine W.seq ?_
    refine W.region ?_
    refine WL.c rfl (o_eq rfl rfl ?_)
    refine WL.c rfl (o_ash (show _ = Value.bool _ from rfl) ?_)
    refine WL.nil ?_
    refine W.condF' rfl (by rw [hk]; decide) ?_
    refine W.seq ?_
    refine W.region ?_
    refine WL.c rfl (o_eq rfl rfl ?_)
    refine WL.c rfl (o_ash (show _ = Value.bool _ from rfl) ?_)
    refine WL.nil ?_
    refine W.condF' rfl (by rw [hk]; decide) ?_
    refine W.seq ?_
    refine W.region ?_
    refine WL.c rfl (o_eq rfl rfl ?_)
    refine WL.c rfl (o_ash (show _ = Value.bool _ from rfl) ?_)
    refine WL.nil ?_
    refine W.condF' rfl (by rw [hk]; decide) ?_
    refine W.seq ?_
    refine W.region ?_
    refine WL.c rfl (o_eq rfl rfl ?_)
    refine WL.c rfl (o_ash (show _ = Value.bool _ from rfl) ?_)
    refine WL.nil ?_
    refine W.condT' rfl (by rw [hk]; decide) ?_
    refine W.region ?_
    refine WL.c rfl (o_ld TI77 rfl rfl (cell_of hC1 rfl) ?_)
    refine WL.c rfl (o_fa 1 TI36 rfl TI3 rfl rfl ?_)
    refine WL.c rfl (o_ld TI3 rfl rfl (cell_of hC2 rfl) ?_)
    refine WL.c rfl (o_call Tryd.call39 (lc rfl (lc rfl (lc rfl ln))) ((hmany _ _ _ hM hS hT).mono ?_))
    rintro vz wz ⟨adz, vvz, lfz, hMz, hSz, hlfz, hoz⟩
    replace hx := FP.tr hx hoz
    clear hM hS hlf
    have hM := hMz
    have hS := hSz
    have hlf := hlfz
    refine WL.nil ?_
    refine ret0 rfl ?_
    exact ⟨_, _, _, by rw [hsh]; simpa [List.append_assoc] using hM, by simpa [Trs.flat] using hS, hlf, hx⟩
  · skip
    have hk1 : y.kids = 1 ∧ 0 ≤ y.n ∧ y.n ≤ 2147483647 := by rcases okB_cases hok with h | h | h | h | h <;> omega
    obtain ⟨t, rfl⟩ := trs_one (ts := ks) (by have : (ks.len : Int) = y.kids := hw.2.2.2.1; omega)
    have hwt : t.wf y.kind (deep + 1) := hw.2.2.2.2.1
    have htl : (Trs.cons t .nil).flat = t.flat := by simp [Trs.flat]
    rw [htl] at hS hn
    have hsh : (Tr.node y (.cons t .nil)).sh = [111, 112, 116, 105, 111, 110, 60] ++ (t.sh ++ [62]) := by simp [Tr.sh, Trs.shK, hk]
    rw [hsh] at hb
    refine W.region ?_
    refine WL.c rfl (o_fa 0 TI36 rfl TI3 rfl rfl ?_)
    refine WL.c rfl (o_ld TI3 rfl rfl (cell_of hC2 rfl) ?_)
    refine WL.nil ?_
    refine W.block ?_
    refine W.seq ?_
    refine W.region ?_
    refine WL.c rfl (o_eq rfl rfl ?_)
    refine WL.c rfl (o_ash (show _ = Value.bool _ from rfl) ?_)
    refine WL.nil ?_
    refine W.condF' rfl (by rw [hk]; decide) ?_
    refine W.seq ?_
    refine W.region ?_
    refine WL.c rfl (o_eq rfl rfl ?_)
    refine WL.c rfl (o_ash (show _ = Value.bool _ from rfl) ?_)
    refine WL.nil ?_
    refine W.condF' rfl (by rw [hk]; decide) ?_
    refine W.seq ?_
    refine W.region ?_
    refine WL.c rfl (o_eq rfl rfl ?_)
    refine WL.c rfl (o_ash (show _ = Value.bool _ from rfl) ?_)
    refine WL.nil ?_
    refine W.condF' rfl (by rw [hk]; decide) ?_
    refine W.seq ?_
    refine W.region ?_
    refine WL.c rfl (o_eq rfl rfl ?_)
    refine WL.c rfl (o_ash (show _ = Value.bool _ from rfl) ?_)
    refine WL.nil ?_
    refine W.condF' rfl (by rw [hk]; decide) ?_
    refine W.seq ?_
    refine W.region ?_
    refine WL.c rfl (o_eq rfl rfl ?_)
    refine WL.c rfl (o_ash (show _ = Value.bool _ from rfl) ?_)
    refine WL.nil ?_
    refine W.condF' rfl (by rw [hk]; decide) ?_
    refine W.seq ?_
    refine W.region ?_
    refine WL.c rfl (o_eq rfl rfl ?_)
    refine WL.c rfl (o_ash (show _ = Value.bool _ from rfl) ?_)
    refine WL.nil ?_
    refine W.condF' rfl (by rw [hk]; decide) ?_
    refine W.seq ?_
    refine W.region ?_
    refine WL.c rfl (o_eq rfl rfl ?_)
    refine WL.c rfl (o_ash (show _ = Value.bool _ from rfl) ?_)
    refine WL.nil ?_
    refine W.condT' rfl (by rw [hk]; decide) ?_
    refine W.seq ?_
    refine W.region ?_
    refine WL.c rfl (o_ld TI77 rfl rfl (cell_of hC1 rfl) ?_)
    refine WL.c rfl (o_bs1 (v := st ([111, 112, 116, 105, 111, 110, 60])) TI78 TI9 (show _ = st ([111, 112, 116, 105, 111, 110, 60]) from rfl) (by decide) (by decide) rfl ?_)
    have hB60 : (w.alloc (Obj.cells (st ([111, 112, 116, 105, 111, 110, 60])).cells 9)).heap[w.heap.size]? = some (.cells (List.map st [[111, 112, 116, 105, 111, 110, 60]]).toArray 9 (0, 0)) := heap_alloc_new _ _
    have hxl := Only.alloc w (Obj.cells (st ([111, 112, 116, 105, 111, 110, 60])).cells 9)
    have hbp60 : w.heap.size ≠ p := by have := hM.lt; omega
    generalize w.alloc (Obj.cells (st ([111, 112, 116, 105, 111, 110, 60])).cells 9) = ws60 at hB60 hxl ⊢
    obtain ⟨b60, hb60⟩ : ∃ b, b = w.heap.size := ⟨_, rfl⟩
    rw [← hb60] at hB60 hbp60 ⊢
    replace hS := hS.ext hxl
    replace hT := hT.ext hxl
    replace hM := hM.ext hxl
    replace hx := FP.ext hx hxl
    replace hC1 := hxl.blk hC1 (fun h => h)
    replace hC2 := hxl.blk hC2 (fun h => h)
    clear hxl
    refine WL.c rfl (o_call Tryd.call16 (lc rfl (lc rfl ln)) ((text_spec H p _ _ lf (bs) b60 [[111, 112, 116, 105, 111, 110, 60]] _ hM hB60 hbp60 (by simp at hb ⊢; omega) (by simp)).mono ?_))
    rintro v61 w61 ⟨ad61, vv61, hM2, ho61⟩
    replace hS := hS.only ho61 (fun k hk => FP.off hHp (hlf k hk))
    replace hT := hT.only ho61 (FP.off hHp h1H)
    replace hC1 := FP.blk ho61 hC1 (by decide) hb1p
    replace hC2 := FP.blk ho61 hC2 (by decide) hb2p
    replace hx := FP.tr hx ho61
    clear hM
    have hM := hM2
    clear hM2
    refine WL.nil ?_
    refine W.seq ?_
    refine W.region ?_
    refine WL.c rfl (o_ld TI77 rfl rfl (cell_of hC1 rfl) ?_)
    have hIH := IH t y.kind (deep + 1) H p _ _ lf C _ _ hn hwt hM hS hlf hT h1H (by simp at hb ⊢; omega)
    refine WL.c rfl (o_call Tryd.call17 (lc rfl ln) ((hIH).mono ?_))
    rintro v63 w63 ⟨ad63, vv63, lf2, hM2, hS2, hlf2, ho63⟩
    replace hC1 := FP.blk ho63 hC1 (by decide) hb1p
    replace hx := FP.tr hx ho63
    clear hM hS hlf
    have hM := hM2
    have hS := hS2
    have hlf := hlf2
    clear hM2 hS2 hlf2
    replace hT := hT.only ho63 (FP.off hHp h1H)
    refine WL.nil ?_
    refine W.region ?_
    refine WL.c rfl (o_ld TI77 rfl rfl (cell_of hC1 rfl) ?_)
    refine WL.c rfl (o_bs1 (v := st ([62])) TI78 TI9 (show _ = st ([62]) from rfl) (by decide) (by decide) rfl ?_)
    have hB65 : (w63.alloc (Obj.cells (st ([62])).cells 9)).heap[w63.heap.size]? = some (.cells (List.map st [[62]]).toArray 9 (0, 0)) := heap_alloc_new _ _
    have hxl := Only.alloc w63 (Obj.cells (st ([62])).cells 9)
    have hbp65 : w63.heap.size ≠ p := by have := hM.lt; omega
    generalize w63.alloc (Obj.cells (st ([62])).cells 9) = ws65 at hB65 hxl ⊢
    obtain ⟨b65, hb65⟩ : ∃ b, b = w63.heap.size := ⟨_, rfl⟩
    rw [← hb65] at hB65 hbp65 ⊢
    replace hS := hS.ext hxl
    replace hT := hT.ext hxl
    replace hM := hM.ext hxl
    replace hx := FP.ext hx hxl
    replace hC1 := hxl.blk hC1 (fun h => h)
    clear hxl
    refine WL.c rfl (o_call Tryd.call16 (lc rfl (lc rfl ln)) ((text_spec H p _ _ lf2 _ b65 [[62]] _ hM hB65 hbp65 (by simp at hb ⊢; omega) (by simp)).mono ?_))
    rintro v66 w66 ⟨ad66, vv66, hM2, ho66⟩
    replace hS := hS.only ho66 (fun k hk => FP.off hHp (hlf k hk))
    replace hT := hT.only ho66 (FP.off hHp h1H)
    replace hC1 := FP.blk ho66 hC1 (by decide) hb1p
    replace hx := FP.tr hx ho66
    clear hM
    have hM := hM2
    clear hM2
    refine WL.nil ?_
    refine ret0 rfl ?_
    exact ⟨_, _, _, by rw [hsh]; simpa [List.append_assoc] using hM, by simpa [Trs.flat] using hS, hlf, hx⟩
  · skip
    have hkk : y.kids = (ks.len : Int) := hw.2.2.2.1.symm
    have hwk : ks.wf 7 (deep + 1) := by have h := hw.2.2.2.2; rw [hk] at h; exact h
    have hks64 : ks.len ≤ 64 := by have := (rightB_kids hw.2.2.1 hw.2.1).2; omega
    have hsh : (Tr.node y ks).sh = [117, 110, 105, 111, 110, 123] ++ (ks.shR false true ++ [125]) := by simp [Tr.sh, hk]
    rw [hsh] at hb
    refine W.region ?_
    refine WL.c rfl (o_fa 0 TI36 rfl TI3 rfl rfl ?_)
    refine WL.c rfl (o_ld TI3 rfl rfl (cell_of hC2 rfl) ?_)
    refine WL.nil ?_
    refine W.block ?_
    refine W.seq ?_
    refine W.region ?_
    refine WL.c rfl (o_eq rfl rfl ?_)
    refine WL.c rfl (o_ash (show _ = Value.bool _ from rfl) ?_)
    refine WL.nil ?_
    refine W.condF' rfl (by rw [hk]; decide) ?_
    refine W.seq ?_
    refine W.region ?_
    refine WL.c rfl (o_eq rfl rfl ?_)
    refine WL.c rfl (o_ash (show _ = Value.bool _ from rfl) ?_)
    refine WL.nil ?_
    refine W.condF' rfl (by rw [hk]; decide) ?_
    refine W.seq ?_
    refine W.region ?_
    refine WL.c rfl (o_eq rfl rfl ?_)
    refine WL.c rfl (o_ash (show _ = Value.bool _ from rfl) ?_)
    refine WL.nil ?_
    refine W.condF' rfl (by rw [hk]; decide) ?_
    refine W.seq ?_
    refine W.region ?_
    refine WL.c rfl (o_eq rfl rfl ?_)
    refine WL.c rfl (o_ash (show _ = Value.bool _ from rfl) ?_)
    refine WL.nil ?_
    refine W.condF' rfl (by rw [hk]; decide) ?_
    refine W.seq ?_
    refine W.region ?_
    refine WL.c rfl (o_eq rfl rfl ?_)
    refine WL.c rfl (o_ash (show _ = Value.bool _ from rfl) ?_)
    refine WL.nil ?_
    refine W.condF' rfl (by rw [hk]; decide) ?_
    refine W.seq ?_
    refine W.region ?_
    refine WL.c rfl (o_eq rfl rfl ?_)
    refine WL.c rfl (o_ash (show _ = Value.bool _ from rfl) ?_)
    refine WL.nil ?_
    refine W.condF' rfl (by rw [hk]; decide) ?_
    refine W.seq ?_
    refine W.region ?_
    refine WL.c rfl (o_eq rfl rfl ?_)
    refine WL.c rfl (o_ash (show _ = Value.bool _ from rfl) ?_)
    refine WL.nil ?_
    refine W.condF' rfl (by rw [hk]; decide) ?_
    refine W.seq ?_
    refine W.region ?_
    refine WL.c rfl (o_eq rfl rfl ?_)
    refine WL.c rfl (o_ash (show _ = Value.bool _ from rfl) ?_)
    refine WL.nil ?_
    refine W.condT' rfl (by rw [hk]; decide) ?_
    refine W.seq ?_
    refine W.region ?_
    refine WL.c rfl (o_ld TI77 rfl rfl (cell_of hC1 rfl) ?_)
    refine WL.c rfl (o_bs1 (v := st ([117, 110, 105, 111, 110, 123])) TI78 TI9 (show _ = st ([117, 110, 105, 111, 110, 123]) from rfl) (by decide) (by decide) rfl ?_)
    have hB70 : (w.alloc (Obj.cells (st ([117, 110, 105, 111, 110, 123])).cells 9)).heap[w.heap.size]? = some (.cells (List.map st [[117, 110, 105, 111, 110, 123]]).toArray 9 (0, 0)) := heap_alloc_new _ _
    have hxl := Only.alloc w (Obj.cells (st ([117, 110, 105, 111, 110, 123])).cells 9)
    have hbp70 : w.heap.size ≠ p := by have := hM.lt; omega
    generalize w.alloc (Obj.cells (st ([117, 110, 105, 111, 110, 123])).cells 9) = ws70 at hB70 hxl ⊢
    obtain ⟨b70, hb70⟩ : ∃ b, b = w.heap.size := ⟨_, rfl⟩
    rw [← hb70] at hB70 hbp70 ⊢
    replace hS := hS.ext hxl
    replace hT := hT.ext hxl
    replace hM := hM.ext hxl
    replace hx := FP.ext hx hxl
    replace hC1 := hxl.blk hC1 (fun h => h)
    replace hC2 := hxl.blk hC2 (fun h => h)
    clear hxl
    refine WL.c rfl (o_call Tryd.call16 (lc rfl (lc rfl ln)) ((text_spec H p _ _ lf (bs) b70 [[117, 110, 105, 111, 110, 123]] _ hM hB70 hbp70 (by simp at hb ⊢; omega) (by simp)).mono ?_))
    rintro v71 w71 ⟨ad71, vv71, hM2, ho71⟩
    replace hS := hS.only ho71 (fun k hk => FP.off hHp (hlf k hk))
    replace hT := hT.only ho71 (FP.off hHp h1H)
    replace hC1 := FP.blk ho71 hC1 (by decide) hb1p
    replace hC2 := FP.blk ho71 hC2 (by decide) hb2p
    replace hx := FP.tr hx ho71
    clear hM
    have hM := hM2
    clear hM2
    refine WL.nil ?_
    refine W.seq ?_
    refine W.region ?_
    refine WL.c rfl (o_ld TI77 rfl rfl (cell_of hC1 rfl) ?_)
    refine WL.c rfl (o_fa 5 TI36 rfl TI3 rfl rfl ?_)
    refine WL.c rfl (o_ld TI3 rfl rfl (cell_of hC2 rfl) ?_)
    refine WL.c rfl (o_mkF (lc rfl ln) ?_)
    have hkids := kids_spec n false _ (each_u n IH) Tryd.call41 ks (deep + 1) b1 H p _ _ lf C _ _ hn hwk hM hC1 hb1p hS hlf hT h1H hks64 (by simp at hb ⊢; omega)
    simp only [← hkk] at hkids
    refine WL.c rfl (o_call Tryd.call40 (lc rfl (lc rfl (lc rfl ln))) ((hkids).mono ?_))
    rintro v76 w76 ⟨ad76, vv76, lf2, hM2, hS2, hlf2, ho76⟩
    replace hC1 := FP.blk ho76 hC1 (by decide) hb1p
    replace hx := FP.tr hx ho76
    clear hM hS hlf
    have hM := hM2
    have hS := hS2
    have hlf := hlf2
    clear hM2 hS2 hlf2
    replace hT := hT.only ho76 (FP.off hHp h1H)
    refine WL.nil ?_
    refine W.region ?_
    refine WL.c rfl (o_ld TI77 rfl rfl (cell_of hC1 rfl) ?_)
    refine WL.c rfl (o_bs1 (v := st ([125])) TI78 TI9 (show _ = st ([125]) from rfl) (by decide) (by decide) rfl ?_)
    have hB78 : (w76.alloc (Obj.cells (st ([125])).cells 9)).heap[w76.heap.size]? = some (.cells (List.map st [[125]]).toArray 9 (0, 0)) := heap_alloc_new _ _
    have hxl := Only.alloc w76 (Obj.cells (st ([125])).cells 9)
    have hbp78 : w76.heap.size ≠ p := by have := hM.lt; omega
    generalize w76.alloc (Obj.cells (st ([125])).cells 9) = ws78 at hB78 hxl ⊢
    obtain ⟨b78, hb78⟩ : ∃ b, b = w76.heap.size := ⟨_, rfl⟩
    rw [← hb78] at hB78 hbp78 ⊢
    replace hS := hS.ext hxl
    replace hT := hT.ext hxl
    replace hM := hM.ext hxl
    replace hx := FP.ext hx hxl
    replace hC1 := hxl.blk hC1 (fun h => h)
    clear hxl
    refine WL.c rfl (o_call Tryd.call16 (lc rfl (lc rfl ln)) ((text_spec H p _ _ lf2 _ b78 [[125]] _ hM hB78 hbp78 (by simp at hb ⊢; omega) (by simp)).mono ?_))
    rintro v79 w79 ⟨ad79, vv79, hM2, ho79⟩
    replace hS := hS.only ho79 (fun k hk => FP.off hHp (hlf k hk))
    replace hT := hT.only ho79 (FP.off hHp h1H)
    replace hC1 := FP.blk ho79 hC1 (by decide) hb1p
    replace hx := FP.tr hx ho79
    clear hM
    have hM := hM2
    clear hM2
    refine WL.nil ?_
    refine ret0 rfl ?_
    exact ⟨_, _, _, by rw [hsh]; simpa [List.append_assoc] using hM, by simpa [Trs.flat] using hS, hlf, hx⟩
  · skip
    have hkk : y.kids = (ks.len : Int) := hw.2.2.2.1.symm
    have hwk : ks.wf 8 (deep + 1) := by have h := hw.2.2.2.2; rw [hk] at h; exact h
    have hks64 : ks.len ≤ 64 := by have := (rightB_kids hw.2.2.1 hw.2.1).2; omega
    have hsh : (Tr.node y ks).sh = [115, 116, 114, 117, 99, 116, 123] ++ (ks.shR true true ++ [125]) := by simp [Tr.sh, hk]
    rw [hsh] at hb
    refine W.region ?_
    refine WL.c rfl (o_fa 0 TI36 rfl TI3 rfl rfl ?_)
    refine WL.c rfl (o_ld TI3 rfl rfl (cell_of hC2 rfl) ?_)
    refine WL.nil ?_
    refine W.block ?_
    refine W.seq ?_
    refine W.region ?_
    refine WL.c rfl (o_eq rfl rfl ?_)
    refine WL.c rfl (o_ash (show _ = Value.bool _ from rfl) ?_)
    refine WL.nil ?_
    refine W.condF' rfl (by rw [hk]; decide) ?_
    refine W.seq ?_
    refine W.region ?_
    refine WL.c rfl (o_eq rfl rfl ?_)
    refine WL.c rfl (o_ash (show _ = Value.bool _ from rfl) ?_)
    refine WL.nil ?_
    refine W.condF' rfl (by rw [hk]; decide) ?_
    refine W.seq ?_
    refine W.region ?_
    refine WL.c rfl (o_eq rfl rfl ?_)
    refine WL.c rfl (o_ash (show _ = Value.bool _ from rfl) ?_)
    refine WL.nil ?_
    refine W.condF' rfl (by rw [hk]; decide) ?_
    refine W.seq ?_
    refine W.region ?_
    refine WL.c rfl (o_eq rfl rfl ?_)
    refine WL.c rfl (o_ash (show _ = Value.bool _ from rfl) ?_)
    refine WL.nil ?_
    refine W.condF' rfl (by rw [hk]; decide) ?_
    refine W.seq ?_
    refine W.region ?_
    refine WL.c rfl (o_eq rfl rfl ?_)
    refine WL.c rfl (o_ash (show _ = Value.bool _ from rfl) ?_)
    refine WL.nil ?_
    refine W.condF' rfl (by rw [hk]; decide) ?_
    refine W.seq ?_
    refine W.region ?_
    refine WL.c rfl (o_eq rfl rfl ?_)
    refine WL.c rfl (o_ash (show _ = Value.bool _ from rfl) ?_)
    refine WL.nil ?_
    refine W.condF' rfl (by rw [hk]; decide) ?_
    refine W.seq ?_
    refine W.region ?_
    refine WL.c rfl (o_eq rfl rfl ?_)
    refine WL.c rfl (o_ash (show _ = Value.bool _ from rfl) ?_)
    refine WL.nil ?_
    refine W.condF' rfl (by rw [hk]; decide) ?_
    refine W.seq ?_
    refine W.region ?_
    refine WL.c rfl (o_eq rfl rfl ?_)
    refine WL.c rfl (o_ash (show _ = Value.bool _ from rfl) ?_)
    refine WL.nil ?_
    refine W.condF' rfl (by rw [hk]; decide) ?_
    refine W.seq ?_
    refine W.region ?_
    refine WL.c rfl (o_eq rfl rfl ?_)
    refine WL.c rfl (o_ash (show _ = Value.bool _ from rfl) ?_)
    refine WL.nil ?_
    refine W.condT' rfl (by rw [hk]; decide) ?_
    refine W.seq ?_
    refine W.region ?_
    refine WL.c rfl (o_ld TI77 rfl rfl (cell_of hC1 rfl) ?_)
    refine WL.c rfl (o_bs1 (v := st ([115, 116, 114, 117, 99, 116, 123])) TI78 TI9 (show _ = st ([115, 116, 114, 117, 99, 116, 123]) from rfl) (by decide) (by decide) rfl ?_)
    have hB83 : (w.alloc (Obj.cells (st ([115, 116, 114, 117, 99, 116, 123])).cells 9)).heap[w.heap.size]? = some (.cells (List.map st [[115, 116, 114, 117, 99, 116, 123]]).toArray 9 (0, 0)) := heap_alloc_new _ _
    have hxl := Only.alloc w (Obj.cells (st ([115, 116, 114, 117, 99, 116, 123])).cells 9)
    have hbp83 : w.heap.size ≠ p := by have := hM.lt; omega
    generalize w.alloc (Obj.cells (st ([115, 116, 114, 117, 99, 116, 123])).cells 9) = ws83 at hB83 hxl ⊢
    obtain ⟨b83, hb83⟩ : ∃ b, b = w.heap.size := ⟨_, rfl⟩
    rw [← hb83] at hB83 hbp83 ⊢
    replace hS := hS.ext hxl
    replace hT := hT.ext hxl
    replace hM := hM.ext hxl
    replace hx := FP.ext hx hxl
    replace hC1 := hxl.blk hC1 (fun h => h)
    replace hC2 := hxl.blk hC2 (fun h => h)
    clear hxl
    refine WL.c rfl (o_call Tryd.call16 (lc rfl (lc rfl ln)) ((text_spec H p _ _ lf (bs) b83 [[115, 116, 114, 117, 99, 116, 123]] _ hM hB83 hbp83 (by simp at hb ⊢; omega) (by simp)).mono ?_))
    rintro v84 w84 ⟨ad84, vv84, hM2, ho84⟩
    replace hS := hS.only ho84 (fun k hk => FP.off hHp (hlf k hk))
    replace hT := hT.only ho84 (FP.off hHp h1H)
    replace hC1 := FP.blk ho84 hC1 (by decide) hb1p
    replace hC2 := FP.blk ho84 hC2 (by decide) hb2p
    replace hx := FP.tr hx ho84
    clear hM
    have hM := hM2
    clear hM2
    refine WL.nil ?_
    refine W.seq ?_
    refine W.region ?_
    refine WL.c rfl (o_ld TI77 rfl rfl (cell_of hC1 rfl) ?_)
    refine WL.c rfl (o_fa 5 TI36 rfl TI3 rfl rfl ?_)
    refine WL.c rfl (o_ld TI3 rfl rfl (cell_of hC2 rfl) ?_)
    refine WL.c rfl (o_mkF (lc rfl ln) ?_)
    have hkids := kids_spec n true _ (each_s n IH) Tryd.call42 ks (deep + 1) b1 H p _ _ lf C _ _ hn hwk hM hC1 hb1p hS hlf hT h1H hks64 (by simp at hb ⊢; omega)
    simp only [← hkk] at hkids
    refine WL.c rfl (o_call Tryd.call40 (lc rfl (lc rfl (lc rfl ln))) ((hkids).mono ?_))
    rintro v89 w89 ⟨ad89, vv89, lf2, hM2, hS2, hlf2, ho89⟩
    replace hC1 := FP.blk ho89 hC1 (by decide) hb1p
    replace hx := FP.tr hx ho89
    clear hM hS hlf
    have hM := hM2
    have hS := hS2
    have hlf := hlf2
    clear hM2 hS2 hlf2
    replace hT := hT.only ho89 (FP.off hHp h1H)
    refine WL.nil ?_
    refine W.region ?_
    refine WL.c rfl (o_ld TI77 rfl rfl (cell_of hC1 rfl) ?_)
    refine WL.c rfl (o_bs1 (v := st ([125])) TI78 TI9 (show _ = st ([125]) from rfl) (by decide) (by decide) rfl ?_)
    have hB91 : (w89.alloc (Obj.cells (st ([125])).cells 9)).heap[w89.heap.size]? = some (.cells (List.map st [[125]]).toArray 9 (0, 0)) := heap_alloc_new _ _
    have hxl := Only.alloc w89 (Obj.cells (st ([125])).cells 9)
    have hbp91 : w89.heap.size ≠ p := by have := hM.lt; omega
    generalize w89.alloc (Obj.cells (st ([125])).cells 9) = ws91 at hB91 hxl ⊢
    obtain ⟨b91, hb91⟩ : ∃ b, b = w89.heap.size := ⟨_, rfl⟩
    rw [← hb91] at hB91 hbp91 ⊢
    replace hS := hS.ext hxl
    replace hT := hT.ext hxl
    replace hM := hM.ext hxl
    replace hx := FP.ext hx hxl
    replace hC1 := hxl.blk hC1 (fun h => h)
    clear hxl
    refine WL.c rfl (o_call Tryd.call16 (lc rfl (lc rfl ln)) ((text_spec H p _ _ lf2 _ b91 [[125]] _ hM hB91 hbp91 (by simp at hb ⊢; omega) (by simp)).mono ?_))
    rintro v92 w92 ⟨ad92, vv92, hM2, ho92⟩
    replace hS := hS.only ho92 (fun k hk => FP.off hHp (hlf k hk))
    replace hT := hT.only ho92 (FP.off hHp h1H)
    replace hC1 := FP.blk ho92 hC1 (by decide) hb1p
    replace hx := FP.tr hx ho92
    clear hM
    have hM := hM2
    clear hM2
    refine WL.nil ?_
    refine ret0 rfl ?_
    exact ⟨_, _, _, by rw [hsh]; simpa [List.append_assoc] using hM, by simpa [Trs.flat] using hS, hlf, hx⟩

theorem node_all : ∀ n, SNode n := by
  intro n
  induction n with
  | zero =>
    intro t above deep H p ad v lf C bs w0 hn
    cases t with
    | node y ks => simp [Tr.flat] at hn
  | succ n ih =>
    intro t above deep H p ad v lf C bs w0 hn hw hM hS hlf hT h1 hb
    cases t with
    | node y ks => exact node_step n ih y ks above deep H p ad v lf C bs w0 (by simpa [Tr.flat] using hn) hw hM hS hlf hT h1 hb

end Go.Proofs.YtanimeifmicmoaaDoor

set_option linter.unusedSimpArgs false
set_option linter.unusedVariables false
set_option maxRecDepth 100000
namespace Go.Proofs.YtanimeifmicmoaaDoor
open Go Go.Vc Go.RowKit Go.Proofs

mutual
theorem sh_len : ∀ (t : Tr) (a : Int) (deep : Nat), t.wf a deep → t.sh.length + 40 ≤ 80 * t.flat.length
  | .node y ks, a, deep, h => by
    obtain ⟨-, -, hr, hl, hks⟩ := h
    obtain ⟨hok, hnm, -, -⟩ := rightB_iff hr
    simp only [Tr.flat, List.length_cons]
    have hn10 : y.n.toNat ≤ 2147483647 ∧ (8 * y.n).toNat ≤ 99999999999 := by rcases okB_cases hok with h | h | h | h | h <;> omega
    have hd1 := digL_len 10 y.n.toNat (by omega) (by decide)
    have hd2 := digL_len 11 (8 * y.n).toNat (by omega) (by decide)
    simp only [Tr.sh]
    split
    · simp; omega
    · split
      · simp; omega
      · split
        · simp; omega
        · split
          · rename_i h9
            have h1 : nameB y.name = true := by unfold namB at hnm; rw [if_pos h9] at hnm; exact hnm
            unfold nameB at h1; simp only [Bool.and_eq_true, decide_eq_true_eq] at h1
            omega
          · split
            · have := shK_len ks _ _ hks
              have h7 : (if y.kind = 4 then [118, 101, 99, 116, 111, 114, 60] else [108, 105, 115, 116, 60] : List UInt8).length ≤ 7 := by split <;> simp
              simp only [List.length_append, List.length_cons, List.length_nil] at this ⊢
              omega
            · split
              · have := shK_len ks _ _ hks
                simp only [List.length_append, List.length_cons, List.length_nil] at this ⊢
                omega
              · have h78 : y.kind = 8 ∨ y.kind = 7 := by rcases okB_cases hok with h | h | h | h | h <;> omega
                have := shR_len ks (decide (y.kind = 8)) true (deep + 1) (by rcases h78 with e | e <;> simpa [e] using hks)
                have h7 : (if y.kind = 8 then [115, 116, 114, 117, 99, 116, 123] else [117, 110, 105, 111, 110, 123] : List UInt8).length ≤ 8 := by split <;> simp
                simp only [List.length_append, List.length_cons, List.length_nil] at this ⊢
                omega
theorem shK_len : ∀ (ts : Trs) (a : Int) (deep : Nat), ts.wf a deep → ts.shK.length ≤ 80 * ts.flat.length
  | .nil, _, _, _ => by simp [Trs.shK, Trs.flat]
  | .cons t ts, a, deep, h => by
    have h1 := sh_len t _ _ h.1
    have h2 := shK_len ts _ _ h.2
    simp only [Trs.shK, Trs.flat, List.length_append]
    omega
theorem shR_len : ∀ (ts : Trs) (s first : Bool) (deep : Nat), ts.wf (if s then 8 else 7) deep → (ts.shR s first).length ≤ 80 * ts.flat.length
  | .nil, _, _, _, _ => by simp [Trs.shR, Trs.flat]
  | .cons t ts, s, first, deep, h => by
    have h1 := sh_len t _ _ h.1
    have h2 := shR_len ts s false _ h.2
    obtain ⟨-, -, g1, g2⟩ := rightB_iff (wf_top h.1)
    have h3 : (if s then t.top.label else digL t.top.tag.toNat).length ≤ 32 := by
      cases s
      · have h5 : t.top.tag.toNat ≤ 2147483647 := by
          unfold tagB at g2
          simp only [Bool.or_eq_true, Bool.and_eq_true, decide_eq_true_eq] at g2
          omega
        have := digL_len 10 t.top.tag.toNat (by omega) (by decide)
        simp only [Bool.false_eq_true, if_false]; omega
      · have h6 : nameB t.top.label = true := by unfold labB at g1; simpa using g1
        unfold nameB at h6; simp only [Bool.and_eq_true, decide_eq_true_eq] at h6
        simp only [if_true]; omega
    have h4 : (if first then [] else [44] : List UInt8).length ≤ 1 := by split <;> simp
    simp only [Trs.shR, Trs.flat, List.length_append, List.length_cons, List.length_nil]
    omega
end
def shDef (p : DefT) : List UInt8 := [116, 121, 112, 101, 32] ++ (p.1 ++ ([61] ++ (p.2.sh ++ [59])))
def shDefs : List DefT → List UInt8
  | [] => []
  | p :: l => shDef p ++ shDefs l
theorem Sl.only2 {w w' : World} {F : Nat → Prop} {s n : Nat} {v : Value} {xs : List Value} (h : Sl w s v n xs) (ho : Only F w w') (hn : ∀ k, k < w.heap.size → ¬ F k) : Sl w' s v n xs := by
  refine ⟨h.len, ?_⟩
  rcases h.val with h1 | ⟨b, o, c, h1, h2, hc⟩
  · exact .inl h1
  · refine .inr ⟨b, o, c, h1, h2, fun i u hu => ?_⟩
    have hi := hc i u hu
    have hb : b < w.heap.size := by
      unfold World.cell? at hi
      rcases Nat.lt_or_ge b w.heap.size with hl | hl
      · exact hl
      · simp [Array.getElem?_eq_none hl] at hi
    have := ho.block b hb (hn b hb)
    unfold World.cell? at hi ⊢
    simp only at hi ⊢
    rw [this]; exact hi
theorem Sl.blk_lt {w : World} {s n : Nat} {v : Value} {xs : List Value} (h : Sl w s v n xs) (h0 : xs ≠ []) (hn : 0 < n) : ∀ k, v.ownBlock = some k → k < w.heap.size := fun k hk => by
  rcases h.val with ⟨h1, -⟩ | ⟨b, o, c, rfl, h2, hc⟩
  · omega
  · obtain ⟨u, us, rfl⟩ : ∃ u us, xs = u :: us := by cases xs with | nil => exact absurd rfl h0 | cons u us => exact ⟨u, us, rfl⟩
    have hi := hc 0 u rfl
    have hb : b < w.heap.size := by
      unfold World.cell? at hi
      rcases Nat.lt_or_ge b w.heap.size with hl | hl
      · exact hl
      · simp [Array.getElem?_eq_none hl] at hi
    have : b = k := by simpa [Value.ownBlock] using hk
    omega
theorem DefR.only2 {w w' : World} {D : List Df} {dv : Value} {V : Nat → Value} {F : Nat → Prop} (h : DefR w D dv V) (ho : Only F w w') (hn : ∀ k, k < w.heap.size → ¬ F k) : DefR w' D dv V :=
  ⟨Sl.only2 h.row ho hn, fun j hj => Sl.only2 (h.tys j hj) ho hn⟩

set_option maxHeartbeats 4000000 in
theorem print_spec (D : List Df) (dv : Value) (V : Nat → Value) (w0 : World) (hD : DefR w0 D dv V) (hlim : DLim D) (hT : Tab w0) (h1 : 1 < w0.heap.size) (hck : (chkS D).2.2 = 0) (l : List DefT) (hws : ∀ q ∈ l, DefW q) (hmap : D.map (fun d => (d.name, d.ty)) = l.map (fun q => (q.1, q.2.flat))) (hbl : (shDefs l).length ≤ 140737488355328) : Ca Tryd.prog 9 #[.agg #[dv]] w0 (fun u w' => u = (if 65536 < (shDefs l).length then .tuple #[st [], .int .i64 4] else .tuple #[st (shDefs l), .int .i64 0]) ∧ Ext w0 w') := by
  have h256 := (chkS_trees hck).1
  refine Ca.of Tryd.func9 Tryd.ntmps9 rfl rfl ?_
  refine W.seq ?_
  refine W.region ?_
  refine WL.c rfl (o_boxB rfl ?_)
  intro w1 hC1 hx hs1
  replace hC1 : w1.heap[w0.heap.size]? = some (.cells #[dv] 24 (0, 0)) := hC1
  obtain ⟨c1, hc1⟩ : ∃ c, c = w0.heap.size := ⟨_, rfl⟩
  rw [← hc1] at hC1 ⊢
  refine WL.c rfl (o_ash (show _ = Value.string _ from rfl) ?_)
  refine WL.c rfl (o_ash (show _ = Value.int _ _ from rfl) ?_)
  refine WL.nil ?_
  refine W.seq ?_
  refine W.seq ?_
  refine W.region ?_
  refine WL.c rfl (o_ldA TI24 rfl rfl (show Cells _ c1 0 [dv] from Cells.of hC1 0 _ (by simp)) rfl ?_)
  refine WL.c rfl (o_call Tryd.call15 (lc rfl ln) ((check_spec D dv V _ (hD.ext hx) hlim).mono ?_))
  rintro v12 w12 ⟨rfl, hx12⟩
  rw [show rs3 (chkS D) = .tuple #[.int .i64 ((chkS D).1 : Int), .int .i64 ((chkS D).2.1 : Int), .int .i64 ((chkS D).2.2 : Int)] from rfl]
  replace hx := hx.tr hx12
  replace hC1 := hx12.blk hC1 (fun h => h)
  refine WL.c rfl (o_mvh (by first | exact (show _ = Value.tuple _ from rfl) | exact rfl) ?_)
  refine WL.c rfl (o_ext rfl rfl ?_)
  refine WL.c rfl (o_ext rfl rfl ?_)
  refine WL.c rfl (o_ext rfl rfl ?_)
  refine WL.c rfl (o_ash (show _ = Value.int _ _ from rfl) ?_)
  refine WL.c rfl (o_ash (show _ = Value.int _ _ from rfl) ?_)
  refine WL.c rfl (o_ash (show _ = Value.int _ _ from rfl) ?_)
  refine WL.nil ?_
  refine W.seq ?_
  refine W.region ?_
  refine WL.c rfl (o_mvh (show _ = Value.int _ _ from rfl) ?_)
  refine WL.c rfl (o_ne rfl rfl ?_)
  refine WL.nil ?_
  refine W.condF' rfl (by simp; omega) ?_
  refine W.skip ?_
  refine W.seq ?_
  refine W.region ?_
  refine WL.c rfl (o_alB TI51 ?_)
  intro w7 hC7 hx7a hs7
  obtain ⟨H, hH⟩ : ∃ H, H = w12.heap.size := ⟨_, rfl⟩
  rw [← hH] at hC7 ⊢
  have h1H : 1 < H := by have := hx.size; omega
  have hM : PrM w7 H H (.pointer none) (.slice none 0 0) (.slice none 0 0) [] := ⟨hC7, .inl rfl, World.ownsRow_nil _ _ _ _, Nat.le_refl _⟩
  have hVlt : ∀ i (hi : i < D.length), 0 < (D[i].ty).length → ∀ k, (V i).ownBlock = some k → k < H := fun i hi hl k hk => by
    have h2 := (hD.ext hx).tys i hi
    rw [tyD_at hi] at h2
    rw [hH]; exact Sl.blk_lt h2 (fun h => by have := congrArg List.length h; rw [exs_len] at this; simp at this; omega) hl k hk
  replace hT := (hT.ext hx).ext hx7a
  replace hx := hx.tr hx7a
  replace hC1 := hx7a.blk hC1 (fun h => h)
  have hD7 := hD.ext hx
  have h0H : w0.heap.size ≤ H := by rw [hH]; have := hx12.size; omega
  have hs7H : H < w7.heap.size := by omega
  clear hC7
  refine WL.nil ?_
  refine W.seq ?_
  refine W.seq ?_
  refine W.region ?_
  refine WL.c rfl (o_fa 0 TI24 rfl TI22 rfl rfl ?_)
  refine WL.c rfl (o_ld TI22 rfl rfl (cell_of hC1 rfl) ?_)
  refine WL.c rfl (o_lenR TI22 rfl hD7.row ?_)
  refine WL.c rfl (o_mvh (show _ = Value.int _ _ from rfl) ?_)
  refine WL.nil ?_
  refine W.block ?_
  refine W.loop (fun e w => ∃ (i : Nat) (rest : List DefT) (ad v lf : Value) (b : List UInt8), i ≤ D.length ∧ shDefs l = b ++ shDefs rest ∧ (D.drop i).map (fun d => (d.name, d.ty)) = rest.map (fun q => (q.1, q.2.flat)) ∧ (∀ q ∈ rest, DefW q) ∧ (b = [] → v = .slice none 0 0 ∧ rest = l) ∧ e 7 = .pointer (some ⟨H, 0, none⟩) ∧ e 20 = dv ∧ e 21 = .int .i64 (D.length : Int) ∧ e 22 = .int .i64 (i : Int) ∧ PrM w H H ad v lf b ∧ Tab w ∧ Only (FP H H w7) w7 w ∧ Ext w0 w7) (fun e w => D.length - (intOf (e 22)).toNat) ?_ ?_
  · exact ⟨0, l, _, _, _, [], Nat.zero_le _, rfl, hmap, hws, fun _ => ⟨rfl, rfl⟩, rfl, rfl, rfl, rfl, hM, hT, Only.refl _ _, hx⟩
  rintro e w ⟨i, rest, ad, v, lf, b, hi, hq, hmp, hwr, hnil, h7, h20, h21, h22, hM, hT, hx7, hx⟩
  have hm22 := h22
  have hqb := congrArg List.length hq
  rw [List.length_append] at hqb
  refine W.seq ?_
  refine W.region ?_
  refine WL.c rfl (o_lt h22 h21 ?_)
  refine WL.nil ?_
  refine W.seq ?_
  refine W.cond rfl (fun c23 => ?_) (fun c23 => ?_)
  · try simp only [decide_eq_true_eq, decide_eq_false_iff_not, Bool.not_eq_true', Bool.not_eq_false', Bool.and_eq_true, Bool.or_eq_true, Bool.and_eq_false_iff, Bool.or_eq_false_iff] at c23
    have hil : i < D.length := by omega
    have hOw : Only (fun k => H ≤ k) w0 w := hx.trans' hx7 (fun _ h => h.elim) (fun k _ hF => by rcases hF with hF | ⟨h2, -⟩ <;> omega)
    have hDw := hD.only2 hOw (fun k hk h => by omega)
    obtain ⟨tb, to_, tc, hdv, htc⟩ := hDw.at hil
    have htd : tyD D i = D[i].ty := tyD_at hil
    have hty := hDw.tys i hil
    rw [htd] at hty
    rw [show D.getD i df0 = D[i] by simp [List.getD_eq_getElem?_getD, hil]] at htc
    have hdr : D.drop i = D[i] :: D.drop (i + 1) := (List.getElem_cons_drop hil).symm
    rw [hdr, List.map_cons] at hmp
    obtain ⟨⟨nm, t⟩, rest, rfl⟩ : ∃ q r2, rest = q :: r2 := by
      cases rest with
      | nil => simp at hmp
      | cons q r2 => exact ⟨q, r2, rfl⟩
    rw [List.map_cons, List.cons.injEq, Prod.mk.injEq] at hmp
    obtain ⟨⟨hn1, hn2⟩, hmp⟩ := hmp
    replace hn1 : D[i].name = nm := hn1
    replace hn2 : D[i].ty = t.flat := hn2
    obtain ⟨hnb, htw⟩ := hwr _ (List.mem_cons_self ..)
    replace htw : t.wf 0 0 := htw
    have htp : 0 < t.flat.length := by obtain ⟨F, hF⟩ := fm_top (t := t); rw [hF]; simp
    have hvl := hVlt i hil (by rw [hn2]; exact htp)
    rw [hn2] at hty
    simp only [shDefs, shDef, List.length_append, List.length_cons, List.length_nil] at hqb
    rw [hdv] at h20
    refine W.skip ?_
    refine W.seq ?_
    refine W.block ?_
    refine W.seq ?_
    refine W.region ?_
    refine WL.c rfl (o_ixB TI22 TI34 h20 h22 (by omega) ?_)
    refine WL.c rfl (o_ldA TI34 rfl rfl htc rfl ?_)
    refine WL.c rfl (o_alB TI34 ?_)
    intro wa hCa hxa hsa
    refine WL.u (o_stA TI34 rfl (show _ = Value.agg (dcell D[i] (V i)).toArray from rfl) rfl (by simp only [dcell, List.toArray, Array.toList, List.all_cons, List.all_nil, sl_one1 hty]; rfl) hCa rfl ?_)
    intro wb hB9 hob hsb
    have hxb := Ext.own hxa (Nat.le_refl _) hob
    obtain ⟨b9, hb9⟩ : ∃ b, b = w.heap.size := ⟨_, rfl⟩
    rw [← hb9] at hB9 ⊢
    have hb9p : b9 ≠ H := by have := hM.lt; omega
    clear hCa hxa hsa hob hsb
    replace hT := hT.ext hxb
    replace hM := hM.ext hxb
    replace hx7 := FP.ext hx7 hxb
    replace hB9 : wb.heap[b9]? = some (.cells #[st D[i].name, .int .i64 D[i].at_, V i] 34 (0, 0)) := hB9
    rw [hn1] at hB9
    replace hty : Sl wb 7 (V i) t.flat.length (exs t.flat) := hty.ext hxb
    refine WL.nil ?_
    refine W.seq ?_
    refine W.region ?_
    refine WL.c rfl (o_fa 0 TI34 rfl TI9 rfl rfl ?_)
    refine WL.c rfl (o_ld TI9 rfl rfl (cell_of hB9 rfl) ?_)
    refine WL.c rfl (o_bsn (vs := [st ([116, 121, 112, 101, 32]), st (nm), st ([61])]) (xs := [(.const (.string (.mk #[116, 121, 112, 101, 32]))), (.tmp 27), (.const (.string (.mk #[61])))]) TI78 TI9 rfl (lc (show _ = Value.string _ from rfl) (lc (show _ = Value.string _ from rfl) (lc (show _ = Value.string _ from rfl) ln))) rfl rfl (by decide) (by decide) ?_)
    have hB28 : (wb.alloc (Obj.cells [st ([116, 121, 112, 101, 32]), st (nm), st ([61])].toArray 9)).heap[wb.heap.size]? = some (.cells (List.map st [[116, 121, 112, 101, 32], nm, [61]]).toArray 9 (0, 0)) := heap_alloc_new _ _
    have hxl := Only.alloc wb (Obj.cells [st ([116, 121, 112, 101, 32]), st (nm), st ([61])].toArray 9)
    have hbp28 : wb.heap.size ≠ H := by have := hM.lt; omega
    generalize wb.alloc (Obj.cells [st ([116, 121, 112, 101, 32]), st (nm), st ([61])].toArray 9) = ws28 at hB28 hxl ⊢
    obtain ⟨b28, hb28⟩ : ∃ b, b = wb.heap.size := ⟨_, rfl⟩
    rw [← hb28] at hB28 hbp28 ⊢
    replace hT := hT.ext hxl
    replace hM := hM.ext hxl
    replace hx7 := FP.ext hx7 hxl
    replace hB9 := hxl.blk hB9 (fun h => h)
    replace hty := hty.ext hxl
    clear hxl
    refine WL.c rfl (o_call Tryd.call16 (lc h7 (lc rfl ln)) ((text_spec H H _ _ _ _ b28 [[116, 121, 112, 101, 32], nm, [61]] _ hM hB28 hbp28 (by simp; omega) (by simp)).mono ?_))
    rintro v29 w29 ⟨ad29, vv29, hM2, ho29⟩
    replace hT := hT.only ho29 (FP.off (Nat.le_refl _) h1H)
    replace hB9 := FP.blk ho29 hB9 (by decide) hb9p
    replace hx7 := FP.tr hx7 ho29
    clear hM
    have hM := hM2
    clear hM2
    refine WL.nil ?_
    refine W.seq ?_
    have hcell := hM.cell
    have hS1 : Sl w29 7 (V i) (t.flat ++ []).length (exs (t.flat ++ [])) := by rw [List.append_nil]; exact hty.only ho29 (fun k hk => FP.off (Nat.le_refl _) (hvl k hk))
    refine W.region ?_
    refine WL.c rfl (o_fa 2 TI34 rfl TI32 rfl rfl ?_)
    refine WL.c rfl (o_ld TI32 rfl rfl (cell_of hB9 rfl) ?_)
    refine WL.c rfl (o_fa 2 TI51 rfl TI32 rfl h7 ?_)
    refine WL.u (o_stB TI32 rfl (show _ = V i from rfl) (sl_one1 hty) hcell (show 2 < 3 by decide) ?_)
    intro w32 hB32 ho32 hs32
    have hM2 : PrM w32 H H ad29 vv29 (V i) _ := ⟨hB32, hM.adr, own_only hM.row ho32 (fun k hk he => by subst he; exact own_off hM.row hcell (by decide) hk), hM.hp⟩
    replace hS1 := hS1.only ho32 (fun k hk he => by have := hvl k hk; omega)
    replace hT := hT.only ho32 (fun he => by omega)
    replace hB9 := ho32.blk hB9 hb9p
    replace hx7 := FP.tr hx7 (ho32.mono (fun k _ h => .inl h))
    clear hM hcell
    have hM := hM2
    clear hM2
    refine WL.nil ?_
    refine W.seq ?_
    refine W.region ?_
    have hnd := node_all t.flat.length t 0 0 H H _ _ _ [] _ _ (Nat.le_refl _) htw hM hS1 hvl hT h1H (by simp; omega)
    refine WL.c rfl (o_call Tryd.call17 (lc h7 ln) ((hnd).mono ?_))
    rintro v33 w33 ⟨ad33, vv33, lf33, hM2, hS2, hlf2, ho33⟩
    replace hT := hT.only ho33 (FP.off (Nat.le_refl _) h1H)
    replace hB9 := FP.blk ho33 hB9 (by decide) hb9p
    replace hx7 := FP.tr hx7 ho33
    clear hM
    have hM := hM2
    clear hM2
    refine WL.nil ?_
    refine W.region ?_
    refine WL.c rfl (o_bs1 (v := st ([59])) TI78 TI9 (show _ = st ([59]) from rfl) (by decide) (by decide) rfl ?_)
    have hB34 : (w33.alloc (Obj.cells (st ([59])).cells 9)).heap[w33.heap.size]? = some (.cells (List.map st [[59]]).toArray 9 (0, 0)) := heap_alloc_new _ _
    have hxl := Only.alloc w33 (Obj.cells (st ([59])).cells 9)
    have hbp34 : w33.heap.size ≠ H := by have := hM.lt; omega
    generalize w33.alloc (Obj.cells (st ([59])).cells 9) = ws34 at hB34 hxl ⊢
    obtain ⟨b34, hb34⟩ : ∃ b, b = w33.heap.size := ⟨_, rfl⟩
    rw [← hb34] at hB34 hbp34 ⊢
    replace hT := hT.ext hxl
    replace hM := hM.ext hxl
    replace hx7 := FP.ext hx7 hxl
    replace hB9 := hxl.blk hB9 (fun h => h)
    clear hxl
    refine WL.c rfl (o_call Tryd.call16 (lc h7 (lc rfl ln)) ((text_spec H H _ _ _ _ b34 [[59]] _ hM hB34 hbp34 (by simp; omega) (by simp)).mono ?_))
    rintro v35 w35 ⟨ad35, vv35, hM2, ho35⟩
    replace hT := hT.only ho35 (FP.off (Nat.le_refl _) h1H)
    replace hB9 := FP.blk ho35 hB9 (by decide) hb9p
    replace hx7 := FP.tr hx7 ho35
    clear hM
    have hM := hM2
    clear hM2
    refine WL.nil ?_
    refine W.region ?_
    refine WL.c rfl (o_addi h22 rfl (by omega) ?_)
    refine WL.c rfl (o_mvh (show _ = Value.int _ _ from rfl) ?_)
    refine WL.nil ?_
    refine ⟨⟨i + 1, rest, _, _, _, _, by omega, ?_, hmp, fun q hq => hwr q (List.mem_cons_of_mem _ hq), fun h => ?_, h7, h20.trans hdv.symm, h21, rfl, hM, hT, hx7, hx⟩, ?_⟩
    · rw [hq]; simp [shDefs, shDef]
    · simp at h
    · show D.length - ((i : Int) + 1).toNat < _
      rw [hm22]; simp [intOf]; omega
  · try simp only [decide_eq_true_eq, decide_eq_false_iff_not, Bool.not_eq_true', Bool.not_eq_false', Bool.and_eq_true, Bool.or_eq_true, Bool.and_eq_false_iff, Bool.or_eq_false_iff] at c23
    have hil : i = D.length := by omega
    rw [hil, List.drop_length] at hmp
    have hr0 : rest = [] := by cases rest with
      | nil => rfl
      | cons q r => simp at hmp
    subst hr0
    have hbq : b = shDefs l := by rw [hq]; simp [shDefs]
    refine W.exit ?_
    refine W.seq ?_
    refine W.seq ?_
    refine W.region ?_
    refine WL.c rfl (o_fa 0 TI51 rfl TI49 rfl h7 ?_)
    refine WL.c rfl (o_call Tryd.call18 (lc rfl ln) ((blen_spec H H ad v lf b _ hM).mono ?_))
    rintro v38 w38 ⟨rfl, rfl⟩
    refine WL.c rfl (o_gt rfl rfl ?_)
    refine WL.nil ?_
    refine W.cond rfl (fun c39 => ?_) (fun c39 => ?_)
    · try simp only [decide_eq_true_eq, decide_eq_false_iff_not, Bool.not_eq_true', Bool.not_eq_false', Bool.and_eq_true, Bool.or_eq_true, Bool.and_eq_false_iff, Bool.or_eq_false_iff] at c39
      have hO : Ext w0 _ := hx.trans' hx7 (fun _ h => h) (fun k hk hF => by rcases hF with hF | ⟨h2, -⟩ <;> omega)
      refine W.seq ?_
      refine W.region ?_
      refine WL.c rfl (o_ash (show _ = Value.string _ from rfl) ?_)
      refine WL.c rfl (o_ash (show _ = Value.int _ _ from rfl) ?_)
      refine WL.nil ?_
      refine W.ret ?_
      refine ret2v rfl (show _ = Value.string _ from rfl) (show _ = Value.int _ _ from rfl) ?_
      rw [if_pos (by rw [← hbq]; omega)]
      exact ⟨rfl, hO⟩
    · try simp only [decide_eq_true_eq, decide_eq_false_iff_not, Bool.not_eq_true', Bool.not_eq_false', Bool.and_eq_true, Bool.or_eq_true, Bool.and_eq_false_iff, Bool.or_eq_false_iff] at c39
      refine W.skip ?_
      refine W.seq ?_
      by_cases hb0 : b = []
      · skip
        obtain ⟨hv0, hr0⟩ := hnil hb0
        subst hb0 hv0
        refine W.region ?_
        refine WL.c rfl (o_fa 0 TI51 rfl TI49 rfl h7 ?_)
        refine WL.c rfl (o_call Tryd.call19 (lc rfl ln) ((bstr_nil H H ad lf _ hM).mono ?_))
        rintro v41 w41 ⟨rfl, ho41⟩
        have hO : Ext w0 w41 := (hx.trans' hx7 (fun _ h => h) (fun k hk hF => by rcases hF with hF | ⟨h2, -⟩ <;> omega)).trans' ho41 (fun _ h => h) (fun k hk h => by omega)
        refine WL.c rfl (o_ash (show _ = Value.string _ from rfl) ?_)
        refine WL.c rfl (o_ash (show _ = Value.int _ _ from rfl) ?_)
        refine WL.nil ?_
        refine W.ret ?_
        refine ret2v rfl (show _ = Value.string _ from rfl) (show _ = Value.int _ _ from rfl) ?_
        rw [if_neg (by rw [← hbq]; first | omega | simp), ← hbq]
        exact ⟨rfl, hO⟩
      · skip
        skip
        refine W.region ?_
        refine WL.c rfl (o_fa 0 TI51 rfl TI49 rfl h7 ?_)
        refine WL.c rfl (o_call Tryd.call19 (lc rfl ln) ((bstr_full H H ad v lf b _ hM hb0).mono ?_))
        rintro v41 w41 ⟨rfl, ho41⟩
        have hO : Ext w0 w41 := (hx.trans' hx7 (fun _ h => h) (fun k hk hF => by rcases hF with hF | ⟨h2, -⟩ <;> omega)).trans' ho41 (fun _ h => h) (fun k hk h => by omega)
        refine WL.c rfl (o_ash (show _ = Value.string _ from rfl) ?_)
        refine WL.c rfl (o_ash (show _ = Value.int _ _ from rfl) ?_)
        refine WL.nil ?_
        refine W.ret ?_
        refine ret2v rfl (show _ = Value.string _ from rfl) (show _ = Value.int _ _ from rfl) ?_
        rw [if_neg (by rw [← hbq]; first | omega | simp), ← hbq]
        exact ⟨rfl, hO⟩
end Go.Proofs.YtanimeifmicmoaaDoor

set_option linter.unusedSimpArgs false
set_option linter.unusedVariables false
set_option maxRecDepth 100000
namespace Go.Proofs.YtanimeifmicmoaaDoor
open Go Go.Vc Go.RowKit Go.Proofs

theorem drop_map {α β : Type} (f : α → β) {A B : List α} {k : Nat} (ha : k < A.length) (hb : k < B.length) : (A.drop k).map f = (B.drop k).map f ↔ f A[k] = f B[k] ∧ (A.drop (k + 1)).map f = (B.drop (k + 1)).map f := by
  rw [← List.getElem_cons_drop ha, ← List.getElem_cons_drop hb, List.map_cons, List.map_cons, List.cons.injEq]
theorem bareD_iff {a b : Df} : bareD a = bareD b ↔ a.name = b.name ∧ a.ty.map bareE = b.ty.map bareE := by simp [bareD]
theorem bareE_iff {a b : Ex} : bareE a = bareE b ↔ a.kind = b.kind ∧ a.n = b.n ∧ a.name = b.name ∧ a.label = b.label ∧ a.tag = b.tag ∧ a.kids = b.kids := by
  obtain ⟨a1, a2, a3, a4, a5, a6, a7⟩ := a; obtain ⟨b1, b2, b3, b4, b5, b6, b7⟩ := b; simp [bareE]

theorem eqx_spec (x y : Ex) (w0 : World) : Ca Tryd.prog 23 #[.agg (exV x).toArray, .agg (exV y).toArray] w0 (fun v w' => v = .bool (decide (bareE x = bareE y)) ∧ Ext w0 w') := by
  refine Ca.of Tryd.func23 Tryd.ntmps23 rfl rfl ?_
  refine W.seq ?_
  refine W.region ?_
  refine WL.c rfl (o_boxB rfl ?_)
  intro w2 hC2 hx2 hs2
  obtain ⟨b2, hb2⟩ : ∃ b, b = w0.heap.size := ⟨_, rfl⟩
  rw [← hb2] at hC2 ⊢
  replace hC2 : w2.heap[b2]? = some (.cells (exV x).toArray 36 (0, 0)) := hC2
  have hx := hx2
  refine WL.c rfl (o_boxB rfl ?_)
  intro w3 hC3 hx3 hs3
  obtain ⟨b3, hb3⟩ : ∃ b, b = w2.heap.size := ⟨_, rfl⟩
  rw [← hb3] at hC3 ⊢
  replace hC3 : w3.heap[b3]? = some (.cells (exV y).toArray 36 (0, 0)) := hC3
  replace hx := hx.tr hx3
  replace hC2 := hx3.blk hC2 (fun h => h)
  have hl2 := (Array.getElem?_eq_some_iff.1 hC2).1
  have hz2 := hx2.size
  have hb23 : b2 < b3 := by omega
  refine WL.c rfl (o_ash (show _ = Value.bool _ from rfl) ?_)
  refine WL.nil ?_
  refine W.seq ?_
  refine W.region ?_
  refine WL.c rfl (o_fa 6 TI36 rfl TI3 rfl rfl ?_)
  refine WL.u (o_stB TI3 rfl (show _ = Value.int .i64 0 from rfl) rfl hC2 (show 6 < 7 by decide) ?_)
  intro w5 hB5 ho5 hs5
  replace hC2 : w5.heap[b2]? = some (.cells (exV (bareE x)).toArray 36 (0, 0)) := hB5
  replace hC3 := ho5.blk hC3 (by omega)
  replace hx := hx.trans' ho5 (fun _ h => h) (fun k hk he => by omega)
  refine WL.c rfl (o_fa 6 TI36 rfl TI3 rfl rfl ?_)
  refine WL.u (o_stB TI3 rfl (show _ = Value.int .i64 0 from rfl) rfl hC3 (show 6 < 7 by decide) ?_)
  intro w6 hB6 ho6 hs6
  replace hC3 : w6.heap[b3]? = some (.cells (exV (bareE y)).toArray 36 (0, 0)) := hB6
  replace hC2 := ho6.blk hC2 (by omega)
  replace hx := hx.trans' ho6 (fun _ h => h) (fun k hk he => by omega)
  refine WL.nil ?_
  refine W.seq ?_
  refine W.region ?_
  refine WL.c rfl (o_ldA TI36 rfl rfl (show Cells _ b2 0 (exV (bareE x)) from Cells.of hC2 0 _ (by simp)) rfl ?_)
  refine WL.c rfl (o_ldA TI36 rfl rfl (show Cells _ b3 0 (exV (bareE y)) from Cells.of hC3 0 _ (by simp)) rfl ?_)
  refine WL.c rfl (o_eqR TI36 (by kernel_rfl) (by kernel_rfl) rfl rfl (.int TI3 (by decide) rfl rfl (.int TI3 (by decide) rfl rfl (.str TI9 (by decide) rfl rfl (.str TI9 (by decide) rfl rfl (.int TI3 (by decide) rfl rfl (.int TI3 (by decide) rfl rfl (.int TI3 (by decide) rfl rfl .nil))))))) ?_)
  refine WL.c rfl (o_ash (show _ = Value.bool _ from rfl) ?_)
  refine WL.nil ?_
  refine W.ret ?_
  refine ret1v rfl (show _ = Value.bool _ from rfl) ?_
  exact ⟨congrArg Value.bool (by rw [Bool.eq_iff_iff, decide_eq_true_iff, bareE_iff]; simp [bareE]; exact ⟨fun ⟨a1, a2, a3, a4, a5, a6⟩ => ⟨of_decide_eq_true a1, of_decide_eq_true a2, of_decide_eq_true a3, of_decide_eq_true a4, of_decide_eq_true a5, of_decide_eq_true a6⟩, fun ⟨a1, a2, a3, a4, a5, a6⟩ => ⟨decide_eq_true a1, decide_eq_true a2, decide_eq_true a3, decide_eq_true a4, decide_eq_true a5, decide_eq_true a6⟩⟩), hx⟩
set_option maxHeartbeats 1000000 in
theorem eqe_spec (L M : List Ex) (v1 v2 : Value) (w0 : World) (hP1 : Sl w0 7 v1 L.length (exs L)) (hP2 : Sl w0 7 v2 M.length (exs M)) (hLl : L.length ≤ 4611686018427387904) : Ca Tryd.prog 22 #[v1, v2, .func (.func 23) #[] #[]] w0 (fun v w' => v = .bool (decide (L.map bareE = M.map bareE)) ∧ Ext w0 w') := by
  have hx : Ext w0 w0 := Only.refl _ _
  refine Ca.of Tryd.func22 Tryd.ntmps22 rfl rfl ?_
  refine W.seq ?_
  refine W.region ?_
  refine WL.c rfl (o_ash (show _ = Value.bool _ from rfl) ?_)
  refine WL.nil ?_
  refine W.seq ?_
  refine W.seq ?_
  refine W.region ?_
  refine WL.c rfl (o_mvh (by first | exact (show _ = Value.slice _ _ _ from rfl) | exact rfl) ?_)
  refine WL.c rfl (o_lenR TI32 rfl hP1 ?_)
  refine WL.c rfl (o_mvh (by first | exact (show _ = Value.slice _ _ _ from rfl) | exact rfl) ?_)
  refine WL.c rfl (o_lenR TI32 rfl hP2 ?_)
  refine WL.c rfl (o_ne rfl rfl ?_)
  refine WL.nil ?_
  refine W.cond rfl (fun c14 => ?_) (fun c14 => ?_)
  · try simp only [decide_eq_true_eq, decide_eq_false_iff_not, Bool.not_eq_true', Bool.not_eq_false', Bool.and_eq_true, Bool.or_eq_true, Bool.and_eq_false_iff, Bool.or_eq_false_iff] at c14
    have hn : ¬ L.length = M.length := by omega
    refine W.seq ?_
    refine W.region ?_
    refine WL.c rfl (o_ash (show _ = Value.bool _ from rfl) ?_)
    refine WL.nil ?_
    refine W.ret ?_
    refine ret1v rfl (show _ = Value.bool _ from rfl) ?_
    exact ⟨congrArg Value.bool (decide_eq_false (fun h => hn (by have := congrArg List.length h; simpa using this))).symm, hx⟩
  · try simp only [decide_eq_true_eq, decide_eq_false_iff_not, Bool.not_eq_true', Bool.not_eq_false', Bool.and_eq_true, Bool.or_eq_true, Bool.and_eq_false_iff, Bool.or_eq_false_iff] at c14
    have hn : L.length = M.length := by omega
    refine W.skip ?_
    refine W.seq ?_
    refine W.seq ?_
    refine W.region ?_
    refine WL.c rfl (o_mvh (by first | exact (show _ = Value.slice _ _ _ from rfl) | exact rfl) ?_)
    refine WL.c rfl (o_lenR TI32 rfl hP1 ?_)
    refine WL.c rfl (o_mvh (show _ = Value.int _ _ from rfl) ?_)
    refine WL.nil ?_
    refine W.block ?_
    refine W.loop (fun e w => ∃ k : Nat, k ≤ L.length ∧ e 1 = v2 ∧ e 2 = .func (.func 23) #[] #[] ∧ e 15 = v1 ∧ e 16 = .int .i64 (L.length : Int) ∧ e 17 = .int .i64 (k : Int) ∧ Sl w 7 v1 L.length (exs L) ∧ Sl w 7 v2 M.length (exs M) ∧ decide (L.map bareE = M.map bareE) = decide ((L.drop k).map bareE = (M.drop k).map bareE) ∧ Ext w0 w) (fun e w => L.length - (intOf (e 17)).toNat) ?_ ?_
    · exact ⟨0, Nat.zero_le _, rfl, rfl, rfl, rfl, rfl, hP1, hP2, rfl, hx⟩
    rintro e w ⟨k, hk, h1, h2, h15, h16, h17, hP1, hP2, hres, hx⟩
    have hm17 := h17
    refine W.seq ?_
    refine W.region ?_
    refine WL.c rfl (o_lt h17 h16 ?_)
    refine WL.nil ?_
    refine W.seq ?_
    refine W.cond rfl (fun c18 => ?_) (fun c18 => ?_)
    · try simp only [decide_eq_true_eq, decide_eq_false_iff_not, Bool.not_eq_true', Bool.not_eq_false', Bool.and_eq_true, Bool.or_eq_true, Bool.and_eq_false_iff, Bool.or_eq_false_iff] at c18
      have hk1 : k < L.length := by omega
      have hk2 : k < M.length := by omega
      have hdj := drop_map bareE hk1 hk2
      obtain ⟨ub, uo, uc, hV1, huc⟩ := Sl.exq hP1 hk1
      obtain ⟨ub2, uo2, uc2, hV2, huc2⟩ := Sl.exq hP2 hk2
      rw [hV1] at h15
      rw [hV2] at h1
      refine W.skip ?_
      refine W.seq ?_
      refine W.block ?_
      refine W.seq ?_
      refine W.region ?_
      refine WL.c rfl (o_mvh h17 ?_)
      refine WL.c rfl (o_ixB TI32 TI36 h15 h17 (by omega) ?_)
      refine WL.c rfl (o_ldA TI36 rfl rfl huc rfl ?_)
      refine WL.c rfl (o_alB TI36 ?_)
      intro wa hCa hxa hsa
      refine WL.c rfl (o_ash (show _ = Value.int _ _ from rfl) ?_)
      refine WL.u (o_stA TI36 rfl (show _ = Value.agg (exV L[k]).toArray from rfl) rfl rfl hCa rfl ?_)
      intro wb8 hC8 hob hsb
      have hxb := Ext.own hxa (Nat.le_refl _) hob
      obtain ⟨b8, hb8⟩ : ∃ b, b = w.heap.size := ⟨_, rfl⟩
      rw [← hb8] at hC8 ⊢
      clear hCa hxa hsa hob hsb
      replace hx := hx.tr hxb
      replace hP1 := hP1.ext hxb
      replace hP2 := hP2.ext hxb
      replace huc2 := Cells.only huc2 hxb (fun h => h)
      clear hxb
      refine WL.nil ?_
      refine W.seq ?_
      refine W.region ?_
      refine WL.c rfl (o_mvh h1 ?_)
      refine WL.c rfl (o_mvh (show _ = Value.int _ _ from rfl) ?_)
      refine WL.c rfl (o_ixB TI32 TI36 rfl rfl (by omega) ?_)
      refine WL.c rfl (o_ldA TI36 rfl rfl huc2 rfl ?_)
      refine WL.c rfl (o_alB TI36 ?_)
      intro wa hCa hxa hsa
      refine WL.u (o_stA TI36 rfl (show _ = Value.agg (exV M[k]).toArray from rfl) rfl rfl hCa rfl ?_)
      intro wb9 hC9 hob hsb
      have hxb := Ext.own hxa (Nat.le_refl _) hob
      obtain ⟨b9, hb9⟩ : ∃ b, b = wb8.heap.size := ⟨_, rfl⟩
      rw [← hb9] at hC9 ⊢
      clear hCa hxa hsa hob hsb
      replace hx := hx.tr hxb
      replace hP1 := hP1.ext hxb
      replace hP2 := hP2.ext hxb
      replace hC8 := hxb.blk hC8 (fun h => h)
      clear hxb
      refine WL.nil ?_
      refine W.seq ?_
      refine W.region ?_
      refine WL.c rfl (o_mvh h2 ?_)
      refine WL.c rfl (o_ldA TI36 rfl rfl (show Cells _ b8 0 (exV L[k]) from Cells.of hC8 0 _ (by simp)) rfl ?_)
      refine WL.c rfl (o_ldA TI36 rfl rfl (show Cells _ b9 0 (exV M[k]) from Cells.of hC9 0 _ (by simp)) rfl ?_)
      refine WL.c rfl (o_callF rfl Tryd.call23 (lc rfl (lc rfl ln)) ((eqx_spec L[k] M[k] _).mono ?_))
      rintro v29 w29 ⟨rfl, hx29⟩
      replace hx := hx.tr hx29
      replace hP1 := hP1.ext hx29
      replace hP2 := hP2.ext hx29
      refine WL.c rfl (o_not' rfl ?_)
      refine WL.nil ?_
      refine W.cond rfl (fun c30 => ?_) (fun c30 => ?_)
      · try simp only [decide_eq_true_eq, decide_eq_false_iff_not, Bool.not_eq_true', Bool.not_eq_false', Bool.and_eq_true, Bool.or_eq_true, Bool.and_eq_false_iff, Bool.or_eq_false_iff] at c30
        refine W.seq ?_
        refine W.region ?_
        refine WL.c rfl (o_ash (show _ = Value.bool _ from rfl) ?_)
        refine WL.nil ?_
        refine W.ret ?_
        refine ret1v rfl (show _ = Value.bool _ from rfl) ?_
        exact ⟨congrArg Value.bool (by rw [hres]; exact (decide_eq_false (fun h => by have he := (hdj.1 h).1; simp [he] at c30)).symm), hx⟩
      · try simp only [decide_eq_true_eq, decide_eq_false_iff_not, Bool.not_eq_true', Bool.not_eq_false', Bool.and_eq_true, Bool.or_eq_true, Bool.and_eq_false_iff, Bool.or_eq_false_iff] at c30
        have heq : bareE L[k] = bareE M[k] := by simpa using c30
        refine W.skip ?_
        refine W.region ?_
        refine WL.c rfl (o_addi h17 rfl (by omega) ?_)
        refine WL.c rfl (o_mvh (show _ = Value.int _ _ from rfl) ?_)
        refine WL.nil ?_
        refine ⟨⟨k + 1, by omega, h1.trans hV2.symm, h2, h15.trans hV1.symm, h16, rfl, hP1, hP2, ?_, hx⟩, ?_⟩
        · rw [hres]; exact dec_iff (by rw [hdj]; exact ⟨fun h => h.2, fun h => ⟨heq, h⟩⟩)
        · show L.length - ((k : Int) + 1).toNat < _
          rw [hm17]; simp [intOf]; omega
    · try simp only [decide_eq_true_eq, decide_eq_false_iff_not, Bool.not_eq_true', Bool.not_eq_false', Bool.and_eq_true, Bool.or_eq_true, Bool.and_eq_false_iff, Bool.or_eq_false_iff] at c18
      have hk1 : k = L.length := by omega
      have hj1 : L.drop k = [] := by rw [hk1, List.drop_length]
      have hj2 : M.drop k = [] := by rw [hk1, hn, List.drop_length]
      refine W.exit ?_
      refine W.seq ?_
      refine W.region ?_
      refine WL.c rfl (o_ash (show _ = Value.bool _ from rfl) ?_)
      refine WL.nil ?_
      refine W.ret ?_
      refine ret1v rfl (show _ = Value.bool _ from rfl) ?_
      exact ⟨congrArg Value.bool (by rw [hres, hj1, hj2]; simp), hx⟩
theorem eqd_spec (d1 d2 : Df) (v1 v2 : Value) (w0 : World) (h1 : Sl w0 7 v1 d1.ty.length (exs d1.ty)) (h2 : Sl w0 7 v2 d2.ty.length (exs d2.ty)) (hLl : d1.ty.length ≤ 4611686018427387904) : Ca Tryd.prog 21 #[.agg (dcell d1 v1).toArray, .agg (dcell d2 v2).toArray] w0 (fun v w' => v = .bool (decide (bareD d1 = bareD d2)) ∧ Ext w0 w') := by
  refine Ca.of Tryd.func21 Tryd.ntmps21 rfl rfl ?_
  refine W.seq ?_
  refine W.region ?_
  refine WL.c rfl (o_boxB rfl ?_)
  intro w2 hC2 hx2 hs2
  obtain ⟨b2, hb2⟩ : ∃ b, b = w0.heap.size := ⟨_, rfl⟩
  rw [← hb2] at hC2 ⊢
  replace hC2 : w2.heap[b2]? = some (.cells (dcell d1 v1).toArray 34 (0, 0)) := hC2
  have hx := hx2
  replace h1 := h1.ext hx2
  replace h2 := h2.ext hx2
  refine WL.c rfl (o_boxB rfl ?_)
  intro w3 hC3 hx3 hs3
  obtain ⟨b3, hb3⟩ : ∃ b, b = w2.heap.size := ⟨_, rfl⟩
  rw [← hb3] at hC3 ⊢
  replace hC3 : w3.heap[b3]? = some (.cells (dcell d2 v2).toArray 34 (0, 0)) := hC3
  replace hx := hx.tr hx3
  replace hC2 := hx3.blk hC2 (fun h => h)
  replace h1 := h1.ext hx3
  replace h2 := h2.ext hx3
  refine WL.c rfl (o_ash (show _ = Value.bool _ from rfl) ?_)
  refine WL.nil ?_
  refine W.seq ?_
  refine W.region ?_
  refine WL.c rfl (o_fa 0 TI34 rfl TI9 rfl rfl ?_)
  refine WL.c rfl (o_ld TI9 rfl rfl (cell_of hC2 rfl) ?_)
  refine WL.c rfl (o_fa 0 TI34 rfl TI9 rfl rfl ?_)
  refine WL.c rfl (o_ld TI9 rfl rfl (cell_of hC3 rfl) ?_)
  refine WL.c rfl (o_eqT rfl rfl ?_)
  refine WL.c rfl (o_mvh (show _ = Value.bool _ from rfl) ?_)
  refine WL.sp 5 rfl (fun g10 => ?_) (fun g10 => ?_)
  · skip
    refine WL.g rfl (g10) rfl (o_fa 2 TI34 rfl TI32 rfl rfl ?_)
    refine WL.g rfl (g10) rfl (o_ld TI32 rfl rfl (cell_of hC2 rfl) ?_)
    refine WL.g rfl (g10) rfl (o_fa 2 TI34 rfl TI32 rfl rfl ?_)
    refine WL.g rfl (g10) rfl (o_ld TI32 rfl rfl (cell_of hC3 rfl) ?_)
    refine WL.g rfl (g10) rfl (o_call Tryd.call22 (lc rfl (lc rfl (lc rfl ln))) ((eqe_spec d1.ty d2.ty v1 v2 _ h1 h2 hLl).mono ?_))
    rintro v15 w15 ⟨rfl, hx15⟩
    replace hx := hx.tr hx15
    refine WL.c rfl (o_pickA rfl rfl ?_)
    refine WL.c rfl (o_ash (show _ = Value.bool _ from rfl) ?_)
    refine WL.nil ?_
    refine W.ret ?_
    refine ret1v rfl (show _ = Value.bool _ from rfl) ?_
    exact ⟨congrArg Value.bool (by rw [Bool.eq_iff_iff, decide_eq_true_iff, bareD_iff]; simp_all), hx⟩
  · skip
    refine WL.s rfl (g10) rfl ?_
    refine WL.s rfl (g10) rfl ?_
    refine WL.s rfl (g10) rfl ?_
    refine WL.s rfl (g10) rfl ?_
    refine WL.s rfl (g10) rfl ?_
    refine WL.c rfl (o_pickF rfl (g10) ?_)
    refine WL.c rfl (o_ash (show _ = Value.bool _ from rfl) ?_)
    refine WL.nil ?_
    refine W.ret ?_
    refine ret1v rfl (show _ = Value.bool _ from rfl) ?_
    exact ⟨congrArg Value.bool (by rw [Bool.eq_iff_iff, decide_eq_true_iff, bareD_iff]; simp_all), hx⟩
set_option maxHeartbeats 1000000 in
theorem eqds_spec (A B : List Df) (dv1 dv2 : Value) (V1 V2 : Nat → Value) (w0 : World) (hA : DefR w0 A dv1 V1) (hB : DefR w0 B dv2 V2) (hAl : A.length ≤ 4611686018427387904) (hAt : ∀ d ∈ A, d.ty.length ≤ 4611686018427387904) : Ca Tryd.prog 20 #[dv1, dv2, .func (.func 21) #[] #[]] w0 (fun v w' => v = .bool (decide (A.map bareD = B.map bareD)) ∧ Ext w0 w') := by
  have hx : Ext w0 w0 := Only.refl _ _
  refine Ca.of Tryd.func20 Tryd.ntmps20 rfl rfl ?_
  refine W.seq ?_
  refine W.region ?_
  refine WL.c rfl (o_ash (show _ = Value.bool _ from rfl) ?_)
  refine WL.nil ?_
  refine W.seq ?_
  refine W.seq ?_
  refine W.region ?_
  refine WL.c rfl (o_mvh (by first | exact (show _ = Value.slice _ _ _ from rfl) | exact rfl) ?_)
  refine WL.c rfl (o_lenR TI22 rfl hA.row ?_)
  refine WL.c rfl (o_mvh (by first | exact (show _ = Value.slice _ _ _ from rfl) | exact rfl) ?_)
  refine WL.c rfl (o_lenR TI22 rfl hB.row ?_)
  refine WL.c rfl (o_ne rfl rfl ?_)
  refine WL.nil ?_
  refine W.cond rfl (fun c14 => ?_) (fun c14 => ?_)
  · try simp only [decide_eq_true_eq, decide_eq_false_iff_not, Bool.not_eq_true', Bool.not_eq_false', Bool.and_eq_true, Bool.or_eq_true, Bool.and_eq_false_iff, Bool.or_eq_false_iff] at c14
    have hn : ¬ A.length = B.length := by omega
    refine W.seq ?_
    refine W.region ?_
    refine WL.c rfl (o_ash (show _ = Value.bool _ from rfl) ?_)
    refine WL.nil ?_
    refine W.ret ?_
    refine ret1v rfl (show _ = Value.bool _ from rfl) ?_
    exact ⟨congrArg Value.bool (decide_eq_false (fun h => hn (by have := congrArg List.length h; simpa using this))).symm, hx⟩
  · try simp only [decide_eq_true_eq, decide_eq_false_iff_not, Bool.not_eq_true', Bool.not_eq_false', Bool.and_eq_true, Bool.or_eq_true, Bool.and_eq_false_iff, Bool.or_eq_false_iff] at c14
    have hn : A.length = B.length := by omega
    refine W.skip ?_
    refine W.seq ?_
    refine W.seq ?_
    refine W.region ?_
    refine WL.c rfl (o_mvh (by first | exact (show _ = Value.slice _ _ _ from rfl) | exact rfl) ?_)
    refine WL.c rfl (o_lenR TI22 rfl hA.row ?_)
    refine WL.c rfl (o_mvh (show _ = Value.int _ _ from rfl) ?_)
    refine WL.nil ?_
    refine W.block ?_
    refine W.loop (fun e w => ∃ k : Nat, k ≤ A.length ∧ e 1 = dv2 ∧ e 2 = .func (.func 21) #[] #[] ∧ e 15 = dv1 ∧ e 16 = .int .i64 (A.length : Int) ∧ e 17 = .int .i64 (k : Int) ∧ DefR w A dv1 V1 ∧ DefR w B dv2 V2 ∧ decide (A.map bareD = B.map bareD) = decide ((A.drop k).map bareD = (B.drop k).map bareD) ∧ Ext w0 w) (fun e w => A.length - (intOf (e 17)).toNat) ?_ ?_
    · exact ⟨0, Nat.zero_le _, rfl, rfl, rfl, rfl, rfl, hA, hB, rfl, hx⟩
    rintro e w ⟨k, hk, h1, h2, h15, h16, h17, hA, hB, hres, hx⟩
    have hm17 := h17
    refine W.seq ?_
    refine W.region ?_
    refine WL.c rfl (o_lt h17 h16 ?_)
    refine WL.nil ?_
    refine W.seq ?_
    refine W.cond rfl (fun c18 => ?_) (fun c18 => ?_)
    · try simp only [decide_eq_true_eq, decide_eq_false_iff_not, Bool.not_eq_true', Bool.not_eq_false', Bool.and_eq_true, Bool.or_eq_true, Bool.and_eq_false_iff, Bool.or_eq_false_iff] at c18
      have hk1 : k < A.length := by omega
      have hk2 : k < B.length := by omega
      have hAk := hAt _ (List.getElem_mem hk1)
      have hdj := drop_map bareD hk1 hk2
      obtain ⟨tb, to_, tc, rfl, htc, hty⟩ := hA.atk hk1
      obtain ⟨tb2, to2, tc2, rfl, htc2, hty2⟩ := hB.atk hk2
      refine W.skip ?_
      refine W.seq ?_
      refine W.block ?_
      refine W.seq ?_
      refine W.region ?_
      refine WL.c rfl (o_mvh h17 ?_)
      refine WL.c rfl (o_ixB TI22 TI34 h15 h17 (by omega) ?_)
      refine WL.c rfl (o_ldA TI34 rfl rfl htc rfl ?_)
      refine WL.c rfl (o_alB TI34 ?_)
      intro wa hCa hxa hsa
      refine WL.c rfl (o_ash (show _ = Value.int _ _ from rfl) ?_)
      refine WL.u (o_stA TI34 rfl (show _ = Value.agg (dcell A[k] (V1 k)).toArray from rfl) rfl (by simp only [dcell, List.toArray, Array.toList, List.all_cons, List.all_nil, sl_one1 hty]; rfl) hCa rfl ?_)
      intro wb8 hC8 hob hsb
      have hxb := Ext.own hxa (Nat.le_refl _) hob
      obtain ⟨b8, hb8⟩ : ∃ b, b = w.heap.size := ⟨_, rfl⟩
      rw [← hb8] at hC8 ⊢
      clear hCa hxa hsa hob hsb
      replace hx := hx.tr hxb
      replace hA := hA.ext hxb
      replace hB := hB.ext hxb
      replace hty := hty.ext hxb
      replace hty2 := hty2.ext hxb
      replace htc2 := Cells.only htc2 hxb (fun h => h)
      clear hxb
      refine WL.nil ?_
      refine W.seq ?_
      refine W.region ?_
      refine WL.c rfl (o_mvh h1 ?_)
      refine WL.c rfl (o_mvh (show _ = Value.int _ _ from rfl) ?_)
      refine WL.c rfl (o_ixB TI22 TI34 rfl rfl (by omega) ?_)
      refine WL.c rfl (o_ldA TI34 rfl rfl htc2 rfl ?_)
      refine WL.c rfl (o_alB TI34 ?_)
      intro wa hCa hxa hsa
      refine WL.u (o_stA TI34 rfl (show _ = Value.agg (dcell B[k] (V2 k)).toArray from rfl) rfl (by simp only [dcell, List.toArray, Array.toList, List.all_cons, List.all_nil, sl_one1 hty2]; rfl) hCa rfl ?_)
      intro wb9 hC9 hob hsb
      have hxb := Ext.own hxa (Nat.le_refl _) hob
      obtain ⟨b9, hb9⟩ : ∃ b, b = wb8.heap.size := ⟨_, rfl⟩
      rw [← hb9] at hC9 ⊢
      clear hCa hxa hsa hob hsb
      replace hx := hx.tr hxb
      replace hA := hA.ext hxb
      replace hB := hB.ext hxb
      replace hty := hty.ext hxb
      replace hty2 := hty2.ext hxb
      replace hC8 := hxb.blk hC8 (fun h => h)
      clear hxb
      refine WL.nil ?_
      refine W.seq ?_
      refine W.region ?_
      refine WL.c rfl (o_mvh h2 ?_)
      refine WL.c rfl (o_ldA TI34 rfl rfl (show Cells _ b8 0 (dcell A[k] (V1 k)) from Cells.of hC8 0 _ (by simp)) rfl ?_)
      refine WL.c rfl (o_ldA TI34 rfl rfl (show Cells _ b9 0 (dcell B[k] (V2 k)) from Cells.of hC9 0 _ (by simp)) rfl ?_)
      refine WL.c rfl (o_callF rfl Tryd.call21 (lc rfl (lc rfl ln)) ((eqd_spec A[k] B[k] (V1 k) (V2 k) _ hty hty2 hAk).mono ?_))
      rintro v29 w29 ⟨rfl, hx29⟩
      replace hx := hx.tr hx29
      replace hA := hA.ext hx29
      replace hB := hB.ext hx29
      refine WL.c rfl (o_not' rfl ?_)
      refine WL.nil ?_
      refine W.cond rfl (fun c30 => ?_) (fun c30 => ?_)
      · try simp only [decide_eq_true_eq, decide_eq_false_iff_not, Bool.not_eq_true', Bool.not_eq_false', Bool.and_eq_true, Bool.or_eq_true, Bool.and_eq_false_iff, Bool.or_eq_false_iff] at c30
        refine W.seq ?_
        refine W.region ?_
        refine WL.c rfl (o_ash (show _ = Value.bool _ from rfl) ?_)
        refine WL.nil ?_
        refine W.ret ?_
        refine ret1v rfl (show _ = Value.bool _ from rfl) ?_
        exact ⟨congrArg Value.bool (by rw [hres]; exact (decide_eq_false (fun h => by have he := (hdj.1 h).1; simp [he] at c30)).symm), hx⟩
      · try simp only [decide_eq_true_eq, decide_eq_false_iff_not, Bool.not_eq_true', Bool.not_eq_false', Bool.and_eq_true, Bool.or_eq_true, Bool.and_eq_false_iff, Bool.or_eq_false_iff] at c30
        have heq : bareD A[k] = bareD B[k] := by simpa using c30
        refine W.skip ?_
        refine W.region ?_
        refine WL.c rfl (o_addi h17 rfl (by omega) ?_)
        refine WL.c rfl (o_mvh (show _ = Value.int _ _ from rfl) ?_)
        refine WL.nil ?_
        refine ⟨⟨k + 1, by omega, h1, h2, h15, h16, rfl, hA, hB, ?_, hx⟩, ?_⟩
        · rw [hres]; exact dec_iff (by rw [hdj]; exact ⟨fun h => h.2, fun h => ⟨heq, h⟩⟩)
        · show A.length - ((k : Int) + 1).toNat < _
          rw [hm17]; simp [intOf]; omega
    · try simp only [decide_eq_true_eq, decide_eq_false_iff_not, Bool.not_eq_true', Bool.not_eq_false', Bool.and_eq_true, Bool.or_eq_true, Bool.and_eq_false_iff, Bool.or_eq_false_iff] at c18
      have hk1 : k = A.length := by omega
      have hj1 : A.drop k = [] := by rw [hk1, List.drop_length]
      have hj2 : B.drop k = [] := by rw [hk1, hn, List.drop_length]
      refine W.exit ?_
      refine W.seq ?_
      refine W.region ?_
      refine WL.c rfl (o_ash (show _ = Value.bool _ from rfl) ?_)
      refine WL.nil ?_
      refine W.ret ?_
      refine ret1v rfl (show _ = Value.bool _ from rfl) ?_
      exact ⟨congrArg Value.bool (by rw [hres, hj1, hj2]; simp), hx⟩
theorem ssame_spec (A B : List Df) (dv1 dv2 : Value) (V1 V2 : Nat → Value) (w0 : World) (hA : DefR w0 A dv1 V1) (hB : DefR w0 B dv2 V2) (hAl : A.length ≤ 4611686018427387904) (hAt : ∀ d ∈ A, d.ty.length ≤ 4611686018427387904) : Ca Tryd.prog 10 #[.agg #[dv1], .agg #[dv2]] w0 (fun v w' => v = .bool (decide (A.map bareD = B.map bareD)) ∧ Ext w0 w') := by
  refine Ca.of Tryd.func10 Tryd.ntmps10 rfl rfl ?_
  refine W.seq ?_
  refine W.region ?_
  refine WL.c rfl (o_boxB rfl ?_)
  intro w2 hC2 hx2 hs2
  obtain ⟨b2, hb2⟩ : ∃ b, b = w0.heap.size := ⟨_, rfl⟩
  rw [← hb2] at hC2 ⊢
  replace hC2 : w2.heap[b2]? = some (.cells ([dv1]).toArray 24 (0, 0)) := hC2
  have hx := hx2
  replace hA := hA.ext hx2
  replace hB := hB.ext hx2
  refine WL.c rfl (o_boxB rfl ?_)
  intro w3 hC3 hx3 hs3
  obtain ⟨b3, hb3⟩ : ∃ b, b = w2.heap.size := ⟨_, rfl⟩
  rw [← hb3] at hC3 ⊢
  replace hC3 : w3.heap[b3]? = some (.cells ([dv2]).toArray 24 (0, 0)) := hC3
  replace hx := hx.tr hx3
  replace hC2 := hx3.blk hC2 (fun h => h)
  replace hA := hA.ext hx3
  replace hB := hB.ext hx3
  refine WL.c rfl (o_ash (show _ = Value.bool _ from rfl) ?_)
  refine WL.nil ?_
  refine W.seq ?_
  refine W.region ?_
  refine WL.c rfl (o_fa 0 TI24 rfl TI22 rfl rfl ?_)
  refine WL.c rfl (o_ld TI22 rfl rfl (cell_of hC2 rfl) ?_)
  refine WL.c rfl (o_fa 0 TI24 rfl TI22 rfl rfl ?_)
  refine WL.c rfl (o_ld TI22 rfl rfl (cell_of hC3 rfl) ?_)
  refine WL.c rfl (o_call Tryd.call20 (lc rfl (lc rfl (lc rfl ln))) ((eqds_spec A B dv1 dv2 V1 V2 _ hA hB hAl hAt).mono ?_))
  rintro v9 w9 ⟨rfl, hx9⟩
  replace hx := hx.tr hx9
  refine WL.c rfl (o_ash (show _ = Value.bool _ from rfl) ?_)
  refine WL.nil ?_
  refine W.ret ?_
  refine ret1v rfl (show _ = Value.bool _ from rfl) ?_
  exact ⟨rfl, hx⟩
end Go.Proofs.YtanimeifmicmoaaDoor

set_option linter.unusedSimpArgs false
set_option linter.unusedVariables false
set_option maxRecDepth 100000
namespace Go.Proofs.YtanimeifmicmoaaDoor
open Go Go.Vc Go.RowKit Go.Proofs

theorem cell_lt {w : World} {b o : Nat} {v : Value} (hi : w.cell? ⟨b, o, none⟩ = some v) : b < w.heap.size := by
  unfold World.cell? at hi
  rcases Nat.lt_or_ge b w.heap.size with hl | hl
  · exact hl
  · simp [Array.getElem?_eq_none hl] at hi

end Go.Proofs.YtanimeifmicmoaaDoor

set_option linter.unusedSimpArgs false
set_option linter.unusedVariables false
set_option maxRecDepth 100000
namespace Go.Proofs.YtanimeifmicmoaaDoor
open Go Go.Vc Go.RowKit Go.Proofs

def e1A : Ex := ⟨5, 3, [], [], 0, 1, 0⟩
def e2A : Ex := ⟨1, 2, [], [], 0, 0, 0⟩
def tA : Tr := .node e1A (.cons (.node e2A .nil) .nil)
def dA : List Df := [⟨[97], 0, [e1A, e2A]⟩]
def lA : List DefT := [([97], tA)]
theorem ckA : (chkS dA).2.2 = 0 := by decide +kernel
theorem wsA : ∀ q ∈ lA, DefW q := by
  intro q hq
  simp only [lA, List.mem_cons, List.not_mem_nil, or_false] at hq
  subst hq
  refine ⟨by decide +kernel, ?_⟩
  simp only [tA, Tr.wf, Trs.wf, Trs.len]
  refine ⟨by decide, by decide +kernel, by decide +kernel, rfl, ⟨by decide, by decide +kernel, by decide +kernel, rfl, trivial⟩, trivial⟩
theorem mpA : dA.map (fun d => (d.name, d.ty)) = lA.map (fun q => (q.1, q.2.flat)) := rfl
theorem shA : shDefs lA = [116, 121, 112, 101, 32, 97, 61, 108, 105, 115, 116, 60, 117, 49, 54, 44, 51, 62, 59] := by
  have h3 : digL 3 = [51] := by rw [digL_lt (by decide)]; rfl
  have h16 : digL 16 = [49, 54] := by rw [digL_ge (by decide), digL_lt (by decide)]; rfl
  simp [shDefs, shDef, lA, tA, Tr.sh, Trs.shK, e1A, e2A, h3, h16]
theorem limA : DLim dA := by
  intro d hd
  simp only [dA, List.mem_cons, List.not_mem_nil, or_false] at hd
  subst hd
  refine ⟨by decide, by decide, fun x hx => ?_⟩
  simp only [List.mem_cons, List.not_mem_nil, or_false] at hx
  rcases hx with rfl | rfl <;> exact ⟨by decide, by decide⟩

set_option maxHeartbeats 1000000 in
theorem awake_spec (w0 : World) (hT : Tab w0) (h1H : 1 < w0.heap.size) : Ca Tryd.prog 7 #[] w0 (fun v w' => v = .bool true ∧ Ext w0 w') := by
  refine Ca.of Tryd.func7 Tryd.ntmps7 rfl rfl ?_
  refine W.seq ?_
  refine W.region ?_
  refine WL.c rfl (o_ash (show _ = Value.bool _ from rfl) ?_)
  refine WL.nil ?_
  refine W.seq ?_
  refine W.region ?_
  refine WL.c rfl (o_bldC (cs := [(.int .i64 5), (.int .i64 3), (.string ⟨#[]⟩), (.string ⟨#[]⟩), (.int .i64 0), (.int .i64 1), (.int .i64 0)]) TI36 (Sizes.cons TI3 (Sizes.cons TI3 (Sizes.cons TI9 (Sizes.cons TI9 (Sizes.cons TI3 (Sizes.cons TI3 (Sizes.cons TI3 Sizes.nil))))))) rfl (lcp (show _ = Value.int _ _ from rfl) (lcp (show _ = Value.int _ _ from rfl) (lcp (show _ = Value.int _ _ from rfl) lnp))) rfl rfl ?_)
  refine WL.c rfl (o_bldC (cs := [(.int .i64 1), (.int .i64 2), (.string ⟨#[]⟩), (.string ⟨#[]⟩), (.int .i64 0), (.int .i64 0), (.int .i64 0)]) TI36 (Sizes.cons TI3 (Sizes.cons TI3 (Sizes.cons TI9 (Sizes.cons TI9 (Sizes.cons TI3 (Sizes.cons TI3 (Sizes.cons TI3 Sizes.nil))))))) rfl (lcp (show _ = Value.int _ _ from rfl) (lcp (show _ = Value.int _ _ from rfl) lnp)) rfl rfl ?_)
  refine WL.c rfl (o_bs (cells := (exs [e1A, e2A]).toArray) TI32 TI36 (by simp) (by kernel_rfl) (by simp) ?_)
  have hB6 := heap_alloc_new w0 (.cells (exs [e1A, e2A]).toArray 36)
  have hx := Only.alloc w0 (.cells (exs [e1A, e2A]).toArray 36)
  generalize w0.alloc (.cells (exs [e1A, e2A]).toArray 36) = w6 at hB6 hx ⊢
  obtain ⟨b6, hb6⟩ : ∃ b, b = w0.heap.size := ⟨_, rfl⟩
  rw [← hb6] at hB6 ⊢
  refine WL.c rfl (o_bldC (cs := [(st [97]), (.int .i64 0), _]) TI34 (Sizes.cons TI9 (Sizes.cons TI3 (Sizes.cons TI32 Sizes.nil))) rfl (lcp (show _ = Value.string _ from rfl) (lcp (show _ = Value.slice _ _ _ from rfl) lnp)) rfl rfl ?_)
  refine WL.c rfl (o_bs1 (v := Value.agg #[st [97], .int .i64 0, .slice (some ⟨b6, 0, none⟩) 2 2]) TI22 TI34 (show _ = Value.agg #[st [97], .int .i64 0, .slice (some ⟨b6, 0, none⟩) 2 2] from rfl) (by decide) (by decide) rfl ?_)
  have hB8 : (w6.alloc (.cells (Value.agg #[st [97], .int .i64 0, .slice (some ⟨b6, 0, none⟩) 2 2]).cells 34)).heap[w6.heap.size]? = some (.cells (dcell ⟨[97], 0, [e1A, e2A]⟩ (.slice (some ⟨b6, 0, none⟩) 2 2)).toArray 34 (0, 0)) := heap_alloc_new w6 _
  have hx8 := Only.alloc w6 (.cells (Value.agg #[st [97], .int .i64 0, .slice (some ⟨b6, 0, none⟩) 2 2]).cells 34)
  generalize w6.alloc (.cells (Value.agg #[st [97], .int .i64 0, .slice (some ⟨b6, 0, none⟩) 2 2]).cells 34) = w8 at hB8 hx8 ⊢
  obtain ⟨b8, hb8⟩ : ∃ b, b = w6.heap.size := ⟨_, rfl⟩
  rw [← hb8] at hB8 ⊢
  replace hx := hx.tr hx8
  replace hB6 := hx8.blk hB6 (fun h => h)
  have hD : DefR w8 dA (.slice (some ⟨b8, 0, none⟩) 1 1) (fun _ => .slice (some ⟨b6, 0, none⟩) 2 2) := ⟨⟨rfl, .inr ⟨b8, 0, 1, rfl, Nat.le_refl _, Cells.of hB8 0 _ (fun i v h => by
      have h0 : drows dA (fun _ => Value.slice (some ⟨b6, 0, none⟩) 2 2) = dcell ⟨[97], 0, [e1A, e2A]⟩ (.slice (some ⟨b6, 0, none⟩) 2 2) := rfl
      rw [h0] at h
      simpa using h)⟩⟩, fun j hj => by
    have hj0 : j = 0 := by simp [dA] at hj; omega
    subst hj0
    exact ⟨rfl, .inr ⟨b6, 0, 2, rfl, Nat.le_refl _, Cells.of hB6 0 _ (fun i v h => by
      have h0 : tyD dA 0 = [e1A, e2A] := rfl
      rw [h0] at h
      simpa using h)⟩⟩⟩
  refine WL.c rfl (o_bldC (cs := [_]) TI24 (Sizes.cons TI22 Sizes.nil) rfl (lcp (show _ = Value.slice _ _ _ from rfl) lnp) rfl rfl ?_)
  refine WL.c rfl (o_alB TI24 ?_)
  intro wa hCa hxa hsa
  refine WL.u (o_stA TI24 rfl (show _ = Value.agg #[.slice (some ⟨b8, 0, none⟩) 1 1] from rfl) rfl rfl hCa rfl ?_)
  intro wb hC1 hob hsb
  have hxb := Ext.own hxa (Nat.le_refl _) hob
  obtain ⟨b1, hb1⟩ : ∃ b, b = w8.heap.size := ⟨_, rfl⟩
  rw [← hb1] at hC1 ⊢
  clear hCa hxa hsa hob hsb
  replace hx := hx.tr hxb
  replace hD := hD.ext hxb
  have hxz := hx.size
  refine WL.nil ?_
  refine W.seq ?_
  refine W.region ?_
  refine WL.c rfl (o_ldA TI24 rfl rfl (show Cells _ b1 0 [.slice (some ⟨b8, 0, none⟩) 1 1] from Cells.of hC1 0 _ (by simp)) rfl ?_)
  refine WL.c rfl (o_call Tryd.call9 (lc rfl ln) ((print_spec dA _ _ _ hD limA (hT.ext hx) (by omega) ckA lA wsA mpA (by rw [shA]; decide)).mono ?_))
  rintro v12 w12 ⟨rfl, hx12⟩
  rw [shA, if_neg (by decide)]
  replace hx := hx.tr hx12
  replace hD := hD.ext hx12
  replace hC1 := hx12.blk hC1 (fun h => h)
  refine WL.c rfl (o_mvh (by first | exact (show _ = Value.tuple _ from rfl) | exact rfl) ?_)
  refine WL.c rfl (o_ext rfl rfl ?_)
  refine WL.c rfl (o_ext rfl rfl ?_)
  refine WL.c rfl (o_ash (show _ = Value.string _ from rfl) ?_)
  refine WL.c rfl (o_ash (show _ = Value.int _ _ from rfl) ?_)
  refine WL.nil ?_
  refine W.seq ?_
  refine W.region ?_
  refine WL.c rfl (o_mvh (show _ = Value.string _ from rfl) ?_)
  refine WL.c rfl (o_eqT rfl rfl ?_)
  refine WL.c rfl (o_mvh (show _ = Value.bool _ from rfl) ?_)
  refine WL.g rfl (by decide) rfl (o_mvh (show _ = Value.int _ _ from rfl) ?_)
  refine WL.g rfl (by decide) rfl (o_eq rfl rfl ?_)
  refine WL.c rfl (o_pickA rfl rfl ?_)
  refine WL.c rfl (o_mvh (show _ = Value.bool _ from rfl) ?_)
  refine WL.g rfl (by decide) rfl (o_ldA TI24 rfl rfl (show Cells _ b1 0 [.slice (some ⟨b8, 0, none⟩) 1 1] from Cells.of hC1 0 _ (by simp)) rfl ?_)
  refine WL.g rfl (by decide) rfl (o_ldA TI24 rfl rfl (show Cells _ b1 0 [.slice (some ⟨b8, 0, none⟩) 1 1] from Cells.of hC1 0 _ (by simp)) rfl ?_)
  refine WL.g rfl (by decide) rfl (o_call Tryd.call10 (lc rfl (lc rfl ln)) ((ssame_spec dA dA _ _ _ _ _ hD hD (by decide) (by decide)).mono ?_))
  rintro v24 w24 ⟨rfl, hx24⟩
  replace hx := hx.tr hx24
  replace hD := hD.ext hx24
  replace hC1 := hx24.blk hC1 (fun h => h)
  refine WL.c rfl (o_pickA rfl rfl ?_)
  refine WL.c rfl (o_mvh (show _ = Value.bool _ from rfl) ?_)
  refine WL.g rfl (by simp) rfl (o_ldA TI24 rfl rfl (show Cells _ b1 0 [.slice (some ⟨b8, 0, none⟩) 1 1] from Cells.of hC1 0 _ (by simp)) rfl ?_)
  refine WL.g rfl (by simp) rfl (o_bldC (cs := [(.slice none 0 0)]) TI24 (Sizes.cons TI22 Sizes.nil) rfl lnp rfl rfl ?_)
  refine WL.g rfl (by simp) rfl (o_call Tryd.call10 (lc rfl (lc rfl ln)) ((ssame_spec dA [] _ (.slice none 0 0) _ (fun _ => undef) _ hD ⟨Sl.nil _ _, fun j hj => by simp at hj⟩ (by decide) (by decide)).mono ?_))
  rintro v29 w29 ⟨rfl, hx29⟩
  replace hx := hx.tr hx29
  refine WL.g rfl (by simp) rfl (o_not' rfl ?_)
  refine WL.c rfl (o_pickA rfl rfl ?_)
  refine WL.c rfl (o_ash (show _ = Value.bool _ from rfl) ?_)
  refine WL.nil ?_
  refine W.ret ?_
  refine ret1v rfl (show _ = Value.bool _ from rfl) ?_
  exact ⟨by simp [dA], hx⟩
end Go.Proofs.YtanimeifmicmoaaDoor

set_option linter.unusedSimpArgs false
set_option linter.unusedVariables false
set_option maxRecDepth 100000
namespace Go.Proofs.YtanimeifmicmoaaDoor
open Go Go.Vc Go.RowKit Go.Proofs

theorem bare_plE (T : List Tk) (x : Ex) : bareE (plE T x) = bareE x := by unfold plE; split <;> rfl
mutual
theorem idx_bare {T : List Tk} : ∀ (t : Tr) (i a : Nat), ((t.idx i a).map (plE T)).map bareE = t.flat.map bareE
  | .node y ks, i, a => by
    simp only [Tr.idx, Tr.flat, List.map_cons, bare_plE]
    congr 1
    split
    · exact idxR_bare ks _
    · exact idxK_bare ks _
theorem idxK_bare {T : List Tk} : ∀ (ts : Trs) (i : Nat), ((ts.idxK i).map (plE T)).map bareE = ts.flat.map bareE
  | .nil, _ => rfl
  | .cons t ts, i => by simp only [Trs.idxK, Trs.flat, List.map_append]; rw [idx_bare t, idxK_bare ts]
theorem idxR_bare {T : List Tk} : ∀ (ts : Trs) (i : Nat), ((ts.idxR i).map (plE T)).map bareE = ts.flat.map bareE
  | .nil, _ => rfl
  | .cons t ts, i => by simp only [Trs.idxR, Trs.flat, List.map_append]; rw [idx_bare t, idxR_bare ts]
end
theorem trees_bare {D : List Df} {l : List DefT} (h : D.map (fun d => (d.name, d.ty)) = l.map (fun q => (q.1, q.2.flat))) : D.map bareD = l.map (fun p => (⟨p.1, 0, p.2.flat.map bareE⟩ : Df)) := by
  have h1 := congrArg (List.map (fun q : List UInt8 × List Ex => (⟨q.1, 0, q.2.map bareE⟩ : Df))) h
  simp only [List.map_map] at h1
  exact h1
/-- two well-formed trees whose nodes are alike, places aside, print alike -/
theorem bareE_parts {a b : Ex} (h : bareE a = bareE b) : a.kind = b.kind ∧ a.n = b.n ∧ a.name = b.name ∧ a.label = b.label ∧ a.tag = b.tag ∧ a.kids = b.kids := bareE_iff.1 h
mutual
theorem sh_uniq : ∀ (t t2 : Tr) (a a2 : Int) (d d2 : Nat) (r r2 : List Ex), t.wf a d → t2.wf a2 d2 → t.flat.map bareE ++ r = t2.flat.map bareE ++ r2 → t.sh = t2.sh ∧ r = r2 ∧ bareE t.top = bareE t2.top
  | .node y ks, .node y2 ks2, a, a2, d, d2, r, r2, hw, hw2, h => by
    simp only [Tr.flat, List.map_cons, List.cons_append, List.cons.injEq] at h
    obtain ⟨h1, h2⟩ := h
    obtain ⟨e1, e2, e3, e4, e5, e6⟩ := bareE_parts h1
    have hl : ks.len = ks2.len := by
      have q1 : (ks.len : Int) = y.kids := hw.2.2.2.1
      have q2 : (ks2.len : Int) = y2.kids := hw2.2.2.2.1
      omega
    obtain ⟨g1, g2, g3⟩ := shs_uniq ks ks2 _ _ _ _ r r2 hl hw.2.2.2.2 hw2.2.2.2.2 h2
    refine ⟨?_, g3, h1⟩
    simp only [Tr.sh, e1, e2, e3, g1, g2]
theorem shs_uniq : ∀ (ts ts2 : Trs) (a a2 : Int) (d d2 : Nat) (r r2 : List Ex), ts.len = ts2.len → ts.wf a d → ts2.wf a2 d2 → ts.flat.map bareE ++ r = ts2.flat.map bareE ++ r2 → ts.shK = ts2.shK ∧ (∀ s f, ts.shR s f = ts2.shR s f) ∧ r = r2
  | .nil, .nil, _, _, _, _, r, r2, _, _, _, h => ⟨rfl, fun _ _ => rfl, by simpa [Trs.flat] using h⟩
  | .nil, .cons t2 ts2, _, _, _, _, _, _, hl, _, _, _ => by simp [Trs.len] at hl
  | .cons t ts, .nil, _, _, _, _, _, _, hl, _, _, _ => by simp [Trs.len] at hl
  | .cons t ts, .cons t2 ts2, a, a2, d, d2, r, r2, hl, hw, hw2, h => by
    simp only [Trs.flat, List.map_append, List.append_assoc] at h
    obtain ⟨g1, g2, g3⟩ := sh_uniq t t2 a a2 d d2 _ _ hw.1 hw2.1 h
    obtain ⟨k1, k2, k3⟩ := shs_uniq ts ts2 a a2 d d2 r r2 (by simpa [Trs.len] using hl) hw.2 hw2.2 g2
    obtain ⟨e1, e2, e3, e4, e5, e6⟩ := bareE_parts g3
    refine ⟨?_, fun s f => ?_, k3⟩
    · simp only [Trs.shK, g1, k1]
    · simp only [Trs.shR, g1, k2, e4, e5]
end
end Go.Proofs.YtanimeifmicmoaaDoor
