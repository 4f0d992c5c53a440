/-
  Walks and lemmas. Written by program out of specs of mine.
-/
import Derived.WalkKit
import Derived.WalkSpells
import Derived.WalkLawsBesides
import Derived.Deep.Quiet
import Derived.StillTail
import Derived.StringKeys
import Derived.Laws.StructEq
import Derived.Laws.Externs
import Derived.Laws.Tables
import Derived.Scope
import Derived.Test.YtcljkkfpcomdcaaProg
import Derived.Laws.AppendOwn
import Derived.Maps.AppendAt
import Derived.Recover
import Derived.Lib.Bytealg
import Derived.SizedLaws
import Derived.ChangeArms
import Derived.ChangeSlices
import Derived.Test.YtcljkkfpcomdcaaRows
import Derived.ProofKit
import Derived.OpenShut
import Derived.ShutString
import Derived.ChangeOld
import Derived.Below
import Derived.Test.YtcljkkfpcomdcaaGo3
set_option linter.unusedSimpArgs false
set_option linter.unusedVariables false
set_option maxRecDepth 100000
set_option linter.unusedSimpArgs false
set_option linter.unusedVariables false
set_option maxRecDepth 100000
namespace Go.Proofs.Ytcljkkfpcomdcaa
open Go Go.Vc Go.RowKit Go.Proofs
/-- the same, further behind -/
def shiftT (k : Nat) (t : Tk) : Tk := ⟨t.kind, t.text, t.n, k + t.at_, k + t.fin⟩
theorem runL_shift (p : UInt8 → Bool) (xs : List UInt8) (k j : Nat) : runL p xs (k + j) = k + runL p (xs.drop k) j := by
  unfold runL
  rw [List.drop_drop]; omega
theorem sub_shift (xs : List UInt8) (k l h : Nat) : sub xs (k + l) (k + h) = sub (xs.drop k) l h := by
  unfold sub
  rw [← List.drop_drop, List.drop_take, Nat.add_sub_cancel_left]
theorem oneL_shift (xs : List UInt8) (k j : Nat) (h : k + j < xs.length) (h' : j < (xs.drop k).length) : (oneL xs (k + j) h).1 = (oneL (xs.drop k) j h').1 ∧ ((oneL (xs.drop k) j h').1 = 0 → (oneL xs (k + j) h).2 = shiftT k (oneL (xs.drop k) j h').2) := by
  have he : (xs.drop k)[j] = xs[k + j] := by simp
  unfold oneL
  rw [he]
  by_cases h1 : letB xs[k + j] = true
  · rw [if_pos h1, if_pos h1, runL_shift, sub_shift]
    by_cases h2 : 32 < k + runL goeB (xs.drop k) j - (k + j)
    · rw [if_pos h2, if_pos (by omega)]; exact ⟨rfl, fun h => by simp at h⟩
    · rw [if_neg h2, if_neg (by omega)]; exact ⟨rfl, fun _ => rfl⟩
  · rw [if_neg h1, if_neg h1]
    by_cases h2 : digB xs[k + j] = true
    · rw [if_pos h2, if_pos h2, runL_shift, sub_shift]; exact ⟨rfl, fun _ => rfl⟩
    · rw [if_neg h2, if_neg h2]
      by_cases h3 : markB xs[k + j] = true
      · rw [if_pos h3, if_pos h3, Nat.add_assoc, sub_shift]; exact ⟨rfl, fun _ => rfl⟩
      · rw [if_neg h3, if_neg h3]; exact ⟨rfl, fun h => by simp at h⟩


theorem takeWhile_nl {p : UInt8 → Bool} (hp : p 10 = false) : ∀ (l b : List UInt8), (l ++ 10 :: b).takeWhile p = l.takeWhile p
  | [], b => by rw [List.nil_append, List.takeWhile_cons_of_neg (by simp [hp])]; rfl
  | c :: cs, b => by
    rw [List.cons_append]
    by_cases hc : p c = true
    · rw [List.takeWhile_cons_of_pos hc, List.takeWhile_cons_of_pos hc, takeWhile_nl hp cs b]
    · rw [List.takeWhile_cons_of_neg hc, List.takeWhile_cons_of_neg hc]
theorem runL_app {p : UInt8 → Bool} (hp : p 10 = false) (a b : List UInt8) {k : Nat} (hk : k ≤ a.length) : runL p (a ++ 10 :: b) k = runL p a k := by
  unfold runL
  rw [List.drop_append_of_le_length hk, takeWhile_nl hp]
theorem sub_app (a c : List UInt8) {l h : Nat} (hh : h ≤ a.length) : sub (a ++ c) l h = sub a l h := by
  unfold sub
  rw [List.take_append_of_le_length hh]
theorem oneL_app (a b : List UInt8) {k : Nat} (hk : k < a.length) (hk2 : k < (a ++ 10 :: b).length) : oneL (a ++ 10 :: b) k hk2 = oneL a k hk := by
  have he : (a ++ 10 :: b)[k] = a[k] := List.getElem_append_left hk
  have h1 := runL_app (p := goeB) (by decide) a b (Nat.le_of_lt hk)
  have h2 := runL_app (p := digB) (by decide) a b (Nat.le_of_lt hk)
  have h3 := (runL_le (p := goeB) (Nat.le_of_lt hk)).2
  have h4 := (runL_le (p := digB) (Nat.le_of_lt hk)).2
  unfold oneL
  rw [he, h1, h2, sub_app a _ h3, sub_app a _ h4, sub_app a _ (show k + 1 ≤ a.length by omega)]
theorem cutL_app (a b : List UInt8) : ∀ (k : Nat), k ≤ a.length → ((cutL a k).2.1 ≠ 0 → cutL (a ++ 10 :: b) k = cutL a k) ∧ ((cutL a k).2.1 = 0 → cutL (a ++ 10 :: b) k = ((cutL a k).1 ++ (cutL (a ++ 10 :: b) (a.length + 1)).1, (cutL (a ++ 10 :: b) (a.length + 1)).2)) := by
  have hlen : (a ++ 10 :: b).length = a.length + 1 + b.length := by simp; omega
  have hend : cutL (a ++ 10 :: b) a.length = cutL (a ++ 10 :: b) (a.length + 1) := by
    have hl : a.length < (a ++ 10 :: b).length := by omega
    have hc : (a ++ 10 :: b)[a.length] = 10 := by simp
    rw [cutL_eq, dif_pos hl, if_neg (by rw [hc]; decide), if_pos (by rw [hc]; decide)]
  intro k
  induction hn : a.length - k using Nat.strongRecOn generalizing k with
  | _ n ih =>
    intro hk
    rcases Nat.lt_or_ge k a.length with hlt | hge
    · have hlt2 : k < (a ++ 10 :: b).length := by omega
      have he : (a ++ 10 :: b)[k] = a[k] := List.getElem_append_left hlt
      have e1 := cutL_eq (a ++ 10 :: b) k
      have e2 := cutL_eq a k
      rw [dif_pos hlt2, he] at e1
      rw [dif_pos hlt] at e2
      by_cases h35 : (a[k]).toNat = 35
      · have h1 := runL_le (p := nnlB) (k := k + 1) (xs := a) (by omega)
        rw [if_pos h35, runL_app (by decide) a b (by omega)] at e1
        rw [if_pos h35] at e2
        rw [e1, e2]
        exact ih (a.length - runL nnlB a (k + 1)) (by omega) _ rfl h1.2
      · rw [if_neg h35] at e1 e2
        by_cases hb : blankB a[k] = true
        · rw [if_pos hb] at e1 e2
          rw [e1, e2]
          exact ih (a.length - (k + 1)) (by omega) _ rfl (by omega)
        · rw [if_neg hb] at e1 e2
          have ho := oneL_app a b hlt hlt2
          by_cases h0 : (oneL a k hlt).1 = 0
          · have h1 := oneL_fin a k hlt h0
            rw [dif_pos (by rw [ho]; exact h0), ho] at e1
            rw [dif_pos h0] at e2
            have := ih (a.length - (oneL a k hlt).2.fin) (by omega) _ rfl h1.2
            rw [e1, e2]
            refine ⟨fun h => ?_, fun h => ?_⟩
            · rw [this.1 h]
            · rw [this.2 h]; rfl
          · rw [dif_neg (by rw [ho]; exact h0), ho] at e1
            rw [dif_neg h0] at e2
            rw [e1, e2]
            exact ⟨fun _ => rfl, fun h => absurd h h0⟩
    · have hka : k = a.length := by omega
      subst hka
      have h0 : cutL a a.length = ([], 0, 0) := by rw [cutL_eq, dif_neg (by omega)]
      rw [h0]
      exact ⟨fun h => absurd rfl h, fun _ => by rw [hend]; rfl⟩
theorem cutL_shift (c b : List UInt8) : ∀ (j : Nat), j ≤ b.length → cutL (c ++ b) (c.length + j) = ((cutL b j).1.map (shiftT c.length), (cutL b j).2.1, if (cutL b j).2.1 = 0 then 0 else c.length + (cutL b j).2.2) := by
  have hd : (c ++ b).drop c.length = b := by simp
  intro j
  induction hn : b.length - j using Nat.strongRecOn generalizing j with
  | _ n ih =>
    intro hj
    rcases Nat.lt_or_ge j b.length with hlt | hge
    · have hlt2 : c.length + j < (c ++ b).length := by simp; omega
      have he : (c ++ b)[c.length + j] = b[j] := by rw [List.getElem_append_right (by omega)]; simp
      have e1 := cutL_eq (c ++ b) (c.length + j)
      have e2 := cutL_eq b j
      rw [dif_pos hlt2, he] at e1
      rw [dif_pos hlt] at e2
      by_cases h35 : (b[j]).toNat = 35
      · have h1 := runL_le (p := nnlB) (k := j + 1) (xs := b) (by omega)
        rw [if_pos h35, Nat.add_assoc, runL_shift, hd] at e1
        rw [if_pos h35] at e2
        rw [e1, e2]
        exact ih (b.length - runL nnlB b (j + 1)) (by omega) _ rfl h1.2
      · rw [if_neg h35] at e1 e2
        by_cases hb : blankB b[j] = true
        · rw [if_pos hb, Nat.add_assoc] at e1
          rw [if_pos hb] at e2
          rw [e1, e2]
          exact ih (b.length - (j + 1)) (by omega) _ rfl (by omega)
        · rw [if_neg hb] at e1 e2
          have hs := oneL_shift (c ++ b) c.length j hlt2 (by rw [hd]; exact hlt)
          have hs' : (oneL (c ++ b) (c.length + j) hlt2).1 = (oneL b j hlt).1 ∧ ((oneL b j hlt).1 = 0 → (oneL (c ++ b) (c.length + j) hlt2).2 = shiftT c.length (oneL b j hlt).2) := by
            simpa only [hd] using hs
          by_cases h0 : (oneL b j hlt).1 = 0
          · have h1 := oneL_fin b j hlt h0
            rw [dif_pos (by rw [hs'.1]; exact h0), hs'.2 h0] at e1
            rw [dif_pos h0] at e2
            have := ih (b.length - (oneL b j hlt).2.fin) (by omega) _ rfl h1.2
            rw [show (shiftT c.length (oneL b j hlt).2).fin = c.length + (oneL b j hlt).2.fin from rfl, this] at e1
            rw [e1, e2]
            rfl
          · rw [dif_neg (by rw [hs'.1]; exact h0), hs'.1] at e1
            rw [dif_neg h0] at e2
            rw [e1, e2]
            simp only [List.map_nil, if_neg h0]
    · have hjb : j = b.length := by omega
      subst hjb
      rw [cutL_eq (c ++ b), cutL_eq b b.length, dif_neg (by simp), dif_neg (by omega)]
      rfl
theorem ca_ok {xs : List UInt8} (hl : xs.length ≤ 65536) (h : (cutL xs 0).2.1 = 0) : cutA xs = cutL xs 0 := by unfold cutA; rw [if_neg (by omega), if_pos h]
theorem ca_bad {xs : List UInt8} (hl : xs.length ≤ 65536) (h : (cutL xs 0).2.1 ≠ 0) : cutA xs = ([], (cutL xs 0).2) := by unfold cutA; rw [if_neg (by omega), if_neg h]
/-- the tokens of two texts, one behind the other -/
theorem cutA_app {a b : List UInt8} (hl : (a ++ 10 :: b).length ≤ 65536) : (((cutA a).2.1 ≠ 0) ∧ (cutA (a ++ 10 :: b)) = cutA a) ∨ ((cutA a).2.1 = 0 ∧ (cutA b).2.1 ≠ 0 ∧ (cutA (a ++ 10 :: b)).2.1 ≠ 0) ∨
    ((cutA a).2.1 = 0 ∧ (cutA b).2.1 = 0 ∧ (cutA (a ++ 10 :: b)).2 = (0, 0) ∧ (cutA (a ++ 10 :: b)).1 = (cutA a).1 ++ (cutA b).1.map (shiftT (a.length + 1))) := by
  have hla : a.length ≤ 65536 := by simp at hl; omega
  have hlb : b.length ≤ 65536 := by simp at hl; omega
  have hq : a ++ 10 :: b = (a ++ [10]) ++ b := by simp
  have hs := cutL_shift (a ++ [10]) b 0 (Nat.zero_le _)
  rw [← hq, Nat.add_zero, List.length_append, List.length_singleton] at hs
  have hc := cutL_app a b 0 (Nat.zero_le _)
  by_cases ha : (cutL a 0).2.1 = 0
  · have h1 := hc.2 ha
    rw [hs] at h1
    rw [ca_ok hla ha]
    by_cases hb : (cutL b 0).2.1 = 0
    · rw [ca_ok hlb hb, ca_ok hl (by rw [h1]; exact hb), h1]
      exact .inr (.inr ⟨ha, hb, by simp only [hb, if_pos], rfl⟩)
    · rw [ca_bad hlb hb, ca_bad hl (by rw [h1]; exact hb), h1]
      exact .inr (.inl ⟨ha, hb, hb⟩)
  · have h1 := hc.1 ha
    rw [ca_bad hla ha, ca_bad hl (by rw [h1]; exact ha), h1]
    exact .inl ⟨ha, rfl⟩
def Pr.sh {α β : Type} (m : Nat) (g : α → β) : Pr α → Pr β
  | .ok a i => .ok (g a) (m + i)
  | .bad e i => .bad e (m + i)
theorem bind_sh {α α' β β' : Type} {m : Nat} {g : α → α'} {h : β → β'} {r : Pr α} {F : α → Nat → Pr β} {F' : α' → Nat → Pr β'} (hF : ∀ a i, r = .ok a i → F' (g a) (m + i) = (F a i).sh m h) : (r.sh m g).bind F' = (r.bind F).sh m h := by
  cases r with
  | ok a i => exact hF a i rfl
  | bad e i => rfl
/-- tokens that differ in places alone, from the m-th on -/
structure Like (m : Nat) (T T2 : List Tk) : Prop where
  len : T.length = m + T2.length
  tok : ∀ i, (tkA T (m + i)).kind = (tkA T2 i).kind ∧ (tkA T (m + i)).text = (tkA T2 i).text ∧ (tkA T (m + i)).n = (tkA T2 i).n
def shE (m : Nat) (x : Ex) : Ex := if x.at_ < 0 then x else { x with at_ := x.at_ + m }
theorem Like.eqT {m : Nat} {T T2 : List Tk} (h : Like m T T2) (i k : Nat) (s : List UInt8) : isT (tkA T (m + i)) k s = isT (tkA T2 i) k s := by
  unfold isT; rw [(h.tok i).1, (h.tok i).2.1]
theorem Like.eqN {m : Nat} {T T2 : List Tk} (h : Like m T T2) (i : Nat) : nmT (tkA T (m + i)) = nmT (tkA T2 i) := by
  unfold nmT; rw [(h.tok i).1, (h.tok i).2.1]
theorem Like.bgn {m : Nat} {T T2 : List Tk} (h : Like m T T2) (i : Nat) : bgnT (tkA T (m + i)) = bgnT (tkA T2 i) := by
  unfold bgnT; rw [(h.tok i).1, (h.tok i).2.1]
theorem Like.want {m : Nat} {T T2 : List Tk} (h : Like m T T2) (i k : Nat) (s : List UInt8) : wantT T (m + i) k s = (wantT T2 i k s).sh m id := by
  unfold wantT; rw [h.eqT]; split <;> rfl
theorem Like.num {m : Nat} {T T2 : List Tk} (h : Like m T T2) (i : Nat) : numT T (m + i) = (numT T2 i).sh m id := by
  unfold numT; rw [(h.tok i).1, (h.tok i).2.2]; split <;> rfl
theorem Like.name {m : Nat} {T T2 : List Tk} (h : Like m T T2) (i : Nat) : nameT T (m + i) = (nameT T2 i).sh m id := by
  unfold nameT; rw [h.eqN, (h.tok i).2.1]; split <;> rfl
theorem shE_0 {m i : Nat} {x : Ex} (h : x.at_ = (i : Int)) : shE m x = { x with at_ := ((m + i : Nat) : Int) } := by
  obtain ⟨k, n, nm, l, t, kd, a⟩ := x
  have h : a = (i : Int) := h
  have h2 : ¬ a < 0 := by omega
  simp only [shE, h2, if_false, Ex.mk.injEq, true_and]; omega
theorem shE_exM {m : Nat} : shE m exM = exM := rfl
theorem shE_atE {m i : Nat} {x : Ex} : atE (m + i) (shE m x) = shE m (atE i x) := by
  obtain ⟨k, n, nm, l, t, kd, a⟩ := x
  by_cases h : a < 0
  · have h2 : ¬ (i : Int) < 0 := by omega
    simp only [shE, atE, h, h2, if_true, if_false, Ex.mk.injEq, true_and]; omega
  · have h2 : ¬ a + (m : Int) < 0 := by omega
    simp only [shE, atE, h, h2, if_true, if_false]
theorem shE_lf {m : Nat} {x : Ex} {a b : Int} : (shE m x).lf a b = shE m (x.lf a b) := by unfold shE Ex.lf; split <;> rfl
theorem shE_vec {m : Nat} {x : Ex} {b : Bool} {n : Int} : (shE m x).vec b n = shE m (x.vec b n) := by
  obtain ⟨kd, n', nm, l, t, kk, a⟩ := x
  by_cases h : a < 0 <;> simp [shE, Ex.vec, h]
theorem shE_opt {m : Nat} {x : Ex} : (shE m x).opt = shE m x.opt := by unfold shE Ex.opt; split <;> rfl
theorem shE_br {m : Nat} {x : Ex} {u : Bool} {n : Int} : (shE m x).br u n = shE m (x.br u n) := by
  obtain ⟨kd, n', nm, l, t, kk, a⟩ := x
  by_cases h : a < 0 <;> simp [shE, Ex.br, h]
theorem shE_nm {m : Nat} {x : Ex} {s : List UInt8} : (shE m x).nm s = shE m (x.nm s) := by unfold shE Ex.nm; split <;> rfl
theorem Like.head {m : Nat} {T T2 : List Tk} (h : Like m T T2) (u full : Bool) (i : Nat) : headT T u full (m + i) { ex0 with at_ := ((m + i : Nat) : Int) } = (headT T2 u full i { ex0 with at_ := (i : Int) }).sh m (shE m) := by
  cases u
  · rw [headT_s, headT_s, h.eqN]
    split
    · rfl
    · rw [h.name]
      refine bind_sh fun a j hh => ?_
      show Pr.ok _ _ = Pr.ok _ _
      rw [shE_0 (i := i) rfl]; rfl
  · rw [headT_u, headT_u, (h.tok i).1]
    split
    · rfl
    · rw [h.num]
      refine bind_sh fun a j hh => ?_
      show Pr.ok _ _ = Pr.ok _ _
      rw [shE_0 (i := i) rfl]; rfl
theorem Like.rows {m : Nat} {T T2 : List Tk} (h : Like m T T2) {u : Bool} {i0 : Nat} {E E2 : Nat → Ex → Pr (List Ex)} (hE : ∀ i x, i0 ≤ i → i ≤ T2.length → E (m + i) (shE m x) = (E2 i x).sh m (List.map (shE m))) (hE2 : ∀ i x N j, E2 i x = .ok N j → i < j ∧ j ≤ T2.length) :
    ∀ (g g2 i k : Nat), i0 ≤ i → i ≤ T2.length → T2.length + 2 ≤ g + i → T2.length + 2 ≤ g2 + i → rowsT E T u g (m + i) k = (rowsT E2 T2 u g2 i k).sh m (fun r => (r.1.map (shE m), r.2))
  | 0, g2, i, k, h0, hi, hg, hg2 => by omega
  | g + 1, 0, i, k, h0, hi, hg, hg2 => by omega
  | g + 1, g2 + 1, i, k, h0, hi, hg, hg2 => by
    rw [rowsT_s, rowsT_s, h.head]
    refine bind_sh fun y i1 h1 => ?_
    obtain ⟨rfl, hi1⟩ := headT_le h1
    rw [h.want]
    refine bind_sh fun _ i2 h2 => ?_
    obtain ⟨rfl, hi2⟩ := wantT_le (by decide) h2
    rw [hE _ _ (by omega) (by omega)]
    refine bind_sh fun N j h3 => ?_
    obtain ⟨b1, b2⟩ := hE2 _ _ _ _ h3
    rw [h.eqT]
    split
    · rename_i hm
      have hm2 := isT_lt (by decide) hm
      rw [show m + j + 1 = m + (j + 1) by omega, Like.rows h hE hE2 g g2 (j + 1) (k + 1) (by omega) (by omega) (by omega) (by omega)]
      refine bind_sh fun r j2 h4 => ?_
      show Pr.ok (_, _) _ = Pr.ok (List.map _ (_ ++ _), _) _
      rw [List.map_append]
    · rw [h.want]
      exact bind_sh fun _ j2 h4 => rfl
theorem Like.expr {m : Nat} {T T2 : List Tk} (h : Like m T T2) : ∀ (f f2 i : Nat) (x : Ex) (deep : Nat), i ≤ T2.length → T2.length + 2 ≤ f + i → T2.length + 2 ≤ f2 + i → exprT T f (m + i) (shE m x) deep = (exprT T2 f2 i x deep).sh m (List.map (shE m))
  | 0, f2, i, x, deep, hi, hf, hf2 => by omega
  | f + 1, 0, i, x, deep, hi, hf, hf2 => by omega
  | f + 1, f2 + 1, i, x, deep, hi, hf, hf2 => by
    rw [exprT_s, exprT_s, h.bgn, (h.tok i).2.1]
    split
    · rfl
    · rename_i hb
      have hil : i < T2.length := tkA_kind (by decide) (bgn_kind (by simpa using hb))
      split
      · rfl
      · split
        · show Pr.ok _ _ = Pr.ok _ _
          rw [shE_atE, shE_lf]; rfl
        · split
          · rw [show m + i + 1 = m + (i + 1) by omega, h.want]
            refine bind_sh fun _ i1 h1 => ?_
            obtain ⟨rfl, hi1⟩ := wantT_le (by decide) h1
            rw [← shE_exM (m := m), Like.expr h f f2 _ _ _ (by omega) (by omega) (by omega)]
            refine bind_sh fun N i2 h2 => ?_
            obtain ⟨b1, b2⟩ := expr_lt h2
            rw [h.want]
            refine bind_sh fun _ i3 h3 => ?_
            rw [h.num]
            refine bind_sh fun n i4 h4 => ?_
            rw [h.want]
            refine bind_sh fun _ i5 h5 => ?_
            show Pr.ok _ _ = Pr.ok _ _
            rw [shE_atE, shE_vec]; rfl
          · split
            · rw [show m + i + 1 = m + (i + 1) by omega, h.want]
              refine bind_sh fun _ i1 h1 => ?_
              obtain ⟨rfl, hi1⟩ := wantT_le (by decide) h1
              rw [← shE_exM (m := m), Like.expr h f f2 _ _ _ (by omega) (by omega) (by omega)]
              refine bind_sh fun N i2 h2 => ?_
              rw [h.want]
              refine bind_sh fun _ i3 h3 => ?_
              show Pr.ok _ _ = Pr.ok _ _
              rw [shE_atE, shE_opt]; rfl
            · have hrow : ∀ (u : Bool), (((wantT T (m + i + 1) 3 [123]).bind fun _ j => rowsT (fun i x => exprT T f i x (deep + 1)) T u f j 0).bind fun r j => (.ok ((atE (m + i) (shE m x)).br u (r.2 : Nat) :: r.1) j : Pr (List Ex))) =
                  (((wantT T2 (i + 1) 3 [123]).bind fun _ j => rowsT (fun i x => exprT T2 f2 i x (deep + 1)) T2 u f2 j 0).bind fun r j => (.ok ((atE i x).br u (r.2 : Nat) :: r.1) j : Pr (List Ex))).sh m (List.map (shE m)) := by
                intro u
                rw [show m + i + 1 = m + (i + 1) by omega, h.want]
                have := bind_sh (m := m) (g := id) (h := fun r : List Ex × Nat => (r.1.map (shE m), r.2)) (r := wantT T2 (i + 1) 3 [123]) (F := fun _ j => rowsT (fun i x => exprT T2 f2 i x (deep + 1)) T2 u f2 j 0) (F' := fun _ j => rowsT (fun i x => exprT T f i x (deep + 1)) T u f j 0) (fun _ i1 h1 => by
                  obtain ⟨rfl, hi1⟩ := wantT_le (by decide) h1
                  exact Like.rows h (i0 := i + 1 + 1) (fun i x h0 hi => Like.expr h f f2 i x _ hi (by omega) (by omega)) (fun i x N j hh => expr_lt hh) f f2 _ _ (Nat.le_refl _) (by omega) (by omega) (by omega))
                rw [this]
                refine bind_sh fun r j h2 => ?_
                show Pr.ok _ _ = Pr.ok _ _
                rw [shE_atE, shE_br]; rfl
              split
              · exact hrow true
              · split
                · exact hrow false
                · show Pr.ok _ _ = Pr.ok _ _
                  rw [shE_atE, shE_nm]; rfl
def shD (m : Nat) (d : Df) : Df := ⟨d.name, d.at_ + m, d.ty.map (shE m)⟩
theorem Like.defs {m : Nat} {T T2 : List Tk} (h : Like m T T2) : ∀ (g g2 i k k2 : Nat), i ≤ T2.length → T2.length + 2 ≤ g + i → T2.length + 2 ≤ g2 + i → k2 ≤ k → k ≤ 256 → (∃ j, defsT T g (m + i) k = .bad 5 j ∧ ∀ D e, defsT T2 g2 i k2 = .ok D e → 256 < k + D.length) ∨ defsT T g (m + i) k = (defsT T2 g2 i k2).sh m (List.map (shD m))
  | 0, g2, i, k, k2, hi, hf, hf2, hk, hkm => by omega
  | g + 1, 0, i, k, k2, hi, hf, hf2, hk, hkm => by omega
  | g + 1, g2 + 1, i, k, k2, hi, hf, hf2, hk, hkm => by
    have hlen := h.len
    rw [defsT_s, defsT_s]
    by_cases hi2 : T2.length ≤ i
    · rw [if_pos (by omega), if_pos hi2]; exact .inr rfl
    · rw [if_neg (by omega), if_neg hi2, h.eqT]
      by_cases hnm : k = 256 ∧ isT (tkA T2 i) 1 [116, 121, 112, 101] = true
      · rw [if_pos hnm]
        refine .inl ⟨_, rfl, fun D e hD => ?_⟩
        split at hD
        · cases hD
        · obtain ⟨_, i1, h1, hD⟩ := bind_ok hD
          obtain ⟨_, i1, h1, hD⟩ := bind_ok hD
          obtain ⟨_, i1, h1, hD⟩ := bind_ok hD
          obtain ⟨_, i1, h1, hD⟩ := bind_ok hD
          obtain ⟨_, i1, h1, hD⟩ := bind_ok hD
          obtain ⟨_, i1, h1, hD⟩ := bind_ok hD
          cases hD
          rw [List.length_cons]; omega
      · rw [if_neg hnm, if_neg (fun hh => hnm ⟨by omega, hh.2⟩), h.want]
        rcases hw : wantT T2 i 1 [116, 121, 112, 101] with ⟨_, i1⟩ | ⟨e, j⟩
        · obtain ⟨rfl, hi1⟩ := wantT_le (by decide) hw
          simp only [Pr.sh, Pr.bind_ok]
          rw [show m + (i + 1) = m + (i + 1) from rfl, h.name]
          rcases hn : nameT T2 (i + 1) with ⟨sn, i2⟩ | ⟨e, j⟩
          · obtain ⟨g2', -, rfl⟩ := nameT_ok hn
            have hi2' : i + 1 < T2.length := by simp only [nmT, Bool.and_eq_true, decide_eq_true_eq] at g2'; exact tkA_kind (by decide) g2'.1
            simp only [Pr.sh, Pr.bind_ok]
            rw [h.want]
            rcases he : wantT T2 (i + 1 + 1) 3 [61] with ⟨_, i3⟩ | ⟨e, j⟩
            · obtain ⟨rfl, hi3⟩ := wantT_le (by decide) he
              simp only [Pr.sh, Pr.bind_ok]
              have hx := h.expr (T.length + 2) (T2.length + 2) (i + 1 + 1 + 1) exM 0 (by omega) (by omega) (by omega)
              rw [shE_exM] at hx
              rw [hx]
              rcases hN : exprT T2 (T2.length + 2) (i + 1 + 1 + 1) exM 0 with ⟨N, j⟩ | ⟨e, j⟩
              · obtain ⟨b1, b2⟩ := expr_lt hN
                simp only [Pr.sh, Pr.bind_ok]
                rw [h.want]
                rcases hs : wantT T2 j 3 [59] with ⟨_, i5⟩ | ⟨e, j⟩
                · obtain ⟨rfl, hi5⟩ := wantT_le (by decide) hs
                  simp only [Pr.sh, Pr.bind_ok]
                  rcases Like.defs h g g2 (j + 1) (k + 1) (k2 + 1) (by omega) (by omega) (by omega) (by omega) (by
                    rcases Nat.lt_or_ge k 256 with h7 | h7
                    · exact h7
                    · exact absurd ⟨by omega, (wantT_ok hw).1⟩ hnm) with ⟨q, hq, hbig⟩ | hq
                  · refine .inl ⟨q, by rw [hq]; rfl, fun D e hD => ?_⟩
                    obtain ⟨D', e', h6, hD⟩ := bind_ok hD
                    cases hD
                    have := hbig _ _ h6
                    rw [List.length_cons]; omega
                  · refine .inr ?_
                    rw [hq]
                    refine bind_sh fun D q hD => ?_
                    show Pr.ok (_ :: _) _ = Pr.ok (_ :: _) _
                    congr 2
                    simp only [shD, id, Df.mk.injEq, true_and, and_true]
                    omega
                · exact .inr rfl
              · exact .inr rfl
            · exact .inr rfl
          · exact .inr rfl
        · exact .inr rfl
theorem bind_pre {α β : Type} {n : Nat} {r r2 : Pr α} {F F2 : α → Nat → Pr β} (hne : ∀ e, r2.bind F2 ≠ .bad e n) (hr : (∀ e, r2 ≠ .bad e n) → r = r2) (hF : ∀ a j, r2 = .ok a j → (∀ e, F2 a j ≠ .bad e n) → F a j = F2 a j) : r.bind F = r2.bind F2 := by
  cases r2 with
  | ok a i => rw [hr (fun e h => by cases h)]; exact hF a i rfl hne
  | bad e i => rw [hr (fun e' h => hne e' (by injection h with h1 h2; rw [h1, h2]; rfl))]; rfl
theorem bind_pre2 {α β γ : Type} {n : Nat} {r r2 : Pr α} {F : α → Nat → Pr γ} {F2 : α → Nat → Pr β} {G : α → Nat → Pr γ} (hne : ∀ e, r2.bind F2 ≠ .bad e n) (hr : (∀ e, r2 ≠ .bad e n) → r = r2) (hF : ∀ a j, r2 = .ok a j → (∀ e, F2 a j ≠ .bad e n) → F a j = G a j) : r.bind F = r2.bind G := by
  cases r2 with
  | ok a i => rw [hr (fun e h => by cases h)]; exact hF a i rfl hne
  | bad e i => rw [hr (fun e' h => hne e' (by injection h with h1 h2; rw [h1, h2]; rfl))]; rfl
structure Pre (T T2 : List Tk) : Prop where
  le : T2.length ≤ T.length
  tok : ∀ i, i < T2.length → tkA T i = tkA T2 i
theorem Pre.want {T T2 : List Tk} (h : Pre T T2) {i k : Nat} {s : List UInt8} (hk : 1 ≤ k) (hi : i ≤ T2.length) (hne : ∀ e, wantT T2 i k s ≠ .bad e T2.length) : wantT T i k s = wantT T2 i k s := by
  rcases Nat.lt_or_ge i T2.length with hl | hl
  · unfold wantT; rw [h.tok i hl]
  · have : i = T2.length := by omega
    subst this
    refine absurd ?_ (hne 60)
    unfold wantT
    rw [if_neg (fun hh => by have := isT_lt hk hh; omega)]
theorem Pre.num {T T2 : List Tk} (h : Pre T T2) {i : Nat} (hi : i ≤ T2.length) (hne : ∀ e, numT T2 i ≠ .bad e T2.length) : numT T i = numT T2 i := by
  rcases Nat.lt_or_ge i T2.length with hl | hl
  · unfold numT; rw [h.tok i hl]
  · have : i = T2.length := by omega
    subst this
    refine absurd ?_ (hne 60)
    unfold numT
    rw [if_neg (fun hh => by have := tkA_kind (by decide) hh; omega)]
theorem nmT_lt {T : List Tk} {i : Nat} (h : nmT (tkA T i) = true) : i < T.length := by
  simp only [nmT, Bool.and_eq_true, decide_eq_true_eq] at h; exact tkA_kind (by decide) h.1
theorem Pre.name {T T2 : List Tk} (h : Pre T T2) {i : Nat} (hi : i ≤ T2.length) (hne : ∀ e, nameT T2 i ≠ .bad e T2.length) : nameT T i = nameT T2 i := by
  rcases Nat.lt_or_ge i T2.length with hl | hl
  · unfold nameT; rw [h.tok i hl]
  · have : i = T2.length := by omega
    subst this
    refine absurd ?_ (hne 60)
    unfold nameT
    rw [if_neg (fun hh => by have := nmT_lt hh; omega)]
theorem Pre.head {T T2 : List Tk} (h : Pre T T2) {u full : Bool} {i : Nat} {x : Ex} (hi : i ≤ T2.length) (hne : ∀ e, headT T2 u full i x ≠ .bad e T2.length) : headT T u full i x = headT T2 u full i x := by
  rcases Nat.lt_or_ge i T2.length with hl | hl
  · cases u
    · rw [headT_s, headT_s]; unfold nameT; rw [h.tok i hl]
    · rw [headT_u, headT_u]; unfold numT; rw [h.tok i hl]
  · have : i = T2.length := by omega
    subst this
    cases u
    · refine absurd ?_ (hne 60)
      rw [headT_s, if_neg (fun hh => by have := nmT_lt hh.2; omega)]
      unfold nameT
      rw [if_neg (fun hh => by have := nmT_lt hh; omega)]
      rfl
    · refine absurd ?_ (hne 60)
      rw [headT_u, if_neg (fun hh => by have := tkA_kind (by decide) hh.2; omega)]
      unfold numT
      rw [if_neg (fun hh => by have := tkA_kind (by decide) hh; omega)]
      rfl
theorem Pre.rows {T T2 : List Tk} (h : Pre T T2) {u : Bool} {i0 : Nat} {E E2 : Nat → Ex → Pr (List Ex)} (hE : ∀ i x, i0 ≤ i → i ≤ T2.length → (∀ e, E2 i x ≠ .bad e T2.length) → E i x = E2 i x) (hE2 : ∀ i x N j, E2 i x = .ok N j → i < j ∧ j ≤ T2.length) :
    ∀ (g g2 i k : Nat), i0 ≤ i → i ≤ T2.length → T.length + 2 ≤ g + i → T2.length + 2 ≤ g2 + i → (∀ e, rowsT E2 T2 u g2 i k ≠ .bad e T2.length) → rowsT E T u g i k = rowsT E2 T2 u g2 i k
  | 0, g2, i, k, h0, hi, hg, hg2, hne => by have := h.le; omega
  | g + 1, 0, i, k, h0, hi, hg, hg2, hne => by omega
  | g + 1, g2 + 1, i, k, h0, hi, hg, hg2, hne => by
    rw [rowsT_s] at hne
    rw [rowsT_s, rowsT_s]
    refine bind_pre hne (fun hn => h.head hi hn) fun y i1 h1 hne => ?_
    obtain ⟨rfl, hi1⟩ := headT_le h1
    refine bind_pre hne (fun hn => h.want (by decide) (by omega) hn) fun _ i2 h2 hne => ?_
    obtain ⟨rfl, hi2⟩ := wantT_le (by decide) h2
    refine bind_pre hne (fun hn => hE _ _ (by omega) (by omega) hn) fun N j h3 hne => ?_
    obtain ⟨b1, b2⟩ := hE2 _ _ _ _ h3
    have hjl : j < T2.length := by
      rcases Nat.lt_or_ge j T2.length with hl | hl
      · exact hl
      · exfalso
        have hj : j = T2.length := by omega
        subst hj
        have hf : ∀ {k s}, 1 ≤ k → ¬ isT (tkA T2 T2.length) k s = true := fun hk hh => by have := isT_lt hk hh; omega
        rw [if_neg (hf (by decide))] at hne
        refine hne 60 ?_
        unfold wantT
        rw [if_neg (hf (by decide))]
        rfl
    rw [h.tok j hjl]
    split
    · rename_i hm
      rw [if_pos hm] at hne
      exact bind_pre hne (fun hn => Pre.rows h hE hE2 g g2 (j + 1) (k + 1) (by omega) (by omega) (by omega) (by omega) hn) fun r j2 h4 hne => rfl
    · rename_i hm
      rw [if_neg hm] at hne
      exact bind_pre hne (fun hn => h.want (by decide) b2 hn) fun _ j2 h4 hne => rfl
theorem Pre.expr {T T2 : List Tk} (h : Pre T T2) : ∀ (f f2 i : Nat) (x : Ex) (deep : Nat), i ≤ T2.length → T.length + 2 ≤ f + i → T2.length + 2 ≤ f2 + i → (∀ e, exprT T2 f2 i x deep ≠ .bad e T2.length) → exprT T f i x deep = exprT T2 f2 i x deep
  | 0, f2, i, x, deep, hi, hf, hf2, hne => by have := h.le; omega
  | f + 1, 0, i, x, deep, hi, hf, hf2, hne => by omega
  | f + 1, f2 + 1, i, x, deep, hi, hf, hf2, hne => by
    rw [exprT_s] at hne
    rw [exprT_s, exprT_s]
    have hil : i < T2.length := by
      rcases Nat.lt_or_ge i T2.length with hl | hl
      · exact hl
      · exfalso
        have hj : i = T2.length := by omega
        subst hj
        refine hne 60 ?_
        rw [if_pos]
        cases hb : bgnT (tkA T2 T2.length) with
        | false => rfl
        | true => have := tkA_kind (T := T2) (by decide) (bgn_kind hb); omega
    rw [h.tok i hil]
    split
    · rfl
    · rename_i hb
      rw [if_neg hb] at hne
      split
      · rfl
      · rename_i hd
        rw [if_neg hd] at hne
        split
        · rfl
        · rename_i hl
          rw [hl] at hne
          simp only at hne
          split
          · rename_i hv
            rw [if_pos hv] at hne
            refine bind_pre hne (fun hn => h.want (by decide) (by omega) hn) fun _ i1 h1 hne => ?_
            obtain ⟨rfl, hi1⟩ := wantT_le (by decide) h1
            refine bind_pre hne (fun hn => Pre.expr h f f2 _ _ _ (by omega) (by omega) (by omega) hn) fun N i2 h2 hne => ?_
            obtain ⟨b1, b2⟩ := expr_lt h2
            refine bind_pre hne (fun hn => h.want (by decide) (by omega) hn) fun _ i3 h3 hne => ?_
            obtain ⟨rfl, hi3⟩ := wantT_le (by decide) h3
            refine bind_pre hne (fun hn => h.num (by omega) hn) fun n i4 h4 hne => ?_
            obtain ⟨g4, -, rfl⟩ := numT_ok h4
            have hi4 := tkA_kind (by decide) g4
            exact bind_pre hne (fun hn => h.want (by decide) (by omega) hn) fun _ i5 h5 hne => rfl
          · rename_i hv
            rw [if_neg hv] at hne
            split
            · rename_i ho
              rw [if_pos ho] at hne
              refine bind_pre hne (fun hn => h.want (by decide) (by omega) hn) fun _ i1 h1 hne => ?_
              obtain ⟨rfl, hi1⟩ := wantT_le (by decide) h1
              refine bind_pre hne (fun hn => Pre.expr h f f2 _ _ _ (by omega) (by omega) (by omega) hn) fun N i2 h2 hne => ?_
              obtain ⟨b1, b2⟩ := expr_lt h2
              exact bind_pre hne (fun hn => h.want (by decide) (by omega) hn) fun _ i3 h3 hne => rfl
            · rename_i ho
              rw [if_neg ho] at hne
              have hrow : ∀ (u : Bool), (∀ e, (((wantT T2 (i + 1) 3 [123]).bind fun _ j => rowsT (fun i x => exprT T2 f2 i x (deep + 1)) T2 u f2 j 0).bind fun r j => (.ok ((atE i x).br u (r.2 : Nat) :: r.1) j : Pr (List Ex))) ≠ .bad e T2.length) → (((wantT T (i + 1) 3 [123]).bind fun _ j => rowsT (fun i x => exprT T f i x (deep + 1)) T u f j 0).bind fun r j => (.ok ((atE i x).br u (r.2 : Nat) :: r.1) j : Pr (List Ex))) =
                  (((wantT T2 (i + 1) 3 [123]).bind fun _ j => rowsT (fun i x => exprT T2 f2 i x (deep + 1)) T2 u f2 j 0).bind fun r j => (.ok ((atE i x).br u (r.2 : Nat) :: r.1) j : Pr (List Ex))) := by
                intro u hne
                refine bind_pre hne (fun hn => ?_) fun r j h2 hne => rfl
                refine bind_pre hn (fun hn => h.want (by decide) (by omega) hn) fun _ i1 h1 hne => ?_
                obtain ⟨rfl, hi1⟩ := wantT_le (by decide) h1
                exact Pre.rows h (i0 := i + 1 + 1) (fun i x h0 hi hn => Pre.expr h f f2 i x _ hi (by omega) (by omega) hn) (fun i x N j hh => expr_lt hh) f f2 _ _ (Nat.le_refl _) (by omega) (by omega) (by omega) hne
              split
              · rename_i hu
                rw [if_pos hu] at hne
                exact hrow true hne
              · rename_i hu
                rw [if_neg hu] at hne
                split
                · rename_i hs
                  rw [if_pos hs] at hne
                  exact hrow false hne
                · rfl
theorem bind_congr' {α β : Type} {r : Pr α} {F F2 : α → Nat → Pr β} (hF : ∀ a j, r = .ok a j → F a j = F2 a j) : r.bind F = r.bind F2 := by
  cases r with
  | ok a i => exact hF a i rfl
  | bad e i => rfl
theorem defs_fuel {T : List Tk} : ∀ (g g2 i k : Nat), i ≤ T.length → T.length + 2 ≤ g + i → T.length + 2 ≤ g2 + i → defsT T g i k = defsT T g2 i k
  | 0, g2, i, k, hi, hg, hg2 => by omega
  | g + 1, 0, i, k, hi, hg, hg2 => by omega
  | g + 1, g2 + 1, i, k, hi, hg, hg2 => by
    rw [defsT_s, defsT_s]
    split
    · rfl
    · split
      · rfl
      · refine bind_congr' fun _ i1 h1 => ?_
        obtain ⟨rfl, hi1⟩ := wantT_le (by decide) h1
        refine bind_congr' fun s i2 h2 => ?_
        obtain ⟨g2', -, rfl⟩ := nameT_ok h2
        have := nmT_lt g2'
        refine bind_congr' fun _ i3 h3 => ?_
        obtain ⟨rfl, hi3⟩ := wantT_le (by decide) h3
        refine bind_congr' fun N j h4 => ?_
        obtain ⟨b1, b2⟩ := expr_lt h4
        refine bind_congr' fun _ i5 h5 => ?_
        obtain ⟨rfl, hi5⟩ := wantT_le (by decide) h5
        rw [defs_fuel g g2 (j + 1) (k + 1) (by omega) (by omega) (by omega)]
theorem Pr.bind_assoc {α β γ : Type} {r : Pr α} {F : α → Nat → Pr β} {G : β → Nat → Pr γ} : (r.bind F).bind G = r.bind fun a j => (F a j).bind G := by cases r <;> rfl
theorem Pre.defs {T T2 : List Tk} (h : Pre T T2) : ∀ (g g2 i k : Nat), i ≤ T2.length → T.length + 2 ≤ g + i → T2.length + 2 ≤ g2 + i → (∀ e, defsT T2 g2 i k ≠ .bad e T2.length) →
    defsT T g i k = (defsT T2 g2 i k).bind fun D _ => (defsT T (T.length + 2) T2.length (k + D.length)).bind fun D' j => .ok (D ++ D') j
  | 0, g2, i, k, hi, hg, hg2, hne => by have := h.le; omega
  | g + 1, 0, i, k, hi, hg, hg2, hne => by omega
  | g + 1, g2 + 1, i, k, hi, hg, hg2, hne => by
    rw [defsT_s (T := T2)] at hne
    rw [defsT_s (T := T2)]
    by_cases hi2 : T2.length ≤ i
    · have hie : i = T2.length := by omega
      rw [if_pos hi2, hie, defs_fuel (g + 1) (T.length + 2) T2.length k h.le (by omega) (by omega), Pr.bind_ok]
      show _ = (defsT T (T.length + 2) T2.length (k + 0)).bind fun D' j => .ok ([] ++ D') j
      rw [Nat.add_zero]
      cases defsT T (T.length + 2) T2.length k <;> rfl
    · have hlt : i < T2.length := by omega
      have hle := h.le
      rw [if_neg hi2] at hne ⊢
      rw [defsT_s, if_neg (by omega), h.tok i hlt]
      by_cases hnm : k = 256 ∧ isT (tkA T2 i) 1 [116, 121, 112, 101] = true
      · rw [if_pos hnm, if_pos hnm]; rfl
      · rw [if_neg hnm] at hne ⊢
        rw [if_neg hnm]
        simp only [Pr.bind_assoc]
        refine bind_pre2 hne (fun hn => h.want (by decide) (by omega) hn) fun _ i1 h1 hne => ?_
        obtain ⟨rfl, hi1⟩ := wantT_le (by decide) h1
        refine bind_pre2 hne (fun hn => h.name (by omega) hn) fun s i2 h2 hne => ?_
        obtain ⟨g2', -, rfl⟩ := nameT_ok h2
        have := nmT_lt g2'
        refine bind_pre2 hne (fun hn => h.want (by decide) (by omega) hn) fun _ i3 h3 hne => ?_
        obtain ⟨rfl, hi3⟩ := wantT_le (by decide) h3
        refine bind_pre2 hne (fun hn => h.expr _ _ _ _ _ (by omega) (by omega) (by omega) hn) fun N j h4 hne => ?_
        obtain ⟨b1, b2⟩ := expr_lt h4
        refine bind_pre2 hne (fun hn => h.want (by decide) (by omega) hn) fun _ i5 h5 hne => ?_
        obtain ⟨rfl, hi5⟩ := wantT_le (by decide) h5
        rw [Pre.defs h g g2 (j + 1) (k + 1) (by omega) (by omega) (by omega) (fun e he => hne e (by rw [he]; rfl))]
        rw [Pr.bind_assoc]
        refine bind_congr' fun D q hD => ?_
        simp only [Pr.bind_assoc, Pr.bind_ok, List.length_cons]
        rw [show k + 1 + D.length = k + (D.length + 1) by omega]
        refine bind_congr' fun D' q hD' => rfl

end Go.Proofs.Ytcljkkfpcomdcaa

set_option linter.unusedSimpArgs false
set_option linter.unusedVariables false
set_option maxRecDepth 100000
namespace Go.Proofs.Ytcljkkfpcomdcaa
open Go Go.Vc Go.RowKit Go.Proofs

def bareE (x : Ex) : Ex := { x with at_ := 0 }
def bareD (d : Df) : Df := ⟨d.name, 0, d.ty.map bareE⟩
theorem parseA_cut {xs : List UInt8} (h : (cutA xs).2.1 ≠ 0) : parseA xs = ([], (cutA xs).2) := by unfold parseA; rw [if_neg h]
theorem parseA_ok {xs : List UInt8} (h : (cutA xs).2.1 = 0) {D : List Df} {j : Nat} (hd : defsT (cutA xs).1 ((cutA xs).1.length + 2) 0 0 = .ok D j) : parseA xs = (D.map (plD (cutA xs).1), 0, 0) := by
  unfold parseA; rw [if_pos h, hd]
theorem parseA_er {xs : List UInt8} (h : (cutA xs).2.1 = 0) {e j : Nat} (hd : defsT (cutA xs).1 ((cutA xs).1.length + 2) 0 0 = .bad e j) : parseA xs = ([], e, plc (cutA xs).1 xs.length j) := by
  unfold parseA; rw [if_pos h, hd]
end Go.Proofs.Ytcljkkfpcomdcaa

set_option linter.unusedSimpArgs false
set_option linter.unusedVariables false
set_option maxRecDepth 100000
namespace Go.Proofs.Ytcljkkfpcomdcaa
open Go Go.Vc Go.RowKit Go.Proofs

/-- the first k without places -/
def BareTo (D E : List Df) (k : Nat) : Prop := E.length = D.length ∧ (∀ i, i < k → E.getD i df0 = bareD (D.getD i df0)) ∧ ∀ i, k ≤ i → E.getD i df0 = D.getD i df0
def BareIn (D E : List Df) (k j : Nat) : Prop := E.length = D.length ∧ (∀ i, i < k → E.getD i df0 = bareD (D.getD i df0)) ∧ (∀ i, k < i → E.getD i df0 = D.getD i df0) ∧ E.getD k df0 = ⟨(D.getD k df0).name, 0, ((tyD D k).take j).map bareE ++ (tyD D k).drop j⟩
theorem BareIn.ty {D E : List Df} {k j : Nat} (h : BareIn D E k j) : tyD E k = ((tyD D k).take j).map bareE ++ (tyD D k).drop j := by
  rw [tyD, h.2.2.2]
theorem BareIn.len {D E : List Df} {k j : Nat} (h : BareIn D E k j) (hj : j ≤ (tyD D k).length) : (tyD E k).length = (tyD D k).length := by
  rw [h.ty, List.length_append, List.length_map, List.length_take, List.length_drop]; omega
theorem BareIn.step {D E : List Df} {k j : Nat} (h : BareIn D E k j) (hk : k < D.length) (hj : j < (tyD D k).length) (x : Ex) (hx : (tyD E k)[j]? = some x) : BareIn D (setE E k j { x with at_ := 0 }) k (j + 1) := by
  obtain ⟨h1, h2, h3, h4⟩ := h
  have hE : tyD E k = ((tyD D k).take j).map bareE ++ (tyD D k).drop j := by rw [tyD, h4]
  have hx2 : x = (tyD D k)[j] := by
    rw [hE, List.getElem?_append_right (by simp; omega)] at hx
    simp only [List.length_map, List.length_take, Nat.min_eq_left (Nat.le_of_lt hj), Nat.sub_self, List.getElem?_drop, Nat.add_zero, List.getElem?_eq_getElem hj, Option.some.injEq] at hx
    exact hx.symm
  refine ⟨by rw [setE_len, h1], fun i hi => ?_, fun i hi => ?_, ?_⟩
  · rw [setE_at, if_neg (by omega)]; exact h2 i hi
  · rw [setE_at, if_neg (by omega)]; exact h3 i hi
  · rw [setE_at, if_pos ⟨rfl, by omega⟩, hE, h4]
    simp only [Df.mk.injEq, true_and]
    rw [List.set_append_right _ _ (by simp; omega)]
    simp only [List.length_map, List.length_take, Nat.min_eq_left (Nat.le_of_lt hj), Nat.sub_self]
    rw [← List.getElem_cons_drop hj, List.set_cons_zero, List.take_add_one, List.getElem?_eq_getElem hj, List.map_append, List.append_assoc, hx2]
    rfl
theorem BareIn.done {D E : List Df} {k : Nat} (h : BareIn D E k (tyD D k).length) : BareTo D E (k + 1) := by
  obtain ⟨h1, h2, h3, h4⟩ := h
  refine ⟨h1, fun i hi => ?_, fun i hi => h3 i (by omega)⟩
  rcases Nat.lt_or_ge i k with hl | hl
  · exact h2 i hl
  · obtain rfl : i = k := by omega
    rw [h4, List.take_length, List.drop_length, List.append_nil]; rfl
theorem DOk.tyD {D : List Df} (h : DOk D) {k : Nat} (hk : k < D.length) : (tyD D k).length * 72 ≤ 140737488351232 := by
  rw [tyD_at hk]; exact h.ty _ (List.getElem_mem hk)
end Go.Proofs.Ytcljkkfpcomdcaa

set_option linter.unusedSimpArgs false
set_option linter.unusedVariables false
set_option maxRecDepth 100000
namespace Go.Proofs.Ytcljkkfpcomdcaa
open Go Go.Vc Go.RowKit Go.Proofs

structure TokW (t : Tk) : Prop where
  kind : t.kind = 1 ∨ t.kind = 2 ∨ t.kind = 3
  k1 : t.kind = 1 → t.text.head?.any letB = true ∧ t.text.length ≤ 32 ∧ t.text.all goeB = true
  k3 : t.kind = 3 → ∃ c, t.text = [c] ∧ markB c = true
theorem oneL_w {xs : List UInt8} {k : Nat} {h : k < xs.length} (he : (oneL xs k h).1 = 0) : TokW (oneL xs k h).2 := by
  unfold oneL at he ⊢
  by_cases h1 : letB xs[k] = true
  · have hg : goeB xs[k] = true := by simp [goeB, h1]
    have hr := runL_le (p := goeB) (Nat.le_of_lt h)
    have hr2 := runL_go (p := goeB) h hg
    have hr3 := (runL_le (p := goeB) (k := k + 1) (xs := xs) (by omega)).1
    by_cases h2 : 32 < runL goeB xs k - k
    · rw [if_pos h1, if_pos h2] at he; cases he
    · rw [if_pos h1, if_neg h2]
      refine ⟨.inl rfl, fun _ => ⟨?_, ?_, ?_⟩, fun h => (by cases h)⟩
      · show (sub xs k (runL goeB xs k)).head?.any letB = true
        have : (sub xs k (runL goeB xs k))[0]? = some xs[k] := by unfold sub; rw [List.getElem?_drop, List.getElem?_take]; simp [h]; omega
        rw [List.head?_eq_getElem?, this]
        exact h1
      · show (sub xs k (runL goeB xs k)).length ≤ 32
        rw [sub_length hr.2]; omega
      · show (sub xs k (runL goeB xs k)).all goeB = true
        rw [sub_run]
        exact List.all_eq_true.2 (fun c hc => takeWhile_all _ _ c hc)
  · by_cases h2 : digB xs[k] = true
    · rw [if_neg h1, if_pos h2]
      exact ⟨.inr (.inl rfl), fun h => (by cases h), fun h => (by cases h)⟩
    · by_cases h3 : markB xs[k] = true
      · rw [if_neg h1, if_neg h2, if_pos h3]
        refine ⟨.inr (.inr rfl), fun h => (by cases h), fun _ => ⟨xs[k], ?_, h3⟩⟩
        show sub xs k (k + 1) = _
        unfold sub
        rw [← List.getElem_cons_drop (show k < (xs.take (k + 1)).length by simp; omega)]
        simp
      · rw [if_neg h1, if_neg h2, if_neg h3] at he; cases he
theorem cut_w {xs : List UInt8} {i : Nat} (h : i < (cutA xs).1.length) : TokW (tkA (cutA xs).1 i) := by
  rw [tkA_lt h]
  have h2 : ∀ t ∈ (cutA xs).1, TokW t := by
    unfold cutA
    split
    · intro t ht; cases ht
    · split
      · intro t ht
        obtain ⟨h1, h2⟩ := (cutL_asc xs 0).2 t ht
        have := oneL_w (xs := xs) (k := t.at_) (h := h1) (by rw [h2])
        rw [h2] at this; exact this
      · intro t ht; cases ht
  exact h2 _ (List.getElem_mem h)
inductive Sy where
  | schema | name | number | type | field | arm | fields | arms | shut
  | tk (k : Nat) (s : List UInt8)
def syS : Sy → List UInt8
  | .schema => [40, 115, 99, 104, 101, 109, 97, 41]
  | .name => [40, 110, 97, 109, 101, 41]
  | .number => [40, 110, 117, 109, 98, 101, 114, 41]
  | .type => [40, 116, 121, 112, 101, 41]
  | .field => [40, 102, 105, 101, 108, 100, 41]
  | .arm => [40, 97, 114, 109, 41]
  | .fields => [40, 102, 105, 101, 108, 100, 115, 41]
  | .arms => [40, 97, 114, 109, 115, 41]
  | .shut => [40, 115, 104, 117, 116, 41]
  | .tk _ s => s
structure Rd where
  at_ : Nat
  stk : List Sy
  opn : List Nat
  defs : Nat
inductive Ou where
  | er (e : Nat)
  | go (s : Rd)
def insS (t : Tk) : List Sy :=
  if t.text = [118, 101, 99, 116, 111, 114] ∨ t.text = [108, 105, 115, 116] then [.tk 3 [60], .type, .tk 3 [44], .number, .tk 3 [62], .shut]
  else if t.text = [111, 112, 116, 105, 111, 110] then [.tk 3 [60], .type, .tk 3 [62], .shut]
  else if t.text = [117, 110, 105, 111, 110] then [.tk 3 [123], .arm, .arms, .shut]
  else if t.text = [115, 116, 114, 117, 99, 116] then [.tk 3 [123], .field, .fields, .shut]
  else []
def isR (t : Tk) (s : List UInt8) : Bool := !decide (t.kind = 2) && decide (t.text = s)
def bgnR (t : Tk) : Bool := decide (t.kind = 1) && !decide (t.text = [116, 121, 112, 101])
def moreO (o : List Nat) : List Nat := (o.headD 0 + 1) :: o.tail
def stepF (T : List Tk) (i : Nat) (y : Sy) (S : List Sy) (o : List Nat) (d : Nat) : Ou :=
  match y with
  | .shut => .go ⟨i, S, o.tail, d⟩
  | .schema => if i = T.length then .go ⟨i, S, o, d⟩ else if isR (tkA T i) [116, 121, 112, 101] = false then .er 60 else if 256 < d + 1 then .er 5 else .go ⟨i, .tk 1 [116, 121, 112, 101] :: .name :: .tk 3 [61] :: .type :: .tk 3 [59] :: .schema :: S, o, d + 1⟩
  | .type => if i = T.length then .er 60 else if bgnR (tkA T i) = false then .er 60 else if 16 < o.length then .er 61 else .go ⟨i + 1, insS (tkA T i) ++ S, if insS (tkA T i) = [] then o else 0 :: o, d⟩
  | .field => if i = T.length then .er 60 else if nmT (tkA T i) = false then .er 60 else if 64 < o.headD 0 + 1 then .er 5 else .go ⟨i, .name :: .tk 3 [58] :: .type :: S, moreO o, d⟩
  | .arm => if i = T.length then .er 60 else if (tkA T i).kind ≠ 2 then .er 60 else if 64 < o.headD 0 + 1 then .er 5 else .go ⟨i, .number :: .tk 3 [58] :: .type :: S, moreO o, d⟩
  | .fields => if i = T.length then .er 60 else if isR (tkA T i) [44] = true then .go ⟨i, .tk 3 [44] :: .field :: .fields :: S, o, d⟩ else .go ⟨i, .tk 3 [125] :: S, o, d⟩
  | .arms => if i = T.length then .er 60 else if isR (tkA T i) [44] = true then .go ⟨i, .tk 3 [44] :: .arm :: .arms :: S, o, d⟩ else .go ⟨i, .tk 3 [125] :: S, o, d⟩
  | .name => if i = T.length then .er 60 else if nmT (tkA T i) = false then .er 60 else .go ⟨i + 1, S, o, d⟩
  | .number => if i = T.length then .er 60 else if (tkA T i).kind ≠ 2 then .er 60 else .go ⟨i + 1, S, o, d⟩
  | .tk _ s => if i = T.length then .er 60 else if isR (tkA T i) s = false then .er 60 else .go ⟨i + 1, S, o, d⟩
def OkY : Sy → List Nat → Prop
  | .field, o => ∃ k o', o = k :: o' ∧ k ≤ 64
  | .arm, o => ∃ k o', o = k :: o' ∧ k ≤ 64
  | .shut, o => ∃ k o', o = k :: o'
  | .tk _ s, _ => s.head? ≠ some 40
  | _, _ => True
inductive Run (T : List Tk) : Rd → Nat → Nat → Nat → Prop
  | fin {i d : Nat} {o : List Nat} : Run T ⟨i, [], o, d⟩ 0 0 i
  | er {i d e : Nat} {y : Sy} {S : List Sy} {o : List Nat} (h : stepF T i y S o d = .er e) (hk : OkY y o) : Run T ⟨i, y :: S, o, d⟩ 1 e i
  | go {i d e k j : Nat} {y : Sy} {S : List Sy} {o : List Nat} {s : Rd} (h : stepF T i y S o d = .go s) (hr : Run T s k e j) (hk : OkY y o) : Run T ⟨i, y :: S, o, d⟩ (k + 1) e j
def Runs (T : List Tk) (s : Rd) (e j : Nat) : Prop := ∃ k, Run T s k e j
theorem Runs.step {T : List Tk} {i d e j : Nat} {y : Sy} {S : List Sy} {o : List Nat} {s : Rd} (h : stepF T i y S o d = .go s) (hr : Runs T s e j) (hy : OkY y o) : Runs T ⟨i, y :: S, o, d⟩ e j := by
  obtain ⟨k, hk⟩ := hr
  exact ⟨k + 1, .go h hk hy⟩
/-- what a parse says, the machine says -/
def Sim {α : Type} (T : List Tk) (r : Pr α) (s : Rd) (c : Nat → Rd) : Prop := match r with
  | .ok _ j => ∀ e q, Runs T (c j) e q → Runs T s e q
  | .bad e j => Runs T s e j
theorem Sim.bind {α β : Type} {T : List Tk} {r : Pr α} {F : α → Nat → Pr β} {s : Rd} {c c2 : Nat → Rd} (h : Sim T r s c) (hF : ∀ a j, r = .ok a j → Sim T (F a j) (c j) c2) : Sim T (r.bind F) s c2 := by
  cases r with
  | ok a j =>
    have h2 := hF a j rfl
    show Sim T (F a j) s c2
    cases hq : F a j with
    | ok b q => rw [hq] at h2; exact fun e p hp => h e p (h2 e p hp)
    | bad e q => rw [hq] at h2; exact h e q h2
  | bad e j => exact h
theorem Sim.go {α : Type} {T : List Tk} {r : Pr α} {i d : Nat} {y : Sy} {S : List Sy} {o : List Nat} {s : Rd} {c : Nat → Rd} (hs : stepF T i y S o d = .go s) (h : Sim T r s c) (hy : OkY y o := by trivial) : Sim T r ⟨i, y :: S, o, d⟩ c := by
  cases r with
  | ok b q => exact fun e p hp => Runs.step hs (h e p hp) hy
  | bad e q => exact Runs.step hs h hy
theorem Sim.er {α : Type} {T : List Tk} {i d e : Nat} {y : Sy} {S : List Sy} {o : List Nat} {c : Nat → Rd} (hs : stepF T i y S o d = .er e) (hy : OkY y o := by trivial) : Sim T (.bad e i : Pr α) ⟨i, y :: S, o, d⟩ c := ⟨1, .er hs hy⟩
theorem Sim.ok {α : Type} {T : List Tk} {a : α} {j : Nat} {s : Rd} {c : Nat → Rd} (h : c j = s) : Sim T (.ok a j) s c := fun e q hq => h ▸ hq
theorem isR_mark {t : Tk} (h : TokW t) {c : UInt8} (hc : letB c = false) : isR t [c] = isT t 3 [c] := by
  unfold isR isT
  rcases h.kind with k | k | k
  · have h1 := (h.k1 k).1
    have : ¬ t.text = [c] := fun he => by rw [he] at h1; simp [hc] at h1
    simp [k, this]
  · simp [k]
  · simp [k]
theorem isR_type {t : Tk} (h : TokW t) : isR t [116, 121, 112, 101] = isT t 1 [116, 121, 112, 101] := by
  unfold isR isT
  rcases h.kind with k | k | k
  · simp [k]
  · simp [k]
  · obtain ⟨c, hc, -⟩ := h.k3 k
    simp [k, hc]
theorem bgn_same {t : Tk} (h : TokW t) : bgnR t = bgnT t := by
  unfold bgnR
  by_cases k : t.kind = 1
  · obtain ⟨h1, h2, h3⟩ := h.k1 k
    have hne : t.text ≠ [] := fun he => by rw [he] at h1; cases h1
    have hn : nameB t.text = !wordB t.text := by simp [nameB, hne, h1, h2, h3]
    unfold bgnT
    rw [k, hn]
    by_cases hw : t.text ∈ words
    · have hwb : wordB t.text = true := decide_eq_true hw
      rw [hwb]
      simp only [words, List.mem_cons, List.not_mem_nil, or_false] at hw
      rcases hw with e | e | e | e | e | e | e | e | e | e | e | e <;> (rw [e]; rfl)
    · have hwb : wordB t.text = false := decide_eq_false hw
      have ht : ¬ t.text = [116, 121, 112, 101] := fun he => hw (by rw [he]; decide)
      rw [hwb]
      simp [ht]
  · have : bgnT t = false := by unfold bgnT; simp [k]
    rw [this]; simp [k]
theorem isT_end {T : List Tk} {k : Nat} {s : List UInt8} (hk : 1 ≤ k) : isT (tkA T T.length) k s = false := by
  cases h : isT (tkA T T.length) k s with
  | false => rfl
  | true => have := isT_lt hk h; omega
theorem nmT_end {T : List Tk} : nmT (tkA T T.length) = false := by
  cases h : nmT (tkA T T.length) with
  | false => rfl
  | true => have := nmT_lt h; omega
theorem kind_end {T : List Tk} : ¬ (tkA T T.length).kind = 2 := fun h => by have := tkA_kind (by decide) h; omega
def TW (T : List Tk) : Prop := ∀ i, i < T.length → TokW (tkA T i)
theorem sim_tk {T : List Tk} (hT : TW T) {i d k : Nat} {s : List UInt8} {S : List Sy} {o : List Nat} (hi : i ≤ T.length) (hk : 1 ≤ k) (hs : ∀ t, TokW t → isR t s = isT t k s) (h40 : s.head? ≠ some 40 := by decide) : Sim T (wantT T i k s) ⟨i, .tk k s :: S, o, d⟩ (fun j => ⟨j, S, o, d⟩) := by
  unfold wantT
  by_cases h : i = T.length
  · subst h
    rw [isT_end hk, if_neg (by decide)]
    exact .er (by simp [stepF]) h40
  · have hw := hs _ (hT i (by omega))
    by_cases h2 : isT (tkA T i) k s = true
    · rw [if_pos h2]
      exact .go (s := ⟨i + 1, S, o, d⟩) (by simp [stepF, h, hw, h2]) (.ok rfl) h40
    · rw [if_neg h2]
      exact .er (by simp [stepF, h, hw, h2]) h40
theorem sim_name {T : List Tk} {i d : Nat} {S : List Sy} {o : List Nat} (hi : i ≤ T.length) : Sim T (nameT T i) ⟨i, .name :: S, o, d⟩ (fun j => ⟨j, S, o, d⟩) := by
  unfold nameT
  by_cases h : i = T.length
  · subst h
    rw [nmT_end, if_neg (by decide)]
    exact .er (by simp [stepF])
  · by_cases h2 : nmT (tkA T i) = true
    · rw [if_pos h2]
      exact .go (s := ⟨i + 1, S, o, d⟩) (by simp [stepF, h, h2]) (.ok rfl)
    · rw [if_neg h2]
      exact .er (by simp [stepF, h, h2])
theorem sim_num {T : List Tk} {i d : Nat} {S : List Sy} {o : List Nat} (hi : i ≤ T.length) : Sim T (numT T i) ⟨i, .number :: S, o, d⟩ (fun j => ⟨j, S, o, d⟩) := by
  unfold numT
  by_cases h : i = T.length
  · subst h
    rw [if_neg kind_end]
    exact .er (by simp [stepF])
  · by_cases h2 : (tkA T i).kind = 2
    · rw [if_pos h2]
      exact .go (s := ⟨i + 1, S, o, d⟩) (by simp [stepF, h, h2]) (.ok rfl)
    · rw [if_neg h2]
      exact .er (by simp [stepF, h, h2])
def hdS (u : Bool) : Sy := if u then .arm else .field
def tlS (u : Bool) : Sy := if u then .arms else .fields
theorem sim_head {T : List Tk} {i d k : Nat} {u : Bool} {S : List Sy} {o : List Nat} {x : Ex} (hi : i ≤ T.length) (hk : k ≤ 64) : Sim T (headT T u (decide (k = 64)) i x) ⟨i, hdS u :: S, k :: o, d⟩ (fun j => ⟨j, .tk 3 [58] :: .type :: S, (k + 1) :: o, d⟩) := by
  cases u
  · rw [headT_s]
    by_cases h : i = T.length
    · subst h
      unfold nameT
      rw [nmT_end, if_neg (by simp), if_neg (by decide)]
      exact .er (by simp [stepF, hdS]) ⟨k, o, rfl, hk⟩
    · by_cases h2 : nmT (tkA T i) = true
      · by_cases h3 : k = 64
        · rw [if_pos ⟨decide_eq_true h3, h2⟩]
          exact .er (by simp [stepF, hdS, h, h2, h3]) ⟨k, o, rfl, hk⟩
        · rw [if_neg (by simp [h3])]
          refine .go (s := ⟨i, .name :: .tk 3 [58] :: .type :: S, (k + 1) :: o, d⟩) (by simp [stepF, hdS, h, h2, moreO]; omega) ?_ ⟨k, o, rfl, hk⟩
          exact (sim_name hi).bind fun a j _ => .ok rfl
      · rw [if_neg (fun hh => h2 hh.2)]
        unfold nameT
        rw [if_neg h2]
        exact .er (by simp [stepF, hdS, h, h2]) ⟨k, o, rfl, hk⟩
  · rw [headT_u]
    by_cases h : i = T.length
    · subst h
      unfold numT
      rw [if_neg (fun hh => kind_end hh.2), if_neg kind_end]
      exact .er (by simp [stepF, hdS]) ⟨k, o, rfl, hk⟩
    · by_cases h2 : (tkA T i).kind = 2
      · by_cases h3 : k = 64
        · rw [if_pos ⟨decide_eq_true h3, h2⟩]
          exact .er (by simp [stepF, hdS, h, h2, h3]) ⟨k, o, rfl, hk⟩
        · rw [if_neg (by simp [h3])]
          refine .go (s := ⟨i, .number :: .tk 3 [58] :: .type :: S, (k + 1) :: o, d⟩) (by simp [stepF, hdS, h, h2, moreO]; omega) ?_ ⟨k, o, rfl, hk⟩
          exact (sim_num hi).bind fun a j _ => .ok rfl
      · rw [if_neg (fun hh => h2 hh.2)]
        unfold numT
        rw [if_neg h2]
        exact .er (by simp [stepF, hdS, h, h2]) ⟨k, o, rfl, hk⟩
theorem sim_rows {T : List Tk} (hT : TW T) {E : Nat → Ex → Pr (List Ex)} {u : Bool} {i0 d : Nat} {o : List Nat} (hE : ∀ i x k S, i0 ≤ i → i ≤ T.length → Sim T (E i x) ⟨i, .type :: S, k :: o, d⟩ (fun j => ⟨j, S, k :: o, d⟩)) (hE2 : ∀ i x N j, E i x = .ok N j → i < j ∧ j ≤ T.length) :
    ∀ (g i k : Nat) (S : List Sy), i0 ≤ i → i ≤ T.length → T.length + 2 ≤ g + i → k ≤ 64 → Sim T (rowsT E T u g i k) ⟨i, hdS u :: tlS u :: .shut :: S, k :: o, d⟩ (fun j => ⟨j, S, o, d⟩)
  | 0, i, k, S, h0, hi, hg, hk => by omega
  | g + 1, i, k, S, h0, hi, hg, hk => by
    rw [rowsT_s]
    refine (sim_head hi hk).bind fun y i1 h1 => ?_
    obtain ⟨rfl, hi1⟩ := headT_le h1
    have hk2 : k < 64 := by
      have := (headT_ok h1).2.2.2
      simp at this; omega
    refine (sim_tk hT (by omega) (by decide) (fun t h => isR_mark h (by decide))).bind fun _ i2 h2 => ?_
    obtain ⟨rfl, hi2⟩ := wantT_le (by decide) h2
    refine (hE _ _ _ _ (by omega) (by omega)).bind fun N j h3 => ?_
    obtain ⟨b1, b2⟩ := hE2 _ _ _ _ h3
    have hgo : j ≠ T.length → stepF T j (tlS u) (.shut :: S) ((k + 1) :: o) d = if isT (tkA T j) 3 [44] = true then .go ⟨j, .tk 3 [44] :: hdS u :: tlS u :: .shut :: S, (k + 1) :: o, d⟩ else .go ⟨j, .tk 3 [125] :: .shut :: S, (k + 1) :: o, d⟩ := fun hj => by
      rw [← isR_mark (hT j (by omega)) (by decide)]
      cases u <;> simp [stepF, tlS, hdS, hj]
    by_cases hje : j = T.length
    · subst hje
      rw [isT_end (by decide), if_neg (by decide)]
      unfold wantT
      rw [isT_end (by decide), if_neg (by decide)]
      exact .er (by cases u <;> simp [stepF, tlS]) (by cases u <;> trivial)
    · by_cases hm : isT (tkA T j) 3 [44] = true
      · rw [if_pos hm]
        have hgo := hgo hje
        rw [if_pos hm] at hgo
        have hw : wantT T j 3 [44] = .ok () (j + 1) := by unfold wantT; rw [if_pos hm]
        have hjl := isT_lt (by decide) hm
        have hst : stepF T j (.tk 3 [44]) (hdS u :: tlS u :: .shut :: S) ((k + 1) :: o) d = .go ⟨j + 1, hdS u :: tlS u :: .shut :: S, (k + 1) :: o, d⟩ := by
          have := isR_mark (hT j (by omega)) (c := 44) (by decide)
          rw [hm] at this
          simp [stepF, hje, this]
        refine .go hgo (.go hst ?_ (show ([44] : List UInt8).head? ≠ some 40 by decide)) (by cases u <;> trivial)
        exact (sim_rows hT hE hE2 g (j + 1) (k + 1) S (by omega) (by omega) (by omega) (by omega)).bind fun r j2 _ => .ok rfl
      · rw [if_neg hm]
        have hgo := hgo hje
        rw [if_neg hm] at hgo
        refine .go hgo ((sim_tk hT (by omega) (by decide) (fun t h => isR_mark h (by decide))).bind fun _ j2 h4 => ?_) (by cases u <;> trivial)
        exact .go (s := ⟨j2, S, o, d⟩) rfl (.ok rfl) ⟨_, _, rfl⟩
theorem insS_leaf {t : Tk} {kn : Int × Int} (h : leafE t.text = some kn) : insS t = [] := by
  unfold leafE at h
  unfold insS
  repeat' split at h
  all_goals first | (rename_i he; simp [he]; done) | cases h
theorem sim_expr {T : List Tk} (hT : TW T) : ∀ (f i : Nat) (x : Ex) (deep d : Nat) (S : List Sy) (o : List Nat), i ≤ T.length → T.length + 2 ≤ f + i → o.length = deep → Sim T (exprT T f i x deep) ⟨i, .type :: S, o, d⟩ (fun j => ⟨j, S, o, d⟩)
  | 0, i, x, deep, d, S, o, hi, hf, ho => by omega
  | f + 1, i, x, deep, d, S, o, hi, hf, ho => by
    rw [exprT_s]
    by_cases hie : i = T.length
    · subst hie
      have hb : bgnT (tkA T T.length) = false := by
        cases h : bgnT (tkA T T.length) with
        | false => rfl
        | true => have := tkA_kind (T := T) (by decide) (bgn_kind h); omega
      rw [if_pos hb]
      exact .er (by simp [stepF])
    · have hil : i < T.length := by omega
      have hbs := bgn_same (hT i hil)
      split
      · rename_i hb
        exact .er (by simp [stepF, hie, hbs, hb])
      · rename_i hb
        have hb : bgnT (tkA T i) = true := by simpa using hb
        split
        · rename_i hd
          exact .er (by simp [stepF, hie, hbs, hb]; omega)
        · rename_i hd
          have hgo : stepF T i .type S o d = .go ⟨i + 1, insS (tkA T i) ++ S, if insS (tkA T i) = [] then o else 0 :: o, d⟩ := by
            simp [stepF, hie, hbs, hb]; omega
          refine .go hgo ?_
          split
          · rename_i kn hl
            rw [insS_leaf hl]
            exact .ok rfl
          · rename_i hl
            split
            · rename_i hv
              have hin : insS (tkA T i) = [.tk 3 [60], .type, .tk 3 [44], .number, .tk 3 [62], .shut] := by unfold insS; rw [if_pos hv]
              rw [hin, if_neg (by simp)]
              refine (sim_tk hT (by omega) (by decide) (fun t h => isR_mark h (by decide))).bind fun _ i1 h1 => ?_
              obtain ⟨rfl, hi1⟩ := wantT_le (by decide) h1
              refine (sim_expr hT f _ exM (deep + 1) d _ (0 :: o) (by omega) (by omega) (by simp [ho])).bind fun N i2 h2 => ?_
              obtain ⟨b1, b2⟩ := expr_lt h2
              refine (sim_tk hT (by omega) (by decide) (fun t h => isR_mark h (by decide))).bind fun _ i3 h3 => ?_
              obtain ⟨rfl, hi3⟩ := wantT_le (by decide) h3
              refine (sim_num (by omega)).bind fun n i4 h4 => ?_
              obtain ⟨g4, -, rfl⟩ := numT_ok h4
              have hi4 := tkA_kind (by decide) g4
              refine (sim_tk hT (by omega) (by decide) (fun t h => isR_mark h (by decide))).bind fun _ i5 h5 => ?_
              exact .go (s := ⟨i5, S, o, d⟩) rfl (.ok rfl) ⟨_, _, rfl⟩
            · rename_i hv
              split
              · rename_i ho'
                have hin : insS (tkA T i) = [.tk 3 [60], .type, .tk 3 [62], .shut] := by unfold insS; rw [if_neg hv, if_pos ho']
                rw [hin, if_neg (by simp)]
                refine (sim_tk hT (by omega) (by decide) (fun t h => isR_mark h (by decide))).bind fun _ i1 h1 => ?_
                obtain ⟨rfl, hi1⟩ := wantT_le (by decide) h1
                refine (sim_expr hT f _ exM (deep + 1) d _ (0 :: o) (by omega) (by omega) (by simp [ho])).bind fun N i2 h2 => ?_
                obtain ⟨b1, b2⟩ := expr_lt h2
                refine (sim_tk hT (by omega) (by decide) (fun t h => isR_mark h (by decide))).bind fun _ i3 h3 => ?_
                exact .go (s := ⟨i3, S, o, d⟩) rfl (.ok rfl) ⟨_, _, rfl⟩
              · rename_i ho'
                have hrow : ∀ (u : Bool), insS (tkA T i) = [.tk 3 [123], hdS u, tlS u, .shut] → Sim T (((wantT T (i + 1) 3 [123]).bind fun _ j => rowsT (fun i x => exprT T f i x (deep + 1)) T u f j 0).bind fun r j => (.ok ((atE i x).br u (r.2 : Nat) :: r.1) j : Pr (List Ex))) ⟨i + 1, insS (tkA T i) ++ S, if insS (tkA T i) = [] then o else 0 :: o, d⟩ (fun j => ⟨j, S, o, d⟩) := by
                  intro u hin
                  rw [hin, if_neg (by simp)]
                  refine Sim.bind (c := fun j => ⟨j, S, o, d⟩) ?_ fun r j h2 => .ok rfl
                  refine (sim_tk hT (by omega) (by decide) (fun t h => isR_mark h (by decide))).bind fun _ i1 h1 => ?_
                  obtain ⟨rfl, hi1⟩ := wantT_le (by decide) h1
                  exact sim_rows hT (i0 := i + 1 + 1) (fun i x k S h0 hi => sim_expr hT f i x (deep + 1) d S (k :: o) hi (by omega) (by simp [ho])) (fun i x N j hh => expr_lt hh) f _ 0 S (Nat.le_refl _) (by omega) (by omega) (by omega)
                split
                · rename_i hu
                  exact hrow true (by unfold insS; rw [if_neg hv, if_neg ho', if_pos hu]; rfl)
                · rename_i hu
                  split
                  · rename_i hs
                    exact hrow false (by unfold insS; rw [if_neg hv, if_neg ho', if_neg hu, if_pos hs]; rfl)
                  · rename_i hs
                    have hin : insS (tkA T i) = [] := by unfold insS; rw [if_neg hv, if_neg ho', if_neg hu, if_neg hs]
                    rw [hin]
                    exact .ok rfl
theorem sim_defs {T : List Tk} (hT : TW T) : ∀ (g i k : Nat), i ≤ T.length → T.length + 2 ≤ g + i → k ≤ 256 → match defsT T g i k with
    | .ok _ _ => ∃ q, Runs T ⟨i, [.schema], [], k⟩ 0 q
    | .bad e j => Runs T ⟨i, [.schema], [], k⟩ e j
  | 0, i, k, hi, hg, hk => by omega
  | g + 1, i, k, hi, hg, hk => by
    rw [defsT_s]
    by_cases hie : T.length ≤ i
    · have hi2 : i = T.length := by omega
      rw [if_pos hie]
      exact ⟨i, _, .go (s := ⟨i, [], [], k⟩) (by simp [stepF, hi2]) .fin trivial⟩
    · rw [if_neg hie]
      have hty := isR_type (hT i (by omega))
      by_cases h2 : isT (tkA T i) 1 [116, 121, 112, 101] = true
      · by_cases h3 : k = 256
        · rw [if_pos ⟨h3, h2⟩]
          exact ⟨1, .er (by rw [stepF, if_neg (by omega), hty, h2, if_neg (by decide), if_pos (by omega)]) trivial⟩
        · rw [if_neg (fun hh => h3 hh.1)]
          have hgo : stepF T i .schema [] [] k = .go ⟨i, [.tk 1 [116, 121, 112, 101], .name, .tk 3 [61], .type, .tk 3 [59], .schema], [], k + 1⟩ := by
            rw [stepF, if_neg (by omega), hty, h2, if_neg (by decide), if_neg (by omega)]
          have key : Sim T ((wantT T i 1 [116, 121, 112, 101]).bind fun _ i => (nameT T i).bind fun s j => (wantT T j 3 [61]).bind fun _ j => (exprT T (T.length + 2) j exM 0).bind fun N j => (wantT T j 3 [59]).bind fun _ j => (.ok (⟨s, (i : Int), N⟩ : Df) j : Pr Df)) ⟨i, [.schema], [], k⟩ (fun j => ⟨j, [.schema], [], k + 1⟩) := by
            refine .go hgo ((sim_tk hT (by omega) (by decide) (fun t h => isR_type h)).bind fun _ i1 h1 => ?_)
            obtain ⟨rfl, hi1⟩ := wantT_le (by decide) h1
            refine (sim_name (by omega)).bind fun s i2 h2 => ?_
            obtain ⟨g2, -, rfl⟩ := nameT_ok h2
            have := nmT_lt g2
            refine (sim_tk hT (by omega) (by decide) (fun t h => isR_mark h (by decide))).bind fun _ i3 h3 => ?_
            obtain ⟨rfl, hi3⟩ := wantT_le (by decide) h3
            refine (sim_expr hT _ _ exM 0 _ _ [] (by omega) (by omega) rfl).bind fun N i4 h4 => ?_
            obtain ⟨b1, b2⟩ := expr_lt h4
            exact (sim_tk hT (by omega) (by decide) (fun t h => isR_mark h (by decide))).bind fun _ i5 h5 => .ok rfl
          have hsplit : ((wantT T i 1 [116, 121, 112, 101]).bind fun _ i => (nameT T i).bind fun s j => (wantT T j 3 [61]).bind fun _ j => (exprT T (T.length + 2) j exM 0).bind fun N j => (wantT T j 3 [59]).bind fun _ j =>
              (defsT T g j (k + 1)).bind fun D j => (.ok (⟨s, i, N⟩ :: D) j : Pr (List Df))) = ((wantT T i 1 [116, 121, 112, 101]).bind fun _ i => (nameT T i).bind fun s j => (wantT T j 3 [61]).bind fun _ j => (exprT T (T.length + 2) j exM 0).bind fun N j => (wantT T j 3 [59]).bind fun _ j => (.ok (⟨s, (i : Int), N⟩ : Df) j : Pr Df)).bind fun x j => (defsT T g j (k + 1)).bind fun D j => .ok (x :: D) j := by
            simp only [Pr.bind_assoc, Pr.bind_ok]
          rw [hsplit]
          rcases hq : ((wantT T i 1 [116, 121, 112, 101]).bind fun _ i => (nameT T i).bind fun s j => (wantT T j 3 [61]).bind fun _ j => (exprT T (T.length + 2) j exM 0).bind fun N j => (wantT T j 3 [59]).bind fun _ j => (.ok (⟨s, (i : Int), N⟩ : Df) j : Pr Df)) with ⟨x, j⟩ | ⟨e, j⟩
          · rw [hq] at key
            obtain ⟨_, i1, h1, hq⟩ := bind_ok hq
            obtain ⟨rfl, hi1⟩ := wantT_le (by decide) h1
            obtain ⟨_, i1, h1, hq⟩ := bind_ok hq
            obtain ⟨g2, -, rfl⟩ := nameT_ok h1
            obtain ⟨_, i1, h1, hq⟩ := bind_ok hq
            obtain ⟨rfl, hi3⟩ := wantT_le (by decide) h1
            obtain ⟨_, i1, h1, hq⟩ := bind_ok hq
            obtain ⟨b1, b2⟩ := expr_lt h1
            obtain ⟨_, i2, h2, hq⟩ := bind_ok hq
            obtain ⟨rfl, hi5⟩ := wantT_le (by decide) h2
            cases hq
            have ih := sim_defs hT g (i1 + 1) (k + 1) (by omega) (by omega) (by omega)
            rw [Pr.bind_ok]
            rcases hd : defsT T g (i1 + 1) (k + 1) with ⟨D, q⟩ | ⟨e, q⟩
            · rw [hd] at ih
              obtain ⟨p, hp⟩ := ih
              exact ⟨p, key _ _ hp⟩
            · rw [hd] at ih
              exact key _ _ ih
          · rw [hq] at key
            exact key
      · have h2 : isT (tkA T i) 1 [116, 121, 112, 101] = false := by simpa using h2
        rw [if_neg (fun hh => by rw [h2] at hh; cases hh.2)]
        have hw : wantT T i 1 [116, 121, 112, 101] = .bad 60 i := by unfold wantT; rw [h2, if_neg (by decide)]
        rw [hw]
        exact ⟨1, .er (by rw [stepF, if_neg (by omega), hty, h2, if_pos rfl]) trivial⟩
/-- where the machine stops is where Parse does -/
theorem parse_run {xs : List UInt8} (h : (cutA xs).2.1 = 0) : ∃ k j, Run (cutA xs).1 ⟨0, [.schema], [], 0⟩ k (parseA xs).2.1 j ∧ ((parseA xs).2.1 ≠ 0 → (parseA xs).2.2 = plc (cutA xs).1 xs.length j) := by
  have hs := sim_defs (T := (cutA xs).1) (fun i hi => cut_w hi) ((cutA xs).1.length + 2) 0 0 (Nat.zero_le _) (by omega) (by omega)
  rcases hd : defsT (cutA xs).1 ((cutA xs).1.length + 2) 0 0 with ⟨D, j⟩ | ⟨e, j⟩
  · rw [hd] at hs
    obtain ⟨q, k, hk⟩ := hs
    rw [parseA_ok h hd]
    exact ⟨k, q, hk, fun h => absurd rfl h⟩
  · rw [hd] at hs
    obtain ⟨k, hk⟩ := hs
    rw [parseA_er h hd]
    exact ⟨k, j, hk, fun _ => rfl⟩

end Go.Proofs.Ytcljkkfpcomdcaa

set_option linter.unusedSimpArgs false
set_option linter.unusedVariables false
set_option maxRecDepth 100000
namespace Go.Proofs.Ytcljkkfpcomdcaa
open Go Go.Vc Go.RowKit Go.Proofs
def sySt (y : Sy) : Value := st (syS y)
structure RdM (w : World) (H p : Nat) (lv sv ov : Value) (T : List Tk) (s : Rd) : Prop where
  cell : w.heap[p]? = some (.cells #[lv, .int .i64 (s.at_ : Int), sv, ov, .int .i64 (s.defs : Int)] 92 (0, 0))
  toks : w.ownsRow 0 58 5 lv T.length (flat T)
  stk : w.ownsRow H 9 1 sv s.stk.length (s.stk.reverse.map sySt)
  opn : w.ownsRow H 3 1 ov s.opn.length (s.opn.reverse.map (fun k : Nat => Value.int .i64 (k : Int)))
  hp : H ≤ p
  lt : ∀ b, lv.ownBlock = some b → b < H
  le : H ≤ w.heap.size
theorem RdM.ext {w w' : World} {H p : Nat} {lv sv ov : Value} {T : List Tk} {s : Rd} (h : RdM w H p lv sv ov T s) (ho : Ext w w') : RdM w' H p lv sv ov T s :=
  ⟨ho.blk h.cell (fun h => h), own_ext h.toks ho, own_ext h.stk ho, own_ext h.opn ho, h.hp, h.lt, Nat.le_trans h.le ho.size⟩
theorem RdM.sp {w : World} {H p : Nat} {lv sv ov : Value} {T : List Tk} {s : Rd} (h : RdM w H p lv sv ov T s) : ¬ sv.ownBlock = some p := own_off h.stk h.cell (by decide)
theorem RdM.op {w : World} {H p : Nat} {lv sv ov : Value} {T : List Tk} {s : Rd} (h : RdM w H p lv sv ov T s) : ¬ ov.ownBlock = some p := own_off h.opn h.cell (by decide)
/-- the cell is written -/
theorem RdM.put {w w' : World} {H p i d : Nat} {lv sv ov sv2 ov2 : Value} {T : List Tk} {s : Rd} {S : List Sy} {o : List Nat} (h : RdM w H p lv sv ov T s) (hc : w'.heap[p]? = some (.cells #[lv, .int .i64 (i : Int), sv2, ov2, .int .i64 (d : Int)] 92 (0, 0))) (ho : Only (fun k => k = p) w w')
    (hs : w.ownsRow H 9 1 sv2 S.length (S.reverse.map sySt)) (hn : w.ownsRow H 3 1 ov2 o.length (o.reverse.map (fun k : Nat => Value.int .i64 (k : Int)))) : RdM w' H p lv sv2 ov2 T ⟨i, S, o, d⟩ :=
  ⟨hc, own_only h.toks ho (fun k hk he => by subst he; have := h.lt k hk; have := h.hp; omega), own_only hs ho (fun k hk he => by subst he; exact own_off hs h.cell (by decide) hk), own_only hn ho (fun k hk he => by subst he; exact own_off hn h.cell (by decide) hk), h.hp, h.lt, Nat.le_trans h.le ho.size⟩
end Go.Proofs.Ytcljkkfpcomdcaa

set_option linter.unusedSimpArgs false
set_option linter.unusedVariables false
set_option maxRecDepth 100000
namespace Go.Proofs.Ytcljkkfpcomdcaa
open Go Go.Vc Go.RowKit Go.Proofs

theorem RdM.hO {w w' : World} {H p : Nat} {lv sv ov : Value} {T : List Tk} {s : Rd} (h : RdM w H p lv sv ov T s) {w0 : World} (hO : Only (fun k => H ≤ k) w0 w) (ho : Only (fun k => k = p) w w') : Only (fun k => H ≤ k) w0 w' := hO.trans' ho (fun _ h => h) (fun k _ he => by subst he; exact h.hp)
theorem RdM.on {w : World} {H p : Nat} {lv sv ov : Value} {T : List Tk} {i d : Nat} {S : List Sy} {o : List Nat} (h : RdM w H p lv sv ov T ⟨i, S, o, d⟩) : w.ownsRow H 3 1 ov o.length (o.reverse.map (fun k : Nat => Value.int .i64 (k : Int))) := h.opn
theorem RdM.sn {w : World} {H p : Nat} {lv sv ov : Value} {T : List Tk} {i d : Nat} {S : List Sy} {o : List Nat} (h : RdM w H p lv sv ov T ⟨i, S, o, d⟩) : w.ownsRow H 9 1 sv S.length (S.reverse.map sySt) := h.stk
end Go.Proofs.Ytcljkkfpcomdcaa

set_option linter.unusedSimpArgs false
set_option linter.unusedVariables false
set_option maxRecDepth 100000
namespace Go.Proofs.Ytcljkkfpcomdcaa
open Go Go.Vc Go.RowKit Go.Proofs

theorem cutL_err60 (xs : List UInt8) : ∀ k, (cutL xs k).2.1 ≠ 60 := by
  have hone : ∀ k h, (oneL xs k h).1 ≠ 60 := fun k h => by
    unfold oneL
    repeat' split
    all_goals first | (intro he; cases he; done) | skip
    show (numL _).2 ≠ 60
    have hF : ∀ (l : List UInt8) (n : Nat), (numF n l).2 ≠ 60 := by
      intro l
      induction l with
      | nil => intro n he; cases he
      | cons c cs ih => intro n; unfold numF; split; intro he; cases he; exact ih _
    unfold numL
    split
    · intro he; cases he
    · exact hF _ _
  intro k
  induction hn : xs.length - k using Nat.strongRecOn generalizing k with
  | _ n ih =>
    rw [cutL_eq]
    split
    · rename_i hk
      split
      · have h1 := (runL_le (p := nnlB) (k := k + 1) (xs := xs) (by omega)).1
        exact ih (xs.length - runL nnlB xs (k + 1)) (by omega) _ rfl
      · split
        · exact ih (xs.length - (k + 1)) (by omega) _ rfl
        · split
          · rename_i he
            have h1 := oneL_fin xs k hk he
            exact ih (xs.length - (oneL xs k hk).2.fin) (by omega) _ rfl
          · exact hone _ _
    · intro he; cases he
theorem run_le {T : List Tk} {s : Rd} {k e j : Nat} (h : Run T s k e j) : s.at_ ≤ T.length → j ≤ T.length := by
  induction h with
  | fin => exact fun h => h
  | er => exact fun h => h
  | @go i d e k j y S o s h _ _ ih =>
    intro hi
    refine ih ?_
    simp only at hi
    cases y <;> simp only [stepF] at h <;> (repeat' split at h) <;> first | (cases h; done) | (cases h; simp only; omega)


def mk8 : List (List UInt8) := [[61], [59], [60], [62], [44], [58], [123], [125]]
def wt : Sy → Nat
  | .schema => 0
  | .shut => 0
  | .name => 1
  | .number => 1
  | .type => 1
  | .field => 3
  | .arm => 3
  | .fields => 1
  | .arms => 1
  | .tk _ _ => 1
def wtS : List Sy → Nat
  | [] => 0
  | y :: S => wt y + wtS S
def shuts : List Sy → Nat
  | [] => 0
  | .shut :: S => shuts S + 1
  | _ :: S => shuts S
def okS : Nat → List Sy → Prop
  | _, [] => True
  | _, .shut :: S => okS 5 S
  | _, .schema :: S => S = []
  | b, .fields :: S => 1 ≤ b ∧ (∃ S', S = .shut :: S') ∧ okS (b - 1) S
  | b, .arms :: S => 1 ≤ b ∧ (∃ S', S = .shut :: S') ∧ okS (b - 1) S
  | b, .field :: S => 3 ≤ b ∧ 0 < shuts S ∧ okS (b - 3) S
  | b, .arm :: S => 3 ≤ b ∧ 0 < shuts S ∧ okS (b - 3) S
  | b, .tk k s :: S => k = 3 ∧ s ∈ mk8 ∧ 1 ≤ b ∧ okS (b - 1) S
  | b, .name :: S => 1 ≤ b ∧ okS (b - 1) S
  | b, .number :: S => 1 ≤ b ∧ okS (b - 1) S
  | b, .type :: S => 1 ≤ b ∧ okS (b - 1) S
theorem okS_mono : ∀ {S : List Sy} {b c : Nat}, okS b S → b ≤ c → okS c S
  | [], _, _, _, _ => trivial
  | y :: S, b, c, h, hbc => by
    cases y <;> simp only [okS] at h ⊢
    case schema => exact h
    case shut => exact h
    case fields => exact ⟨by omega, h.2.1, okS_mono h.2.2 (by omega)⟩
    case arms => exact ⟨by omega, h.2.1, okS_mono h.2.2 (by omega)⟩
    case field => exact ⟨by omega, h.2.1, okS_mono h.2.2 (by omega)⟩
    case arm => exact ⟨by omega, h.2.1, okS_mono h.2.2 (by omega)⟩
    case tk => exact ⟨h.1, h.2.1, by omega, okS_mono h.2.2.2 (by omega)⟩
    case name => exact ⟨by omega, okS_mono h.2 (by omega)⟩
    case number => exact ⟨by omega, okS_mono h.2 (by omega)⟩
    case type => exact ⟨by omega, okS_mono h.2 (by omega)⟩
theorem okS_wt : ∀ {S : List Sy} {b : Nat}, okS b S → wtS S ≤ b + 5 * shuts S
  | [], _, _ => Nat.zero_le _
  | y :: S, b, h => by
    cases y <;> simp only [okS] at h <;> simp only [wtS, wt, shuts]
    case schema => subst h; exact Nat.zero_le _
    case shut => have := okS_wt h; omega
    case fields => have := okS_wt h.2.2; omega
    case arms => have := okS_wt h.2.2; omega
    case field => have := okS_wt h.2.2; omega
    case arm => have := okS_wt h.2.2; omega
    case tk => have := okS_wt h.2.2.2; omega
    case name => have := okS_wt h.2; omega
    case number => have := okS_wt h.2; omega
    case type => have := okS_wt h.2; omega
structure Inv (T : List Tk) (s : Rd) : Prop where
  ok : okS 5 s.stk ∨ (s.at_ < T.length ∧ ∃ S, s.stk = .tk 1 [116, 121, 112, 101] :: S ∧ okS 5 S)
  sh : shuts s.stk = s.opn.length
  len : s.opn.length ≤ 17
  val : ∀ k ∈ s.opn, k ≤ 64
  at_ : s.at_ ≤ T.length
theorem inv_step {T : List Tk} {i d : Nat} {y : Sy} {S : List Sy} {o : List Nat} {s : Rd} (h : Inv T ⟨i, y :: S, o, d⟩) (hs : stepF T i y S o d = .go s) : Inv T s := by
  obtain ⟨hok, hsh, hln, hvl, hat⟩ := h
  simp only at hok hsh hln hvl hat
  have hty : y = .tk 1 [116, 121, 112, 101] ∨ okS 5 (y :: S) := by
    rcases hok with h | ⟨-, S', h, -⟩
    · exact .inr h
    · exact .inl (by cases h; rfl)
  cases y
  case tk k x =>
    simp only [stepF] at hs
    repeat' split at hs
    all_goals first | (cases hs; done) | skip
    cases hs
    refine ⟨.inl ?_, hsh, hln, hvl, by simp only; omega⟩
    rcases hok with h | ⟨-, S', h, h2⟩
    · exact okS_mono h.2.2.2 (by omega)
    · cases h; exact h2
  all_goals (have hok := hty.resolve_left (fun h => by cases h); clear hty)
  case shut =>
    cases hs
    simp only [shuts] at hsh
    refine ⟨.inl hok, ?_, ?_, fun k hk => hvl k (List.mem_of_mem_tail hk), hat⟩
    · simp only [List.length_tail]; omega
    · simp only [List.length_tail]; omega
  case schema =>
    simp only [okS] at hok
    subst hok
    simp only [stepF] at hs
    repeat' split at hs
    all_goals first | (cases hs; done) | skip
    · cases hs; exact ⟨.inl trivial, hsh, hln, hvl, hat⟩
    · cases hs
      exact ⟨.inr ⟨by simp only; omega, _, rfl, by simp [okS, mk8]⟩, hsh, hln, hvl, hat⟩
  case name =>
    simp only [stepF] at hs
    repeat' split at hs
    all_goals first | (cases hs; done) | skip
    cases hs
    exact ⟨.inl (okS_mono hok.2 (by omega)), hsh, hln, hvl, by simp only; omega⟩
  case number =>
    simp only [stepF] at hs
    repeat' split at hs
    all_goals first | (cases hs; done) | skip
    cases hs
    exact ⟨.inl (okS_mono hok.2 (by omega)), hsh, hln, hvl, by simp only; omega⟩
  case fields =>
    simp only [okS] at hok
    obtain ⟨h1, ⟨S', rfl⟩, h3⟩ := hok
    simp only [stepF] at hs
    repeat' split at hs
    all_goals first | (cases hs; done) | skip
    · cases hs
      refine ⟨.inl ?_, hsh, hln, hvl, hat⟩
      simp only [okS, shuts] at h3 ⊢
      exact ⟨trivial, by decide, by omega, by omega, by omega, by omega, ⟨S', rfl⟩, h3⟩
    · cases hs
      refine ⟨.inl ?_, hsh, hln, hvl, hat⟩
      simp only [okS] at h3 ⊢
      exact ⟨trivial, by decide, by omega, h3⟩
  case arms =>
    simp only [okS] at hok
    obtain ⟨h1, ⟨S', rfl⟩, h3⟩ := hok
    simp only [stepF] at hs
    repeat' split at hs
    all_goals first | (cases hs; done) | skip
    · cases hs
      refine ⟨.inl ?_, hsh, hln, hvl, hat⟩
      simp only [okS, shuts] at h3 ⊢
      exact ⟨trivial, by decide, by omega, by omega, by omega, by omega, ⟨S', rfl⟩, h3⟩
    · cases hs
      refine ⟨.inl ?_, hsh, hln, hvl, hat⟩
      simp only [okS] at h3 ⊢
      exact ⟨trivial, by decide, by omega, h3⟩
  case field =>
    simp only [okS] at hok
    simp only [stepF] at hs
    repeat' split at hs
    all_goals first | (cases hs; done) | skip
    rename_i h64
    cases hs
    simp only [shuts] at hsh
    cases o with
    | nil => simp only [List.length_nil] at hsh; omega
    | cons k o =>
      refine ⟨.inl ?_, by simp only [shuts, moreO, List.tail_cons, List.length_cons] at hsh ⊢; omega, by simp only [moreO, List.tail_cons, List.length_cons] at hln ⊢; omega, fun m hm => ?_, hat⟩
      · simp only [okS]
        exact ⟨by omega, trivial, by decide, by omega, by omega, okS_mono hok.2.2 (by omega)⟩
      · simp only [moreO, List.tail_cons, List.headD_cons, List.mem_cons] at hm h64
        rcases hm with rfl | hm
        · omega
        · exact hvl m (List.mem_cons_of_mem _ hm)
  case arm =>
    simp only [okS] at hok
    simp only [stepF] at hs
    repeat' split at hs
    all_goals first | (cases hs; done) | skip
    rename_i h64
    cases hs
    simp only [shuts] at hsh
    cases o with
    | nil => simp only [List.length_nil] at hsh; omega
    | cons k o =>
      refine ⟨.inl ?_, by simp only [shuts, moreO, List.tail_cons, List.length_cons] at hsh ⊢; omega, by simp only [moreO, List.tail_cons, List.length_cons] at hln ⊢; omega, fun m hm => ?_, hat⟩
      · simp only [okS]
        exact ⟨by omega, trivial, by decide, by omega, by omega, okS_mono hok.2.2 (by omega)⟩
      · simp only [moreO, List.tail_cons, List.headD_cons, List.mem_cons] at hm h64
        rcases hm with rfl | hm
        · omega
        · exact hvl m (List.mem_cons_of_mem _ hm)
  case type =>
    simp only [okS] at hok
    have h4 : okS 5 S := okS_mono hok.2 (by omega)
    simp only [stepF] at hs
    split at hs
    · cases hs
    · split at hs
      · cases hs
      · split at hs
        · cases hs
        · rename_i h16
          cases hs
          simp only [shuts] at hsh
          have hat2 : i + 1 ≤ T.length := by omega
          have hv0 : ∀ k ∈ (0 :: o), k ≤ 64 := fun k hk => by
            rcases List.mem_cons.1 hk with rfl | hk
            · omega
            · exact hvl k hk
          unfold insS
          repeat' split
          all_goals first
            | (rename_i he; cases he; done)
            | (rename_i he; exact absurd rfl he)
            | exact ⟨.inl h4, hsh, hln, hvl, hat2⟩
            | (refine ⟨.inl ?_, by simp only [List.cons_append, List.nil_append, shuts, List.length_cons]; omega, by simp only [List.length_cons]; omega, hv0, hat2⟩
               simp only [List.cons_append, List.nil_append, okS, shuts]
               simp [mk8, h4])
inductive Rch (T : List Tk) : Rd → Rd → Prop
  | refl {s : Rd} : Rch T s s
  | step {i d : Nat} {y : Sy} {S : List Sy} {o : List Nat} {s s2 : Rd} (h : stepF T i y S o d = .go s) (hy : OkY y o) (hn : ¬ (y = .schema ∧ i = T.length)) (hi : i ≤ T.length) (hr : Rch T s s2) : Rch T ⟨i, y :: S, o, d⟩ s2
theorem Rch.trans {T : List Tk} {a b c : Rd} (h : Rch T a b) (k : Rch T b c) : Rch T a c := by
  induction h with
  | refl => exact k
  | step h hy hn hi _ ih => exact .step h hy hn hi (ih k)
theorem Rch.runs {T : List Tk} {a b : Rd} {e q : Nat} (h : Rch T a b) (k : Runs T b e q) : Runs T a e q := by
  induction h with
  | refl => exact k
  | step h hy hn hi _ ih => exact Runs.step h (ih k) hy
theorem tkA_app {T : List Tk} {t : Tk} {i : Nat} (h : i < T.length) : tkA (T ++ [t]) i = tkA T i := by
  rw [tkA, List.getD_eq_getElem?_getD, List.getElem?_append_left h, tkA, List.getD_eq_getElem?_getD]
theorem tkA_new {T : List Tk} {t : Tk} : tkA (T ++ [t]) T.length = t := by
  rw [tkA, List.getD_eq_getElem?_getD, List.getElem?_append_right (Nat.le_refl _)]; simp
theorem step_app {T : List Tk} {t : Tk} {i d : Nat} {y : Sy} {S : List Sy} {o : List Nat} {s : Rd} (h : stepF T i y S o d = .go s) (hn : ¬ (y = .schema ∧ i = T.length)) (hi : i ≤ T.length) : stepF (T ++ [t]) i y S o d = .go s := by
  by_cases he : i = T.length
  · cases y <;> simp only [stepF, if_pos he] at h <;> first | (cases h; done) | exact h | exact absurd ⟨rfl, he⟩ hn
  · have hl : i < T.length := by omega
    have h1 : ¬ i = (T ++ [t]).length := by simp; omega
    cases y <;> simp only [stepF, if_neg he, if_neg h1, tkA_app hl] at h ⊢ <;> exact h
theorem Rch.app {T : List Tk} {t : Tk} {a b : Rd} (h : Rch T a b) : Rch (T ++ [t]) a b := by
  induction h with
  | refl => exact .refl
  | step h hy hn hi _ ih => exact .step (step_app h hn hi) hy (fun hh => by have := hh.2; simp at this; omega) (by simp; omega) ih
theorem run_det {T : List Tk} {s : Rd} {k e j : Nat} (h : Run T s k e j) : ∀ {k2 e2 j2 : Nat}, Run T s k2 e2 j2 → e = e2 ∧ j = j2 := by
  induction h with
  | fin => intro k2 e2 j2 h2; cases h2; exact ⟨rfl, rfl⟩
  | er h hk =>
    intro k2 e2 j2 h2
    cases h2 with
    | er h2 _ => rw [h] at h2; cases h2; exact ⟨rfl, rfl⟩
    | go h2 _ _ => rw [h] at h2; cases h2
  | go h _ hk ih =>
    intro k2 e2 j2 h2
    cases h2 with
    | er h2 _ => rw [h] at h2; cases h2
    | go h2 hr2 _ => rw [h] at h2; cases h2; exact ih hr2
/-- a state at the end that something must follow -/
structure StkE (y : Sy) (S : List Sy) (o : List Nat) : Prop where
  pos : 0 < wt y
  ok : okS 5 (y :: S)
  sh : shuts (y :: S) = o.length
  len : o.length ≤ 17
  val : ∀ k ∈ o, k ≤ 64
theorem StkE.oky {y : Sy} {S : List Sy} {o : List Nat} (h : StkE y S o) : OkY y o := by
  obtain ⟨hp, hok, hsh, hln, hvl⟩ := h
  have h1 : 0 < shuts S → shuts S = o.length → ∃ k o', o = k :: o' ∧ k ≤ 64 := fun h1 h2 => by
    cases o with
    | nil => simp only [List.length_nil] at h2; omega
    | cons k o => exact ⟨k, o, rfl, hvl k (List.mem_cons_self ..)⟩
  cases y <;> simp only [wt] at hp <;> simp only [okS] at hok <;> simp only [shuts] at hsh <;> simp only [OkY]
  case field => exact h1 hok.2.1 hsh
  case arm => exact h1 hok.2.1 hsh
  case tk k s => obtain ⟨-, h, -⟩ := hok; simp only [mk8, List.mem_cons, List.not_mem_nil, or_false] at h; rcases h with rfl | rfl | rfl | rfl | rfl | rfl | rfl | rfl <;> decide
  all_goals omega
theorem stuck_run {T : List Tk} {s : Rd} {k e j : Nat} (h : Run T s k e j) : e = 60 → j = T.length → Inv T s → ∃ y S o d, StkE y S o ∧ Rch T s ⟨T.length, y :: S, o, d⟩ := by
  induction h with
  | fin => intro he; cases he
  | @er i d e y S o h hk =>
    intro he hj hI
    subst hj
    obtain ⟨hok, hsh, hln, hvl, hat⟩ := hI
    have hok2 : okS 5 (y :: S) := hok.resolve_right (fun hh => by have := hh.1; simp only at this; omega)
    refine ⟨y, S, o, d, ⟨?_, hok2, hsh, hln, hvl⟩, .refl⟩
    cases y <;> first | decide | (simp [stepF] at h; done) | (simp only [wt]; omega)
  | @go i d e k j y S o s h hr hk ih =>
    intro he hj hI
    obtain ⟨y2, S2, o2, d2, h1, h2⟩ := ih he hj (inv_step hI h)
    refine ⟨y2, S2, o2, d2, h1, .step h hk (fun hh => ?_) hI.at_ h2⟩
    obtain ⟨rfl, hi⟩ := hh
    simp only [stepF, if_pos hi] at h
    cases h
    have hS : S = [] := by
      rcases hI.ok with h | ⟨h, -⟩
      · exact h
      · simp only at h; omega
    subst hS
    cases hr; cases he
/-- .. at the end, with nothing that must follow, it is done; else it is stuck -/
theorem settle {T : List Tk} : ∀ (S : List Sy) (o : List Nat) (d : Nat), okS 5 S → shuts S = o.length → o.length ≤ 17 → (∀ k ∈ o, k ≤ 64) → Runs T ⟨T.length, S, o, d⟩ 0 T.length ∨ ∃ y S' o', StkE y S' o' ∧ wtS (y :: S') ≤ wtS S ∧ Rch T ⟨T.length, S, o, d⟩ ⟨T.length, y :: S', o', d⟩ ∧ Runs T ⟨T.length, S, o, d⟩ 60 T.length
  | [], o, d, _, _, _, _ => .inl ⟨0, .fin⟩
  | y :: S, o, d, hok, hsh, hln, hvl => by
    by_cases hp : 0 < wt y
    · refine .inr ⟨y, S, o, ⟨hp, hok, hsh, hln, hvl⟩, Nat.le_refl _, .refl, ?_⟩
      refine ⟨1, .er ?_ (StkE.oky ⟨hp, hok, hsh, hln, hvl⟩)⟩
      cases y <;> first | (simp [stepF]; done) | (simp only [wt] at hp; omega)
    · cases y <;> simp only [wt] at hp <;> first | omega | skip
      · simp only [okS] at hok
        subst hok
        exact .inl ⟨1, .go (s := ⟨T.length, [], o, d⟩) (by simp [stepF]) .fin trivial⟩
      · simp only [okS] at hok
        simp only [shuts] at hsh
        cases o with
        | nil => simp only [List.length_nil] at hsh; omega
        | cons k o =>
          have hst : stepF T T.length .shut S (k :: o) d = .go ⟨T.length, S, o, d⟩ := rfl
          rcases settle S o d hok (by simpa using hsh) (by simp only [List.length_cons] at hln; omega) (fun m hm => hvl m (List.mem_cons_of_mem _ hm)) with h | ⟨y, S', o', h1, h2, h3, h4⟩
          · exact .inl (Runs.step hst h ⟨_, _, rfl⟩)
          · exact .inr ⟨y, S', o', h1, by simp only [wtS, wt] at h2 ⊢; omega, .step hst ⟨_, _, rfl⟩ (fun h => by cases h.1) (Nat.le_refl _) h3, Runs.step hst h4 ⟨_, _, rfl⟩⟩
def accK (t : Tk) : Sy → Bool
  | .name => nmT t
  | .field => nmT t
  | .number => decide (t.kind = 2)
  | .arm => decide (t.kind = 2)
  | .type => bgnR t
  | .fields => isR t [44] || isR t [125]
  | .arms => isR t [44] || isR t [125]
  | .tk _ s => isR t s
  | _ => false
theorem refuse {T : List Tk} {t : Tk} {y : Sy} {S : List Sy} {o : List Nat} {d : Nat} (h : StkE y S o) (ha : accK t y = false) : Runs (T ++ [t]) ⟨T.length, y :: S, o, d⟩ 60 T.length := by
  have hne : ¬ T.length = (T ++ [t]).length := by simp
  have hy := h.oky
  have hrow : ∀ c : Sy, (c = .fields ∨ c = .arms) → y = c → Runs (T ++ [t]) ⟨T.length, y :: S, o, d⟩ 60 T.length := fun c hc e => by
    subst e
    have h1 : isR t [44] = false ∧ isR t [125] = false := by rcases hc with rfl | rfl <;> simpa [accK] using ha
    refine Runs.step (s := ⟨T.length, .tk 3 [125] :: S, o, d⟩) ?_ ⟨1, .er ?_ (show ([125] : List UInt8).head? ≠ some 40 by decide)⟩ hy
    · rcases hc with rfl | rfl <;> simp only [stepF, if_neg hne, tkA_new, h1.1] <;> rfl
    · simp only [stepF, if_neg hne, tkA_new, h1.2]; rfl
  have hp := h.pos
  cases y <;> simp only [wt] at hp <;> simp only [accK, decide_eq_false_iff_not] at ha
  case fields => exact hrow _ (.inl rfl) rfl
  case arms => exact hrow _ (.inr rfl) rfl
  case name => exact ⟨1, .er (by simp only [stepF, if_neg hne, tkA_new, ha]; rfl) hy⟩
  case number => exact ⟨1, .er (by simp only [stepF, if_neg hne, tkA_new]; rw [if_pos ha]) hy⟩
  case field => exact ⟨1, .er (by simp only [stepF, if_neg hne, tkA_new, ha]; rfl) hy⟩
  case arm => exact ⟨1, .er (by simp only [stepF, if_neg hne, tkA_new]; rw [if_pos ha]) hy⟩
  case type => exact ⟨1, .er (by simp only [stepF, if_neg hne, tkA_new, ha]; rfl) hy⟩
  case tk => exact ⟨1, .er (by simp only [stepF, if_neg hne, tkA_new, ha]; rfl) hy⟩
  all_goals omega
theorem accept {T : List Tk} {t : Tk} {y : Sy} {S : List Sy} {o : List Nat} {d : Nat} (h : StkE y S o) (ha : accK t y = true) (hc : isR t [44] = false ∨ y = .tk 3 [44]) (hi : y = .type → insS t = []) : Runs (T ++ [t]) ⟨T.length, y :: S, o, d⟩ 5 T.length ∨ Runs (T ++ [t]) ⟨T.length, y :: S, o, d⟩ 61 T.length ∨
    ∃ S2 o2, okS 5 S2 ∧ shuts S2 = o2.length ∧ o2.length ≤ 17 ∧ (∀ k ∈ o2, k ≤ 64) ∧ wtS S2 + 1 ≤ wtS (y :: S) ∧ Rch (T ++ [t]) ⟨T.length, y :: S, o, d⟩ ⟨(T ++ [t]).length, S2, o2, d⟩ := by
  have hne : ¬ T.length = (T ++ [t]).length := by simp
  have hle : T.length ≤ (T ++ [t]).length := by simp
  have hl : (T ++ [t]).length = T.length + 1 := by simp
  have hy := h.oky
  obtain ⟨hp, hok, hsh, hln, hvl⟩ := h
  have hrow : ∀ c : Sy, (c = .fields ∨ c = .arms) → y = c → ∃ S2 o2, okS 5 S2 ∧ shuts S2 = o2.length ∧ o2.length ≤ 17 ∧ (∀ k ∈ o2, k ≤ 64) ∧ wtS S2 + 1 ≤ wtS (y :: S) ∧ Rch (T ++ [t]) ⟨T.length, y :: S, o, d⟩ ⟨(T ++ [t]).length, S2, o2, d⟩ := fun c hcc e => by
    subst e
    have hc1 : isR t [44] = false := hc.resolve_right (fun hh => by rcases hcc with rfl | rfl <;> cases hh)
    have h1 : isR t [125] = true := by rcases hcc with rfl | rfl <;> simpa [accK, hc1] using ha
    have hok2 : okS 5 S ∧ shuts S = o.length ∧ wtS S + 1 ≤ wtS (y :: S) := by
      rcases hcc with rfl | rfl <;> simp only [okS] at hok <;> simp only [shuts] at hsh <;> exact ⟨okS_mono hok.2.2 (by omega), hsh, by simp only [wtS, wt]; omega⟩
    refine ⟨S, o, hok2.1, hok2.2.1, hln, hvl, hok2.2.2, ?_⟩
    refine .step (s := ⟨T.length, .tk 3 [125] :: S, o, d⟩) ?_ hy (fun hh => by rcases hcc with rfl | rfl <;> cases hh.1) hle (.step (s := ⟨T.length + 1, S, o, d⟩) ?_ (show ([125] : List UInt8).head? ≠ some 40 by decide) (fun hh => by cases hh.1) hle (hl ▸ .refl))
    · rcases hcc with rfl | rfl <;> simp only [stepF, if_neg hne, tkA_new, hc1] <;> rfl
    · simp only [stepF, if_neg hne, tkA_new, h1]; rfl
  cases y <;> simp only [wt] at hp
  case fields => exact .inr (.inr (hrow _ (.inl rfl) rfl))
  case arms => exact .inr (.inr (hrow _ (.inr rfl) rfl))
  case name =>
    simp only [okS] at hok
    exact .inr (.inr ⟨S, o, okS_mono hok.2 (by omega), hsh, hln, hvl, by simp only [wtS, wt]; omega, .step (s := ⟨T.length + 1, S, o, d⟩) (by simp only [accK] at ha; simp only [stepF, if_neg hne, tkA_new, ha]; rfl) hy (fun hh => by cases hh.1) hle (hl ▸ .refl)⟩)
  case number =>
    simp only [okS] at hok
    exact .inr (.inr ⟨S, o, okS_mono hok.2 (by omega), hsh, hln, hvl, by simp only [wtS, wt]; omega, .step (s := ⟨T.length + 1, S, o, d⟩) (by simp only [accK, decide_eq_true_eq] at ha; simp only [stepF, if_neg hne, tkA_new]; rw [if_neg (fun hh => hh ha)]) hy (fun hh => by cases hh.1) hle (hl ▸ .refl)⟩)
  case tk =>
    simp only [okS] at hok
    exact .inr (.inr ⟨S, o, okS_mono hok.2.2.2 (by omega), hsh, hln, hvl, by simp only [wtS, wt]; omega, .step (s := ⟨T.length + 1, S, o, d⟩) (by simp only [accK] at ha; simp only [stepF, if_neg hne, tkA_new, ha]; rfl) hy (fun hh => by cases hh.1) hle (hl ▸ .refl)⟩)
  case type =>
    simp only [okS] at hok
    simp only [accK] at ha
    by_cases h16 : 16 < o.length
    · exact .inr (.inl ⟨1, .er (by simp only [stepF, if_neg hne, tkA_new, ha]; rw [if_neg (by decide), if_pos h16]) hy⟩)
    · exact .inr (.inr ⟨S, o, okS_mono hok.2 (by omega), hsh, hln, hvl, by simp only [wtS, wt]; omega, .step (s := ⟨T.length + 1, S, o, d⟩) (by simp only [stepF, if_neg hne, tkA_new, ha, hi rfl]; rw [if_neg (by decide), if_neg h16]; rfl) hy (fun hh => by cases hh.1) hle (hl ▸ .refl)⟩)
  case field =>
    simp only [okS] at hok
    simp only [accK] at ha
    obtain ⟨k, o', rfl, hk⟩ := hy
    by_cases h64 : 64 < k + 1
    · exact .inl ⟨1, .er (by simp only [stepF, if_neg hne, tkA_new, ha]; rw [if_neg (by decide), if_pos (by simpa using h64)]) ⟨_, _, rfl, hk⟩⟩
    · refine .inr (.inr ⟨.tk 3 [58] :: .type :: S, (k + 1) :: o', ?_, by simpa [shuts] using hsh, by simpa using hln, ?_, by simp only [wtS, wt]; omega, .step (s := ⟨T.length, .name :: .tk 3 [58] :: .type :: S, (k + 1) :: o', d⟩) ?_ ⟨_, _, rfl, hk⟩ (fun hh => by cases hh.1) hle (.step (s := ⟨T.length + 1, .tk 3 [58] :: .type :: S, (k + 1) :: o', d⟩) ?_ trivial (fun hh => by cases hh.1) hle (hl ▸ .refl))⟩)
      · simp only [okS]; exact ⟨trivial, by decide, by omega, by omega, okS_mono hok.2.2 (by omega)⟩
      · intro m hm
        rcases List.mem_cons.1 hm with rfl | hm
        · omega
        · exact hvl m (List.mem_cons_of_mem _ hm)
      · simp only [stepF, if_neg hne, tkA_new, ha]; rw [if_neg (by decide), if_neg (by simpa using h64)]; rfl
      · simp only [stepF, if_neg hne, tkA_new, ha]; rfl
  case arm =>
    simp only [okS] at hok
    simp only [accK, decide_eq_true_eq] at ha
    obtain ⟨k, o', rfl, hk⟩ := hy
    have hna : ¬ t.kind ≠ 2 := fun hh => hh ha
    by_cases h64 : 64 < k + 1
    · exact .inl ⟨1, .er (by simp only [stepF, if_neg hne, tkA_new]; rw [if_neg hna, if_pos (by simpa using h64)]) ⟨_, _, rfl, hk⟩⟩
    · refine .inr (.inr ⟨.tk 3 [58] :: .type :: S, (k + 1) :: o', ?_, by simpa [shuts] using hsh, by simpa using hln, ?_, by simp only [wtS, wt]; omega, .step (s := ⟨T.length, .number :: .tk 3 [58] :: .type :: S, (k + 1) :: o', d⟩) ?_ ⟨_, _, rfl, hk⟩ (fun hh => by cases hh.1) hle (.step (s := ⟨T.length + 1, .tk 3 [58] :: .type :: S, (k + 1) :: o', d⟩) ?_ trivial (fun hh => by cases hh.1) hle (hl ▸ .refl))⟩)
      · simp only [okS]; exact ⟨trivial, by decide, by omega, by omega, okS_mono hok.2.2 (by omega)⟩
      · intro m hm
        rcases List.mem_cons.1 hm with rfl | hm
        · omega
        · exact hvl m (List.mem_cons_of_mem _ hm)
      · simp only [stepF, if_neg hne, tkA_new]; rw [if_neg hna, if_neg (by simpa using h64)]; rfl
      · simp only [stepF, if_neg hne, tkA_new]; rw [if_neg hna]
  all_goals omega
def Stuck (T : List Tk) (n : Nat) : Prop := ∃ y S o d, StkE y S o ∧ wtS (y :: S) ≤ n ∧ Rch T ⟨0, [.schema], [], 0⟩ ⟨T.length, y :: S, o, d⟩
def moreL : List (List UInt8) := [[59], [125], [62], [117, 56], [122, 122], [49], [61], [58], [44], [60], [123]]
def mtK : List Tk := [⟨3, [59], 0, 0, 1⟩, ⟨3, [125], 0, 0, 1⟩, ⟨3, [62], 0, 0, 1⟩, ⟨1, [117, 56], 0, 0, 2⟩, ⟨1, [122, 122], 0, 0, 2⟩, ⟨2, [], 1, 0, 1⟩, ⟨3, [61], 0, 0, 1⟩, ⟨3, [58], 0, 0, 1⟩, ⟨3, [44], 0, 0, 1⟩, ⟨3, [60], 0, 0, 1⟩, ⟨3, [123], 0, 0, 1⟩]
theorem more_cut : ∀ i, i < 11 → cutA (moreL.getD i []) = ([tkA mtK i], 0, 0) ∧ (tkA mtK i).at_ = 0 ∧ 0 < (moreL.getD i []).length ∧ (moreL.getD i []).length ≤ 2 := by
  intro i hi
  rcases i with _ | _ | _ | _ | _ | _ | _ | _ | _ | _ | _ | i
  all_goals first | omega | exact ⟨by decide +kernel, by decide, by decide, by decide⟩
def gi : Sy → Nat
  | .name => 4
  | .field => 4
  | .number => 5
  | .arm => 5
  | .type => 3
  | .fields => 1
  | .arms => 1
  | .tk _ s => if s = [59] then 0 else if s = [125] then 1 else if s = [62] then 2 else if s = [61] then 6 else if s = [58] then 7 else if s = [44] then 8 else if s = [60] then 9 else 10
  | _ => 0
theorem acc_shift {m : Nat} {t : Tk} {y : Sy} : accK (shiftT m t) y = accK t y := by cases y <;> rfl
theorem gi_ok {y : Sy} {S : List Sy} {o : List Nat} (h : StkE y S o) : gi y < 11 ∧ (∀ i, i < gi y → accK (tkA mtK i) y = false) ∧ accK (tkA mtK (gi y)) y = true ∧ (isR (tkA mtK (gi y)) [44] = false ∨ y = .tk 3 [44]) ∧ (y = .type → insS (tkA mtK (gi y)) = []) := by
  obtain ⟨hp, hok, -, -, -⟩ := h
  cases y <;> simp only [wt] at hp <;> simp only [okS] at hok
  case tk k s =>
    obtain ⟨rfl, hs, -⟩ := hok
    simp only [mk8, List.mem_cons, List.not_mem_nil, or_false] at hs
    rcases hs with rfl | rfl | rfl | rfl | rfl | rfl | rfl | rfl
    all_goals exact ⟨by decide, by decide, by decide, by first | exact .inl (by decide) | exact .inr rfl, fun h => by cases h⟩
  case name => exact ⟨by decide, by decide, by decide, .inl (by decide), fun h => by cases h⟩
  case number => exact ⟨by decide, by decide, by decide, .inl (by decide), fun h => by cases h⟩
  case type => exact ⟨by decide, by decide, by decide, .inl (by decide), fun _ => by decide⟩
  case field => exact ⟨by decide, by decide, by decide, .inl (by decide), fun h => by cases h⟩
  case arm => exact ⟨by decide, by decide, by decide, .inl (by decide), fun h => by cases h⟩
  case fields => exact ⟨by decide, by decide, by decide, .inl (by decide), fun h => by cases h⟩
  case arms => exact ⟨by decide, by decide, by decide, .inl (by decide), fun h => by cases h⟩
  all_goals omega
theorem stuck_of {xs : List UInt8} (h : (parseA xs).2 = (60, xs.length)) : (cutA xs).2.1 = 0 ∧ Stuck (cutA xs).1 90 := by
  have hc : (cutA xs).2.1 = 0 := by
    by_cases hc : (cutA xs).2.1 = 0
    · exact hc
    · exfalso
      rw [parseA_cut hc] at h
      have h2 : (cutA xs).2 = (60, xs.length) := h
      unfold cutA at h2
      split at h2
      · cases h2
      · split at h2
        · rename_i h0; rw [h2] at h0; cases h0
        · exact absurd (show (cutL xs 0).2.1 = 60 by rw [h2]) (cutL_err60 xs 0)
  refine ⟨hc, ?_⟩
  obtain ⟨k, j, hr, hp⟩ := parse_run hc
  rw [h] at hr hp
  have hpl := hp (show (60 : Nat) ≠ 0 by decide)
  have hj : j = (cutA xs).1.length := by
    have hs := sim_defs (T := (cutA xs).1) (fun i hi => cut_w hi) ((cutA xs).1.length + 2) 0 0 (Nat.zero_le _) (by omega) (by omega)
    rcases Nat.lt_or_ge j (cutA xs).1.length with hl | hl
    · have h1 := cut_in (xs := xs) hl
      have := h1.lt; have := h1.le
      rw [plc_lt hl] at hpl
      simp only at hpl
      omega
    · have hjl := run_le hr (Nat.zero_le _)
      omega
  obtain ⟨y, S, o, d, h1, h2⟩ := stuck_run hr rfl hj ⟨.inl rfl, rfl, by decide, fun k hk => (by cases hk), Nat.zero_le _⟩
  refine ⟨y, S, o, d, h1, ?_, h2⟩
  have := okS_wt h1.ok
  have := h1.sh
  have := h1.len
  omega
theorem goes_more {xs : List UInt8} {n : Nat} (hc : (cutA xs).2.1 = 0) (hS : Stuck (cutA xs).1 n) (hl : xs.length ≤ 60000) : ∃ g, g < 11 ∧ (∀ i, i < g → (parseA (xs ++ 10 :: moreL.getD i [])).2.1 = 60 ∧ (parseA (xs ++ 10 :: moreL.getD i [])).2.2 < (xs ++ 10 :: moreL.getD i []).length) ∧
    ((parseA (xs ++ 10 :: moreL.getD g [])).2.1 = 0 ∨ (parseA (xs ++ 10 :: moreL.getD g [])).2.1 = 61 ∨ (parseA (xs ++ 10 :: moreL.getD g [])).2.1 = 5 ∨ ((parseA (xs ++ 10 :: moreL.getD g [])).2 = (60, (xs ++ 10 :: moreL.getD g []).length) ∧ (cutA (xs ++ 10 :: moreL.getD g [])).2.1 = 0 ∧ ∃ m, m < n ∧ Stuck (cutA (xs ++ 10 :: moreL.getD g [])).1 m)) := by
  obtain ⟨y, S, o, d, h1, h2, h3⟩ := hS
  obtain ⟨g1, g2, g3, g4, g5⟩ := gi_ok h1
  have key : ∀ i, i < 11 → ∃ t, t = shiftT (xs.length + 1) (tkA mtK i) ∧ (cutA (xs ++ 10 :: moreL.getD i [])).2.1 = 0 ∧ (cutA (xs ++ 10 :: moreL.getD i [])).1 = (cutA xs).1 ++ [t] ∧ ∀ e q, Runs ((cutA xs).1 ++ [t]) ⟨(cutA xs).1.length, y :: S, o, d⟩ e q → (parseA (xs ++ 10 :: moreL.getD i [])).2.1 = e ∧ (e ≠ 0 → (parseA (xs ++ 10 :: moreL.getD i [])).2.2 = plc ((cutA xs).1 ++ [t]) (xs ++ 10 :: moreL.getD i []).length q) := by
    intro i hi
    obtain ⟨m1, m2, m3, m4⟩ := more_cut i hi
    have hlen : (xs ++ 10 :: moreL.getD i []).length ≤ 65536 := by rw [List.length_append, List.length_cons]; omega
    rcases cutA_app hlen with ⟨q, -⟩ | ⟨-, q, -⟩ | ⟨-, -, q1, q2⟩
    · exact absurd hc q
    · rw [m1] at q; exact absurd rfl q
    · rw [m1] at q2
      have hc2 : (cutA (xs ++ 10 :: moreL.getD i [])).2.1 = 0 := by rw [q1]
      refine ⟨_, rfl, hc2, q2, fun e q hr => ?_⟩
      obtain ⟨k, j, hrun, hpl⟩ := parse_run hc2
      have hT : (cutA (xs ++ 10 :: moreL.getD i [])).1 = (cutA xs).1 ++ [shiftT (xs.length + 1) (tkA mtK i)] := q2
      rw [hT] at hrun hpl
      obtain ⟨k2, hr2⟩ := (h3.app (t := shiftT (xs.length + 1) (tkA mtK i))).runs hr
      obtain ⟨e1, e2⟩ := run_det hrun hr2
      subst e1; subst e2
      exact ⟨rfl, hpl⟩
  refine ⟨gi y, g1, fun i hi => ?_, ?_⟩
  · obtain ⟨t, ht, hc2, hT, hk⟩ := key i (by omega)
    obtain ⟨m1, m2, m3, m4⟩ := more_cut i (by omega)
    have hr := refuse (T := (cutA xs).1) (t := t) (d := d) h1 (by rw [ht, acc_shift]; exact g2 i hi)
    obtain ⟨e1, e2⟩ := hk _ _ hr
    refine ⟨e1, ?_⟩
    rw [e2 (by decide), plc_lt (by simp), tkA_new, ht]
    show xs.length + 1 + (tkA mtK i).at_ < _
    rw [m2, List.length_append, List.length_cons]; omega
  · obtain ⟨t, ht, hc2, hT, hk⟩ := key (gi y) g1
    have hac := accept (T := (cutA xs).1) (t := t) (d := d) h1 (by rw [ht, acc_shift]; exact g3) (by rw [ht]; exact g4) (by rw [ht]; exact g5)
    rcases hac with hr | hr | ⟨S2, o2, a1, a2, a3, a4, a5, a6⟩
    · exact .inr (.inr (.inl (hk _ _ hr).1))
    · exact .inr (.inl (hk _ _ hr).1)
    · rcases settle (T := (cutA xs).1 ++ [t]) S2 o2 d a1 a2 a3 a4 with hr | ⟨y', S', o', b1, b2, b3, b4⟩
      · exact .inl (hk _ _ (a6.runs hr)).1
      · refine .inr (.inr (.inr ⟨?_, hc2, n - 1, ?_, ?_⟩))
        · obtain ⟨e1, e2⟩ := hk _ _ (a6.runs b4)
          have e3 := e2 (by decide)
          rw [plc, if_neg (by omega)] at e3
          exact Prod.ext e1 e3
        · have : 0 < wtS (y :: S) := by have := h1.pos; simp only [wtS]; omega
          omega
        · rw [hT]
          exact ⟨y', S', o', d, b1, by omega, (h3.app).trans (a6.trans b3)⟩
theorem stuck_pos {T : List Tk} {n : Nat} (h : Stuck T n) : 0 < n := by
  obtain ⟨y, S, o, d, h1, h2, -⟩ := h
  have := h1.pos
  simp only [wtS] at h2
  omega

end Go.Proofs.Ytcljkkfpcomdcaa

set_option linter.unusedSimpArgs false
set_option linter.unusedVariables false
set_option maxRecDepth 100000
namespace Go.Proofs.Ytcljkkfpcomdcaa
open Go Go.Vc Go.RowKit Go.Proofs

theorem fill_cellsA (n : Nat) : ∀ (vs : List (Nat × Value)) (zs : List Value), zs.length = n → vs.all (fun x => decide (x.1 < n) && x.2.oneCell') = true → Instr.fill (fun i => some (i * 1, 1)) zs.toArray vs = some (vs.foldl (fun l x => l.set x.1 x.2) zs).toArray
  | [], zs, _, _ => rfl
  | (i, v) :: vs, zs, hn, h => by
    simp only [List.all_cons, Bool.and_eq_true, decide_eq_true_eq] at h
    obtain ⟨⟨h1, h2⟩, h3⟩ := h
    have hc : v.cells = #[v] := by cases v <;> first | rfl | simp [Value.oneCell'] at h2
    have ih := fill_cellsA n vs (zs.set i v) (by simp [hn]) h3
    simp only [Instr.fill, hc]
    rw [if_neg (by simp <;> omega)]
    simp only [List.foldl_cons]
    rw [← ih]
    congr 1
    simp
theorem o_bldAC {P : Program} {e : Env} {w : World} {K : Value → World → Prop} {ty : TypeId} {t el : TypeId} {n : Nat} {s bs bs' : Nat} {d' : TypeDesc} {z' : Value} {zs cs : List Value} {parts : List (Nat × Operand)} {vs : List (Nat × Value)} (ht : Ty P t (.array n el) s bs (.agg zs.toArray)) (hel : Ty P el d' 1 bs' z')
    (hp : (parts.map fun (x : Nat × Operand) => (x.1, ev e x.2)) = vs) (hv : vs.all (fun x => decide (x.1 < zs.length) && x.2.oneCell') = true) (hc : vs.foldl (fun l x => l.set x.1 x.2) zs = cs) (k : K (.agg cs.toArray) w) : OP P e (.build t parts.toArray) ty w K := by
  subst hp
  subst hc
  refine OP.of ?_ k
  have hf := fill_cellsA zs.length _ zs rfl hv
  simp only [execOp, Instr.build, Sem.run_bind, ht.run_zero, Result.andThen_ok, ht.run_und, hel.run_size, List.map_toArray]
  rw [show (Value.agg zs.toArray).cells = zs.toArray from rfl, hf]
  rfl
theorem more_at {i : Nat} (hi : i < 11) : (moreL.map st).toArray[0 + i * 1]? = some (st (moreL.getD i [])) := by
  rcases i with _ | _ | _ | _ | _ | _ | _ | _ | _ | _ | _ | i
  all_goals first | omega | rfl

set_option maxHeartbeats 2000000 in
theorem goes_walk0 (w0 : World) (xs0 : List UInt8) (hlen : xs0.length ≤ 9223372036854775807) : Ca Try.prog 9 #[st xs0] w0 (fun v w' => v = .bool true ∧ Ext w0 w') := by
  have hx : Ext w0 w0 := Only.refl _ _
  refine Ca.of Try.func9 Try.ntmps9 rfl rfl ?_
  refine W.seq ?_
  refine W.region ?_
  refine WL.c rfl (o_ash (show _ = Value.bool _ from rfl) ?_)
  refine WL.nil ?_
  refine W.seq ?_
  refine W.seq ?_
  refine W.region ?_
  refine WL.c rfl (o_call Try.call11 ln ((first_spec _).mono ?_))
  rintro v12 w12 ⟨rfl, hx12⟩
  replace hx := hx.tr hx12
  refine WL.c rfl (o_not' rfl ?_)
  refine WL.nil ?_
  refine W.condF' rfl (rfl) ?_
  refine W.skip ?_
  refine W.seq ?_
  refine W.region ?_
  refine WL.c rfl (o_mvh (show _ = Value.string _ from rfl) ?_)
  refine WL.c rfl (o_call Try.call19 (lc rfl ln) ((parse_spec xs0 _ hlen).mono ?_))
  rintro v16 w16 ⟨dv16, V16, rfl, hD16, hxp16⟩
  replace hx := hx.tr hxp16
  refine WL.c rfl (o_mvh (by first | exact (show _ = Value.tuple _ from rfl) | exact rfl) ?_)
  refine WL.c rfl (o_ext rfl rfl ?_)
  refine WL.c rfl (o_ext rfl rfl ?_)
  refine WL.c rfl (o_alB TI28 ?_)
  intro wa hCs hxs hss
  refine WL.c rfl (o_alB TI49 ?_)
  intro wb hCf hxf hsf
  replace hCs := hxf.blk hCs (fun h => h)
  refine WL.u (o_stA TI28 rfl (show _ = Value.agg #[dv16] from rfl) rfl (by simp [own_one hD16.row]) hCs rfl ?_)
  intro wc hB3 hos hsz
  replace hCf := hos.blk hCf (by omega)
  refine WL.u (o_stA TI49 rfl (show _ = Value.agg (faultV (parseA xs0).2.1 (parseA xs0).2.2) from rfl) rfl rfl hCf rfl ?_)
  intro w4z hB4 hof hsz2
  replace hB3 := hof.blk hB3 (by omega)
  have hxn : Ext w16 w4z := ((hxs.tr hxf).trans' hos (fun _ h => h) (fun k hk he => by omega)).trans' hof (fun _ h => h) (fun k hk he => by omega)
  obtain ⟨b3, hb3⟩ : ∃ b, b = w16.heap.size := ⟨_, rfl⟩
  obtain ⟨b4, hb4⟩ : ∃ b, b = wa.heap.size := ⟨_, rfl⟩
  rw [← hb3] at hB3 ⊢
  rw [← hb4] at hB4 ⊢
  clear hCs hCf hos hof
  replace hx := hx.tr hxn
  replace hD16 := hD16.ext hxn
  clear hxn
  refine WL.nil ?_
  refine W.seq ?_
  refine W.seq ?_
  rcases Classical.em ((parseA xs0).2.1 = 60) with he | he
  rotate_left
  rotate_left
  rcases Classical.em ((parseA xs0).2.2 = xs0.length) with ha | ha
  rcases Nat.lt_or_ge 4000 xs0.length with hl | hl
  · skip
    skip
    refine W.region ?_
    refine WL.c rfl (o_fa 0 TI49 rfl TI32 rfl rfl ?_)
    refine WL.c rfl (o_ld TI32 rfl rfl (cell_of hB4 rfl) ?_)
    refine WL.c rfl (o_ne rfl rfl ?_)
    refine WL.c rfl (o_mvh (show _ = Value.bool _ from rfl) ?_)
    refine WL.g rfl (by simp <;> omega) rfl (o_fa 1 TI49 rfl TI3 rfl rfl ?_)
    refine WL.g rfl (by simp <;> omega) rfl (o_ld TI3 rfl rfl (cell_of hB4 rfl) ?_)
    refine WL.g rfl (by simp <;> omega) rfl (o_mvh (show _ = Value.string _ from rfl) ?_)
    refine WL.g rfl (by simp <;> omega) rfl (o_lenT TI9 rfl ?_)
    refine WL.g rfl (by simp <;> omega) rfl (o_ne rfl rfl ?_)
    refine WL.c rfl (o_pickO rfl rfl ?_)
    refine WL.c rfl (o_mvh (show _ = Value.bool _ from rfl) ?_)
    refine WL.g rfl (by simp <;> omega) rfl (o_mvh (show _ = Value.string _ from rfl) ?_)
    refine WL.g rfl (by simp <;> omega) rfl (o_lenT TI9 rfl ?_)
    refine WL.g rfl (by simp <;> omega) rfl (o_gt rfl rfl ?_)
    refine WL.c rfl (o_pickO rfl rfl ?_)
    refine WL.nil ?_
    refine W.condT' rfl (by simp <;> omega) ?_
    refine W.seq ?_
    refine W.region ?_
    refine WL.c rfl (o_ash (show _ = Value.bool _ from rfl) ?_)
    refine WL.nil ?_
    refine W.ret ?_
    refine ret1v rfl (show _ = Value.bool _ from rfl) ?_
    exact ⟨rfl, hx⟩
  · skip
    skip
    refine W.region ?_
    refine WL.c rfl (o_fa 0 TI49 rfl TI32 rfl rfl ?_)
    refine WL.c rfl (o_ld TI32 rfl rfl (cell_of hB4 rfl) ?_)
    refine WL.c rfl (o_ne rfl rfl ?_)
    refine WL.c rfl (o_mvh (show _ = Value.bool _ from rfl) ?_)
    refine WL.g rfl (by simp <;> omega) rfl (o_fa 1 TI49 rfl TI3 rfl rfl ?_)
    refine WL.g rfl (by simp <;> omega) rfl (o_ld TI3 rfl rfl (cell_of hB4 rfl) ?_)
    refine WL.g rfl (by simp <;> omega) rfl (o_mvh (show _ = Value.string _ from rfl) ?_)
    refine WL.g rfl (by simp <;> omega) rfl (o_lenT TI9 rfl ?_)
    refine WL.g rfl (by simp <;> omega) rfl (o_ne rfl rfl ?_)
    refine WL.c rfl (o_pickO rfl rfl ?_)
    refine WL.c rfl (o_mvh (show _ = Value.bool _ from rfl) ?_)
    refine WL.g rfl (by simp <;> omega) rfl (o_mvh (show _ = Value.string _ from rfl) ?_)
    refine WL.g rfl (by simp <;> omega) rfl (o_lenT TI9 rfl ?_)
    refine WL.g rfl (by simp <;> omega) rfl (o_gt rfl rfl ?_)
    refine WL.c rfl (o_pickO rfl rfl ?_)
    refine WL.nil ?_
    refine W.condF' rfl (by simp <;> omega) ?_
    refine W.skip ?_
    refine W.seq ?_
    obtain ⟨hcz, hst0⟩ := stuck_of (xs := xs0) (Prod.ext he ha)
    refine W.region ?_
    refine WL.c rfl (o_bldAC (cs := moreL.map st) TI61 TI9 (lcp rfl (lcp rfl (lcp rfl (lcp rfl (lcp rfl (lcp rfl (lcp rfl (lcp rfl (lcp rfl (lcp rfl (lcp rfl lnp))))))))))) rfl rfl ?_)
    refine WL.c rfl (o_alB TI61 ?_)
    intro w5 hC5 hx5 hs5
    refine WL.u (o_stA TI61 rfl (show _ = Value.agg (moreL.map st).toArray from rfl) rfl rfl hC5 rfl ?_)
    intro w6 hB5 ho5 hs6
    have hxb := Ext.own hx5 (Nat.le_refl _) ho5
    replace hx := hx.tr hxb
    obtain ⟨b5, hb5⟩ : ∃ b, b = w4z.heap.size := ⟨_, rfl⟩
    rw [← hb5] at hB5 ⊢
    replace hB5 : w6.heap[b5]? = some (.cells (moreL.map st).toArray 61 (0, 0)) := hB5
    clear hB3 hB4 hD16 hC5 hx5 ho5 hxb
    refine WL.nil ?_
    refine W.seq ?_
    refine W.seq ?_
    refine W.region ?_
    refine WL.c rfl (o_ash (show _ = Value.int _ _ from rfl) ?_)
    refine WL.nil ?_
    refine W.block ?_
    refine W.loop (fun e w => ∃ (n m : Nat) (xs : List UInt8), m + n ≤ 120 ∧ (cutA xs).2.1 = 0 ∧ Stuck (cutA xs).1 m ∧ xs.length ≤ 4000 + 3 * n ∧ e 0 = st xs ∧ e 5 = .pointer (some ⟨b5, 0, none⟩) ∧ e 6 = .int .i64 (n : Int) ∧ w.heap[b5]? = some (.cells (moreL.map st).toArray 61 (0, 0)) ∧ Ext w0 w) (fun e w => 120 - (intOf (e 6)).toNat) ?_ ?_
    · exact ⟨0, 90, xs0, by decide, hcz, hst0, by omega, rfl, rfl, rfl, hB5, hx⟩
    rintro e w ⟨n, m, xs, hmn, hc, hst, hxl, h0, h5, h6, hB5, hx⟩
    have hm6 := h6
    have hmp := stuck_pos hst
    refine W.seq ?_
    refine W.seq ?_
    refine W.region ?_
    refine WL.c rfl (o_mvh h6 ?_)
    refine WL.c rfl (o_lt rfl rfl ?_)
    refine WL.nil ?_
    refine W.cond rfl (fun c36 => ?_) (fun c36 => ?_)
    · try simp only [decide_eq_true_eq, decide_eq_false_iff_not, Bool.not_eq_true', Bool.not_eq_false', Bool.and_eq_true, Bool.or_eq_true, Bool.and_eq_false_iff, Bool.or_eq_false_iff] at c36
      refine W.skip ?_
      refine W.seq ?_
      refine W.block ?_
      refine W.seq ?_
      obtain ⟨g, hg, hlow, hgo⟩ := goes_more hc hst (by omega)
      refine W.region ?_
      refine WL.c rfl (o_ash (show _ = Value.bool _ from rfl) ?_)
      refine WL.nil ?_
      refine W.seq ?_
      refine W.seq ?_
      refine W.region ?_
      refine WL.c rfl (o_ash (show _ = Value.int _ _ from rfl) ?_)
      refine WL.nil ?_
      refine W.block ?_
      refine W.loop (fun e w => ∃ (i : Nat) (f : Bool) (zs : List UInt8), i ≤ 12 ∧ e 0 = st zs ∧ e 5 = .pointer (some ⟨b5, 0, none⟩) ∧ e 6 = .int .i64 (n : Int) ∧ e 7 = .bool f ∧ e 8 = .int .i64 (i : Int) ∧ w.heap[b5]? = some (.cells (moreL.map st).toArray 61 (0, 0)) ∧ Ext w0 w ∧ ((f = false ∧ i ≤ g ∧ xs = zs) ∨ (f = true ∧ (cutA zs).2.1 = 0 ∧ (∃ m2, m2 < m ∧ Stuck (cutA zs).1 m2) ∧ zs.length ≤ xs.length + 3))) (fun e w => 12 - (intOf (e 8)).toNat) ?_ ?_
      · exact ⟨0, false, xs, by decide, h0, h5, h6, rfl, rfl, hB5, hx, .inl ⟨rfl, Nat.zero_le _, rfl⟩⟩
      rintro e w ⟨i, f, zs, hi, h0, h5, h6, h7, h8, hB5, hx, hd⟩
      have hm8 := h8
      refine W.seq ?_
      refine W.seq ?_
      rcases hd with ⟨rfl, hig, rfl⟩ | ⟨rfl, hcz2, ⟨m2, hm2, hst2⟩, hzl⟩
      rotate_left
      rcases Nat.lt_or_ge i 11 with hi11 | hi11
      · skip
        skip
        refine W.region ?_
        refine WL.c rfl (o_mvh h8 ?_)
        refine WL.c rfl (o_lt rfl rfl ?_)
        refine WL.c rfl (o_mvh (show _ = Value.bool _ from rfl) ?_)
        refine WL.g rfl (decide_eq_true (by omega)) rfl (o_mvh h7 ?_)
        refine WL.g rfl (decide_eq_true (by omega)) rfl (o_not' rfl ?_)
        refine WL.c rfl (o_pickA rfl rfl ?_)
        refine WL.nil ?_
        refine W.condF' rfl (by simp) ?_
        refine W.exit ?_
        refine W.seq ?_
        refine W.region ?_
        refine WL.c rfl (o_mvh h7 ?_)
        refine WL.c rfl (o_not' rfl ?_)
        refine WL.nil ?_
        refine W.condF' rfl (rfl) ?_
        refine W.skip ?_
        refine W.region ?_
        refine WL.c rfl (o_mvh h6 ?_)
        refine WL.c rfl (o_addi rfl rfl (by omega) ?_)
        refine WL.c rfl (o_ash (show _ = Value.int _ _ from rfl) ?_)
        refine WL.nil ?_
        refine ⟨⟨n + 1, m2, zs, by omega, hcz2, hst2, by omega, h0, h5, rfl, hB5, hx⟩, ?_⟩
        show 120 - ((n : Int) + 1).toNat < _
        rw [hm6]; simp [intOf]; omega
      · skip
        skip
        refine W.region ?_
        refine WL.c rfl (o_mvh h8 ?_)
        refine WL.c rfl (o_lt rfl rfl ?_)
        refine WL.c rfl (o_mvh (show _ = Value.bool _ from rfl) ?_)
        refine WL.s rfl (decide_eq_false (by omega)) rfl ?_
        refine WL.s rfl (decide_eq_false (by omega)) rfl ?_
        refine WL.c rfl (o_pickF rfl (decide_eq_false (by omega)) ?_)
        refine WL.nil ?_
        refine W.condF' rfl (rfl) ?_
        refine W.exit ?_
        refine W.seq ?_
        refine W.region ?_
        refine WL.c rfl (o_mvh h7 ?_)
        refine WL.c rfl (o_not' rfl ?_)
        refine WL.nil ?_
        refine W.condF' rfl (rfl) ?_
        refine W.skip ?_
        refine W.region ?_
        refine WL.c rfl (o_mvh h6 ?_)
        refine WL.c rfl (o_addi rfl rfl (by omega) ?_)
        refine WL.c rfl (o_ash (show _ = Value.int _ _ from rfl) ?_)
        refine WL.nil ?_
        refine ⟨⟨n + 1, m2, zs, by omega, hcz2, hst2, by omega, h0, h5, rfl, hB5, hx⟩, ?_⟩
        show 120 - ((n : Int) + 1).toNat < _
        rw [hm6]; simp [intOf]; omega
      · skip
        have hi11 : i < 11 := by omega
        obtain ⟨-, -, -, hml⟩ := more_cut i hi11
        refine W.region ?_
        refine WL.c rfl (o_mvh h8 ?_)
        refine WL.c rfl (o_lt rfl rfl ?_)
        refine WL.c rfl (o_mvh (show _ = Value.bool _ from rfl) ?_)
        refine WL.g rfl (decide_eq_true (by omega)) rfl (o_mvh h7 ?_)
        refine WL.g rfl (decide_eq_true (by omega)) rfl (o_not' rfl ?_)
        refine WL.c rfl (o_pickA rfl rfl ?_)
        refine WL.nil ?_
        refine W.condT' rfl (by simp <;> omega) ?_
        refine W.skip ?_
        refine W.seq ?_
        refine W.block ?_
        refine W.seq ?_
        refine W.region ?_
        refine WL.c rfl (o_mvh h0 ?_)
        refine WL.c rfl (o_addT rfl rfl (by simp <;> omega) ?_)
        refine WL.c rfl (o_mvh h8 ?_)
        refine WL.c rfl (o_ixA TI61 TI9 h5 rfl (by omega) ?_)
        refine WL.c rfl (o_ld TI9 rfl rfl (cell_of hB5 (more_at hi11)) ?_)
        refine WL.c rfl (o_addT rfl rfl (by simp only [List.length_append, List.length_singleton]; omega) ?_)
        rw [show (xs ++ [10]) ++ moreL.getD i [] = xs ++ 10 :: moreL.getD i [] by simp]
        obtain ⟨ys, hys⟩ : ∃ ys, ys = xs ++ 10 :: moreL.getD i [] := ⟨_, rfl⟩
        rw [← hys]
        have hyl : ys.length ≤ xs.length + 3 := by rw [hys, List.length_append, List.length_cons]; omega
        refine WL.c rfl (o_ash (show _ = Value.string _ from rfl) ?_)
        refine WL.nil ?_
        refine W.seq ?_
        refine W.region ?_
        refine WL.c rfl (o_mvh (show _ = Value.string _ from rfl) ?_)
        refine WL.c rfl (o_call Try.call19 (lc rfl ln) ((parse_spec ys _ (by omega)).mono ?_))
        rintro v55 w55 ⟨dv55, V55, rfl, hD55, hxp55⟩
        replace hx := hx.tr hxp55
        replace hB5 := hxp55.blk hB5 (fun h => h)
        refine WL.c rfl (o_mvh (by first | exact (show _ = Value.tuple _ from rfl) | exact rfl) ?_)
        refine WL.c rfl (o_ext rfl rfl ?_)
        refine WL.c rfl (o_ext rfl rfl ?_)
        refine WL.c rfl (o_alB TI28 ?_)
        intro wa hCs hxs hss
        refine WL.c rfl (o_alB TI49 ?_)
        intro wb hCf hxf hsf
        replace hCs := hxf.blk hCs (fun h => h)
        refine WL.u (o_stA TI28 rfl (show _ = Value.agg #[dv55] from rfl) rfl (by simp [own_one hD55.row]) hCs rfl ?_)
        intro wc hB10 hos hsz
        replace hCf := hos.blk hCf (by omega)
        refine WL.u (o_stA TI49 rfl (show _ = Value.agg (faultV (parseA ys).2.1 (parseA ys).2.2) from rfl) rfl rfl hCf rfl ?_)
        intro w11z hB11 hof hsz2
        replace hB10 := hof.blk hB10 (by omega)
        have hxn : Ext w55 w11z := ((hxs.tr hxf).trans' hos (fun _ h => h) (fun k hk he => by omega)).trans' hof (fun _ h => h) (fun k hk he => by omega)
        obtain ⟨b10, hb10⟩ : ∃ b, b = w55.heap.size := ⟨_, rfl⟩
        obtain ⟨b11, hb11⟩ : ∃ b, b = wa.heap.size := ⟨_, rfl⟩
        rw [← hb10] at hB10 ⊢
        rw [← hb11] at hB11 ⊢
        clear hCs hCf hos hof
        replace hx := hx.tr hxn
        replace hB5 := hxn.blk hB5 (fun h => h)
        replace hD55 := hD55.ext hxn
        clear hxn
        refine WL.nil ?_
        refine W.seq ?_
        refine W.seq ?_
        rcases Nat.lt_or_ge i g with hlt | hge
        obtain ⟨p1, p2⟩ := hlow i hlt
        rw [← hys] at p1 p2
        rotate_left
        obtain rfl : i = g := by omega
        rw [← hys] at hgo
        rcases hgo with p1 | p1 | p1 | ⟨p1, p2, m2, hm2, hst2⟩
        · skip
          skip
          refine W.region ?_
          refine WL.c rfl (o_fa 0 TI49 rfl TI32 rfl rfl ?_)
          refine WL.c rfl (o_ld TI32 rfl rfl (cell_of hB11 rfl) ?_)
          refine WL.c rfl (o_eq rfl rfl ?_)
          refine WL.c rfl (o_mvh (show _ = Value.bool _ from rfl) ?_)
          refine WL.s rfl (by simp <;> omega) rfl ?_
          refine WL.s rfl (by simp <;> omega) rfl ?_
          refine WL.s rfl (by simp <;> omega) rfl ?_
          refine WL.c rfl (o_pickT rfl (by simp <;> omega) ?_)
          refine WL.c rfl (o_mvh (show _ = Value.bool _ from rfl) ?_)
          refine WL.s rfl (rfl) rfl ?_
          refine WL.s rfl (rfl) rfl ?_
          refine WL.s rfl (rfl) rfl ?_
          refine WL.c rfl (o_pickT rfl (rfl) ?_)
          refine WL.nil ?_
          refine W.condT' rfl (by simp <;> omega) ?_
          refine W.seq ?_
          refine W.region ?_
          refine WL.c rfl (o_ash (show _ = Value.bool _ from rfl) ?_)
          refine WL.nil ?_
          refine W.ret ?_
          refine ret1v rfl (show _ = Value.bool _ from rfl) ?_
          exact ⟨rfl, hx⟩
        · skip
          skip
          refine W.region ?_
          refine WL.c rfl (o_fa 0 TI49 rfl TI32 rfl rfl ?_)
          refine WL.c rfl (o_ld TI32 rfl rfl (cell_of hB11 rfl) ?_)
          refine WL.c rfl (o_eq rfl rfl ?_)
          refine WL.c rfl (o_mvh (show _ = Value.bool _ from rfl) ?_)
          refine WL.g rfl (by simp <;> omega) rfl (o_fa 0 TI49 rfl TI32 rfl rfl ?_)
          refine WL.g rfl (by simp <;> omega) rfl (o_ld TI32 rfl rfl (cell_of hB11 rfl) ?_)
          refine WL.g rfl (by simp <;> omega) rfl (o_eq rfl rfl ?_)
          refine WL.c rfl (o_pickO rfl rfl ?_)
          refine WL.c rfl (o_mvh (show _ = Value.bool _ from rfl) ?_)
          refine WL.s rfl (by simp <;> omega) rfl ?_
          refine WL.s rfl (by simp <;> omega) rfl ?_
          refine WL.s rfl (by simp <;> omega) rfl ?_
          refine WL.c rfl (o_pickT rfl (by simp <;> omega) ?_)
          refine WL.nil ?_
          refine W.condT' rfl (by simp <;> omega) ?_
          refine W.seq ?_
          refine W.region ?_
          refine WL.c rfl (o_ash (show _ = Value.bool _ from rfl) ?_)
          refine WL.nil ?_
          refine W.ret ?_
          refine ret1v rfl (show _ = Value.bool _ from rfl) ?_
          exact ⟨rfl, hx⟩
        · skip
          skip
          refine W.region ?_
          refine WL.c rfl (o_fa 0 TI49 rfl TI32 rfl rfl ?_)
          refine WL.c rfl (o_ld TI32 rfl rfl (cell_of hB11 rfl) ?_)
          refine WL.c rfl (o_eq rfl rfl ?_)
          refine WL.c rfl (o_mvh (show _ = Value.bool _ from rfl) ?_)
          refine WL.g rfl (by simp <;> omega) rfl (o_fa 0 TI49 rfl TI32 rfl rfl ?_)
          refine WL.g rfl (by simp <;> omega) rfl (o_ld TI32 rfl rfl (cell_of hB11 rfl) ?_)
          refine WL.g rfl (by simp <;> omega) rfl (o_eq rfl rfl ?_)
          refine WL.c rfl (o_pickO rfl rfl ?_)
          refine WL.c rfl (o_mvh (show _ = Value.bool _ from rfl) ?_)
          refine WL.g rfl (by simp <;> omega) rfl (o_fa 0 TI49 rfl TI32 rfl rfl ?_)
          refine WL.g rfl (by simp <;> omega) rfl (o_ld TI32 rfl rfl (cell_of hB11 rfl) ?_)
          refine WL.g rfl (by simp <;> omega) rfl (o_eq rfl rfl ?_)
          refine WL.c rfl (o_pickO rfl rfl ?_)
          refine WL.nil ?_
          refine W.condT' rfl (by simp <;> omega) ?_
          refine W.seq ?_
          refine W.region ?_
          refine WL.c rfl (o_ash (show _ = Value.bool _ from rfl) ?_)
          refine WL.nil ?_
          refine W.ret ?_
          refine ret1v rfl (show _ = Value.bool _ from rfl) ?_
          exact ⟨rfl, hx⟩
        · skip
          have p3 : (parseA ys).2.1 = 60 := by rw [p1]
          have p4 : (parseA ys).2.2 = ys.length := by rw [p1]
          refine W.region ?_
          refine WL.c rfl (o_fa 0 TI49 rfl TI32 rfl rfl ?_)
          refine WL.c rfl (o_ld TI32 rfl rfl (cell_of hB11 rfl) ?_)
          refine WL.c rfl (o_eq rfl rfl ?_)
          refine WL.c rfl (o_mvh (show _ = Value.bool _ from rfl) ?_)
          refine WL.g rfl (by simp <;> omega) rfl (o_fa 0 TI49 rfl TI32 rfl rfl ?_)
          refine WL.g rfl (by simp <;> omega) rfl (o_ld TI32 rfl rfl (cell_of hB11 rfl) ?_)
          refine WL.g rfl (by simp <;> omega) rfl (o_eq rfl rfl ?_)
          refine WL.c rfl (o_pickO rfl rfl ?_)
          refine WL.c rfl (o_mvh (show _ = Value.bool _ from rfl) ?_)
          refine WL.g rfl (by simp <;> omega) rfl (o_fa 0 TI49 rfl TI32 rfl rfl ?_)
          refine WL.g rfl (by simp <;> omega) rfl (o_ld TI32 rfl rfl (cell_of hB11 rfl) ?_)
          refine WL.g rfl (by simp <;> omega) rfl (o_eq rfl rfl ?_)
          refine WL.c rfl (o_pickO rfl rfl ?_)
          refine WL.nil ?_
          refine W.condF' rfl (by simp <;> omega) ?_
          refine W.skip ?_
          refine W.seq ?_
          refine W.region ?_
          refine WL.c rfl (o_fa 0 TI49 rfl TI32 rfl rfl ?_)
          refine WL.c rfl (o_ld TI32 rfl rfl (cell_of hB11 rfl) ?_)
          refine WL.c rfl (o_eq rfl rfl ?_)
          refine WL.c rfl (o_mvh (show _ = Value.bool _ from rfl) ?_)
          refine WL.g rfl (by simp <;> omega) rfl (o_fa 1 TI49 rfl TI3 rfl rfl ?_)
          refine WL.g rfl (by simp <;> omega) rfl (o_ld TI3 rfl rfl (cell_of hB11 rfl) ?_)
          refine WL.g rfl (by simp <;> omega) rfl (o_mvh (show _ = Value.string _ from rfl) ?_)
          refine WL.g rfl (by simp <;> omega) rfl (o_lenT TI9 rfl ?_)
          refine WL.g rfl (by simp <;> omega) rfl (o_eq rfl rfl ?_)
          refine WL.c rfl (o_pickA rfl rfl ?_)
          refine WL.nil ?_
          refine W.condT' rfl (by simp <;> omega) ?_
          refine W.seq ?_
          refine W.region ?_
          refine WL.c rfl (o_mvh (show _ = Value.string _ from rfl) ?_)
          refine WL.c rfl (o_ash (show _ = Value.string _ from rfl) ?_)
          refine WL.nil ?_
          refine W.region ?_
          refine WL.c rfl (o_ash (show _ = Value.bool _ from rfl) ?_)
          refine WL.nil ?_
          refine W.region ?_
          refine WL.c rfl (o_mvh h8 ?_)
          refine WL.c rfl (o_addi rfl rfl (by omega) ?_)
          refine WL.c rfl (o_ash (show _ = Value.int _ _ from rfl) ?_)
          refine WL.nil ?_
          first
          | (refine ⟨⟨i + 1, true, ys, by omega, rfl, h5, h6, rfl, rfl, hB5, hx, .inr ⟨rfl, p2, ⟨m2, hm2, hst2⟩, by omega⟩⟩, ?_⟩
             show 12 - ((i : Int) + 1).toNat < _
             rw [hm8]; simp [intOf]; omega)
          | (refine ⟨⟨i + 1, false, xs, by omega, h0, h5, h6, h7, rfl, hB5, hx, .inl ⟨rfl, by omega, rfl⟩⟩, ?_⟩
             show 12 - ((i : Int) + 1).toNat < _
             rw [hm8]; simp [intOf]; omega)
        · skip
          skip
          refine W.region ?_
          refine WL.c rfl (o_fa 0 TI49 rfl TI32 rfl rfl ?_)
          refine WL.c rfl (o_ld TI32 rfl rfl (cell_of hB11 rfl) ?_)
          refine WL.c rfl (o_eq rfl rfl ?_)
          refine WL.c rfl (o_mvh (show _ = Value.bool _ from rfl) ?_)
          refine WL.g rfl (by simp <;> omega) rfl (o_fa 0 TI49 rfl TI32 rfl rfl ?_)
          refine WL.g rfl (by simp <;> omega) rfl (o_ld TI32 rfl rfl (cell_of hB11 rfl) ?_)
          refine WL.g rfl (by simp <;> omega) rfl (o_eq rfl rfl ?_)
          refine WL.c rfl (o_pickO rfl rfl ?_)
          refine WL.c rfl (o_mvh (show _ = Value.bool _ from rfl) ?_)
          refine WL.g rfl (by simp <;> omega) rfl (o_fa 0 TI49 rfl TI32 rfl rfl ?_)
          refine WL.g rfl (by simp <;> omega) rfl (o_ld TI32 rfl rfl (cell_of hB11 rfl) ?_)
          refine WL.g rfl (by simp <;> omega) rfl (o_eq rfl rfl ?_)
          refine WL.c rfl (o_pickO rfl rfl ?_)
          refine WL.nil ?_
          refine W.condF' rfl (by simp <;> omega) ?_
          refine W.skip ?_
          refine W.seq ?_
          refine W.region ?_
          refine WL.c rfl (o_fa 0 TI49 rfl TI32 rfl rfl ?_)
          refine WL.c rfl (o_ld TI32 rfl rfl (cell_of hB11 rfl) ?_)
          refine WL.c rfl (o_eq rfl rfl ?_)
          refine WL.c rfl (o_mvh (show _ = Value.bool _ from rfl) ?_)
          refine WL.g rfl (by simp <;> omega) rfl (o_fa 1 TI49 rfl TI3 rfl rfl ?_)
          refine WL.g rfl (by simp <;> omega) rfl (o_ld TI3 rfl rfl (cell_of hB11 rfl) ?_)
          refine WL.g rfl (by simp <;> omega) rfl (o_mvh (show _ = Value.string _ from rfl) ?_)
          refine WL.g rfl (by simp <;> omega) rfl (o_lenT TI9 rfl ?_)
          refine WL.g rfl (by simp <;> omega) rfl (o_eq rfl rfl ?_)
          refine WL.c rfl (o_pickA rfl rfl ?_)
          refine WL.nil ?_
          refine W.condF' rfl (by simp <;> omega) ?_
          refine W.skip ?_
          refine W.region ?_
          refine WL.c rfl (o_mvh h8 ?_)
          refine WL.c rfl (o_addi rfl rfl (by omega) ?_)
          refine WL.c rfl (o_ash (show _ = Value.int _ _ from rfl) ?_)
          refine WL.nil ?_
          first
          | (refine ⟨⟨i + 1, true, ys, by omega, rfl, h5, h6, rfl, rfl, hB5, hx, .inr ⟨rfl, p2, ⟨m2, hm2, hst2⟩, by omega⟩⟩, ?_⟩
             show 12 - ((i : Int) + 1).toNat < _
             rw [hm8]; simp [intOf]; omega)
          | (refine ⟨⟨i + 1, false, xs, by omega, h0, h5, h6, h7, rfl, hB5, hx, .inl ⟨rfl, by omega, rfl⟩⟩, ?_⟩
             show 12 - ((i : Int) + 1).toNat < _
             rw [hm8]; simp [intOf]; omega)
    · try simp only [decide_eq_true_eq, decide_eq_false_iff_not, Bool.not_eq_true', Bool.not_eq_false', Bool.and_eq_true, Bool.or_eq_true, Bool.and_eq_false_iff, Bool.or_eq_false_iff] at c36
      exact absurd hmp (by omega)
  · skip
    skip
    refine W.region ?_
    refine WL.c rfl (o_fa 0 TI49 rfl TI32 rfl rfl ?_)
    refine WL.c rfl (o_ld TI32 rfl rfl (cell_of hB4 rfl) ?_)
    refine WL.c rfl (o_ne rfl rfl ?_)
    refine WL.c rfl (o_mvh (show _ = Value.bool _ from rfl) ?_)
    refine WL.g rfl (by simp <;> omega) rfl (o_fa 1 TI49 rfl TI3 rfl rfl ?_)
    refine WL.g rfl (by simp <;> omega) rfl (o_ld TI3 rfl rfl (cell_of hB4 rfl) ?_)
    refine WL.g rfl (by simp <;> omega) rfl (o_mvh (show _ = Value.string _ from rfl) ?_)
    refine WL.g rfl (by simp <;> omega) rfl (o_lenT TI9 rfl ?_)
    refine WL.g rfl (by simp <;> omega) rfl (o_ne rfl rfl ?_)
    refine WL.c rfl (o_pickO rfl rfl ?_)
    refine WL.c rfl (o_mvh (show _ = Value.bool _ from rfl) ?_)
    refine WL.s rfl (by simp <;> omega) rfl ?_
    refine WL.s rfl (by simp <;> omega) rfl ?_
    refine WL.s rfl (by simp <;> omega) rfl ?_
    refine WL.c rfl (o_pickT rfl (by simp <;> omega) ?_)
    refine WL.nil ?_
    refine W.condT' rfl (by simp <;> omega) ?_
    refine W.seq ?_
    refine W.region ?_
    refine WL.c rfl (o_ash (show _ = Value.bool _ from rfl) ?_)
    refine WL.nil ?_
    refine W.ret ?_
    refine ret1v rfl (show _ = Value.bool _ from rfl) ?_
    exact ⟨rfl, hx⟩
  · skip
    skip
    refine W.region ?_
    refine WL.c rfl (o_fa 0 TI49 rfl TI32 rfl rfl ?_)
    refine WL.c rfl (o_ld TI32 rfl rfl (cell_of hB4 rfl) ?_)
    refine WL.c rfl (o_ne rfl rfl ?_)
    refine WL.c rfl (o_mvh (show _ = Value.bool _ from rfl) ?_)
    refine WL.s rfl (by simp <;> omega) rfl ?_
    refine WL.s rfl (by simp <;> omega) rfl ?_
    refine WL.s rfl (by simp <;> omega) rfl ?_
    refine WL.s rfl (by simp <;> omega) rfl ?_
    refine WL.s rfl (by simp <;> omega) rfl ?_
    refine WL.c rfl (o_pickT rfl (by simp <;> omega) ?_)
    refine WL.c rfl (o_mvh (show _ = Value.bool _ from rfl) ?_)
    refine WL.s rfl (rfl) rfl ?_
    refine WL.s rfl (rfl) rfl ?_
    refine WL.s rfl (rfl) rfl ?_
    refine WL.c rfl (o_pickT rfl (rfl) ?_)
    refine WL.nil ?_
    refine W.condT' rfl (by simp <;> omega) ?_
    refine W.seq ?_
    refine W.region ?_
    refine WL.c rfl (o_ash (show _ = Value.bool _ from rfl) ?_)
    refine WL.nil ?_
    refine W.ret ?_
    refine ret1v rfl (show _ = Value.bool _ from rfl) ?_
    exact ⟨rfl, hx⟩

theorem goes_walk (w0 : World) (s : ByteArray) (hs : s.size ≤ maxLen) : Ca Try.prog 9 #[.string s] w0 (fun v w' => v = .bool true ∧ Ext w0 w') := by
  obtain ⟨⟨xs⟩⟩ := s
  exact goes_walk0 w0 xs hs

end Go.Proofs.Ytcljkkfpcomdcaa
