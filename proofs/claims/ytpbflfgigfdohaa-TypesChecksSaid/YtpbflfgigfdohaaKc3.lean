/-
  Walks and lemmas. Written by program out of specs of mine.
-/
import Derived.WalkKit
import Derived.WalkSpells
import Derived.WalkLawsBesides
import Derived.Deep.Quiet
import Derived.StillTail
import Derived.StringKeys
import Derived.Laws.StructEq
import Derived.Laws.Externs
import Derived.Laws.Tables
import Derived.Scope
import Derived.Test.YtpbflfgigfdohaaProg
import Derived.Laws.AppendOwn
import Derived.Maps.AppendAt
import Derived.Recover
import Derived.Lib.Bytealg
import Derived.SizedLaws
import Derived.ChangeArms
import Derived.ChangeSlices
import Derived.Maps.OwnSet
import Derived.Test.YtpbflfgigfdohaaRows
import Derived.ProofKit
import Derived.OpenShut
import Derived.ShutString
import Derived.ChangeOld
import Derived.Below
import Derived.Test.YtpbflfgigfdohaaKc2
set_option linter.unusedSimpArgs false
set_option linter.unusedVariables false
set_option maxRecDepth 100000
set_option linter.unusedSimpArgs false
set_option linter.unusedVariables false
set_option maxRecDepth 100000
namespace Go.Proofs.Ytpbflfgigfdohaa
open Go Go.Vc Go.RowKit Go.Proofs
/-- the same, further behind -/
def shiftT (k : Nat) (t : Tk) : Tk := ⟨t.kind, t.text, t.n, k + t.at_, k + t.fin⟩
theorem runL_shift (p : UInt8 → Bool) (xs : List UInt8) (k j : Nat) : runL p xs (k + j) = k + runL p (xs.drop k) j := by
  unfold runL
  rw [List.drop_drop]; omega
theorem sub_shift (xs : List UInt8) (k l h : Nat) : sub xs (k + l) (k + h) = sub (xs.drop k) l h := by
  unfold sub
  rw [← List.drop_drop, List.drop_take, Nat.add_sub_cancel_left]
theorem oneL_shift (xs : List UInt8) (k j : Nat) (h : k + j < xs.length) (h' : j < (xs.drop k).length) : (oneL xs (k + j) h).1 = (oneL (xs.drop k) j h').1 ∧ ((oneL (xs.drop k) j h').1 = 0 → (oneL xs (k + j) h).2 = shiftT k (oneL (xs.drop k) j h').2) := by
  have he : (xs.drop k)[j] = xs[k + j] := by simp
  unfold oneL
  rw [he]
  by_cases h1 : letB xs[k + j] = true
  · rw [if_pos h1, if_pos h1, runL_shift, sub_shift]
    by_cases h2 : 32 < k + runL goeB (xs.drop k) j - (k + j)
    · rw [if_pos h2, if_pos (by omega)]; exact ⟨rfl, fun h => by simp at h⟩
    rw [if_neg h2, if_neg (by omega)]; exact ⟨rfl, fun _ => rfl⟩
  rw [if_neg h1, if_neg h1]
  by_cases h2 : digB xs[k + j] = true
  · rw [if_pos h2, if_pos h2, runL_shift, sub_shift]; exact ⟨rfl, fun _ => rfl⟩
  rw [if_neg h2, if_neg h2]
  by_cases h3 : markB xs[k + j] = true
  · rw [if_pos h3, if_pos h3, Nat.add_assoc, sub_shift]; exact ⟨rfl, fun _ => rfl⟩
  rw [if_neg h3, if_neg h3]; exact ⟨rfl, fun h => by simp at h⟩


def Pr.sh {α β : Type} (m : Nat) (g : α → β) : Pr α → Pr β
  | .ok a i => .ok (g a) (m + i)
  | .bad e i => .bad e (m + i)
theorem bind_sh {α α' β β' : Type} {m : Nat} {g : α → α'} {h : β → β'} {r : Pr α} {F : α → Nat → Pr β} {F' : α' → Nat → Pr β'} (hF : ∀ a i, r = .ok a i → F' (g a) (m + i) = (F a i).sh m h) : (r.sh m g).bind F' = (r.bind F).sh m h := by
  cases r with
  | ok a i => exact hF a i rfl
  | bad e i => rfl
/-- tokens that differ in places alone, from the m-th on -/
structure Like (m : Nat) (T T2 : List Tk) : Prop where
  len : T.length = m + T2.length
  tok : ∀ i, (tkA T (m + i)).kind = (tkA T2 i).kind ∧ (tkA T (m + i)).text = (tkA T2 i).text ∧ (tkA T (m + i)).n = (tkA T2 i).n
def shE (m : Nat) (x : Ex) : Ex := if x.at_ < 0 then x else { x with at_ := x.at_ + m }
theorem Like.eqT {m : Nat} {T T2 : List Tk} (h : Like m T T2) (i k : Nat) (s : List UInt8) : isT (tkA T (m + i)) k s = isT (tkA T2 i) k s := by
  unfold isT; rw [(h.tok i).1, (h.tok i).2.1]
theorem Like.eqN {m : Nat} {T T2 : List Tk} (h : Like m T T2) (i : Nat) : nmT (tkA T (m + i)) = nmT (tkA T2 i) := by
  unfold nmT; rw [(h.tok i).1, (h.tok i).2.1]
theorem Like.bgn {m : Nat} {T T2 : List Tk} (h : Like m T T2) (i : Nat) : bgnT (tkA T (m + i)) = bgnT (tkA T2 i) := by
  unfold bgnT; rw [(h.tok i).1, (h.tok i).2.1]
theorem Like.want {m : Nat} {T T2 : List Tk} (h : Like m T T2) (i k : Nat) (s : List UInt8) : wantT T (m + i) k s = (wantT T2 i k s).sh m id := by
  unfold wantT; rw [h.eqT]; split <;> rfl
theorem Like.num {m : Nat} {T T2 : List Tk} (h : Like m T T2) (i : Nat) : numT T (m + i) = (numT T2 i).sh m id := by
  unfold numT; rw [(h.tok i).1, (h.tok i).2.2]; split <;> rfl
theorem Like.name {m : Nat} {T T2 : List Tk} (h : Like m T T2) (i : Nat) : nameT T (m + i) = (nameT T2 i).sh m id := by
  unfold nameT; rw [h.eqN, (h.tok i).2.1]; split <;> rfl
theorem shE_0 {m i : Nat} {x : Ex} (h : x.at_ = (i : Int)) : shE m x = { x with at_ := ((m + i : Nat) : Int) } := by
  obtain ⟨k, n, nm, l, t, kd, a⟩ := x
  have h : a = (i : Int) := h
  have h2 : ¬ a < 0 := by omega
  simp only [shE, h2, if_false, Ex.mk.injEq, true_and]; omega
theorem shE_exM {m : Nat} : shE m exM = exM := rfl
theorem shE_atE {m i : Nat} {x : Ex} : atE (m + i) (shE m x) = shE m (atE i x) := by
  obtain ⟨k, n, nm, l, t, kd, a⟩ := x
  by_cases h : a < 0
  · have h2 : ¬ (i : Int) < 0 := by omega
    simp only [shE, atE, h, h2, if_true, if_false, Ex.mk.injEq, true_and]; omega
  have h2 : ¬ a + (m : Int) < 0 := by omega
  simp only [shE, atE, h, h2, if_true, if_false]
theorem shE_lf {m : Nat} {x : Ex} {a b : Int} : (shE m x).lf a b = shE m (x.lf a b) := by unfold shE Ex.lf; split <;> rfl
theorem shE_vec {m : Nat} {x : Ex} {b : Bool} {n : Int} : (shE m x).vec b n = shE m (x.vec b n) := by
  obtain ⟨kd, n', nm, l, t, kk, a⟩ := x
  by_cases h : a < 0 <;> simp [shE, Ex.vec, h]
theorem shE_opt {m : Nat} {x : Ex} : (shE m x).opt = shE m x.opt := by unfold shE Ex.opt; split <;> rfl
theorem shE_br {m : Nat} {x : Ex} {u : Bool} {n : Int} : (shE m x).br u n = shE m (x.br u n) := by
  obtain ⟨kd, n', nm, l, t, kk, a⟩ := x
  by_cases h : a < 0 <;> simp [shE, Ex.br, h]
theorem shE_nm {m : Nat} {x : Ex} {s : List UInt8} : (shE m x).nm s = shE m (x.nm s) := by unfold shE Ex.nm; split <;> rfl
theorem Like.head {m : Nat} {T T2 : List Tk} (h : Like m T T2) (u full : Bool) (i : Nat) : headT T u full (m + i) { ex0 with at_ := ((m + i : Nat) : Int) } = (headT T2 u full i { ex0 with at_ := (i : Int) }).sh m (shE m) := by
  cases u
  · rw [headT_s, headT_s, h.eqN]
    split
    · rfl
    rw [h.name]
    refine bind_sh fun a j hh => ?_
    show Pr.ok _ _ = Pr.ok _ _
    rw [shE_0 (i := i) rfl]; rfl
  rw [headT_u, headT_u, (h.tok i).1]
  split
  · rfl
  rw [h.num]
  refine bind_sh fun a j hh => ?_
  show Pr.ok _ _ = Pr.ok _ _
  rw [shE_0 (i := i) rfl]; rfl
theorem Like.rows {m : Nat} {T T2 : List Tk} (h : Like m T T2) {u : Bool} {i0 : Nat} {E E2 : Nat → Ex → Pr (List Ex)} (hE : ∀ i x, i0 ≤ i → i ≤ T2.length → E (m + i) (shE m x) = (E2 i x).sh m (List.map (shE m))) (hE2 : ∀ i x N j, E2 i x = .ok N j → i < j ∧ j ≤ T2.length) :
    ∀ (g g2 i k : Nat), i0 ≤ i → i ≤ T2.length → T2.length + 2 ≤ g + i → T2.length + 2 ≤ g2 + i → rowsT E T u g (m + i) k = (rowsT E2 T2 u g2 i k).sh m (fun r => (r.1.map (shE m), r.2))
  | 0, g2, i, k, h0, hi, hg, hg2 => by omega
  | g + 1, 0, i, k, h0, hi, hg, hg2 => by omega
  | g + 1, g2 + 1, i, k, h0, hi, hg, hg2 => by
    rw [rowsT_s, rowsT_s, h.head]
    refine bind_sh fun y i1 h1 => ?_
    obtain ⟨rfl, hi1⟩ := headT_le h1
    rw [h.want]
    refine bind_sh fun _ i2 h2 => ?_
    obtain ⟨rfl, hi2⟩ := wantT_le (by decide) h2
    rw [hE _ _ (by omega) (by omega)]
    refine bind_sh fun N j h3 => ?_
    obtain ⟨b1, b2⟩ := hE2 _ _ _ _ h3
    rw [h.eqT]
    split
    · rename_i hm
      have hm2 := isT_lt (by decide) hm
      rw [show m + j + 1 = m + (j + 1) by omega, Like.rows h hE hE2 g g2 (j + 1) (k + 1) (by omega) (by omega) (by omega) (by omega)]
      refine bind_sh fun r j2 h4 => ?_
      show Pr.ok (_, _) _ = Pr.ok (List.map _ (_ ++ _), _) _
      rw [List.map_append]
    rw [h.want]
    exact bind_sh fun _ j2 h4 => rfl
theorem Like.expr {m : Nat} {T T2 : List Tk} (h : Like m T T2) : ∀ (f f2 i : Nat) (x : Ex) (deep : Nat), i ≤ T2.length → T2.length + 2 ≤ f + i → T2.length + 2 ≤ f2 + i → exprT T f (m + i) (shE m x) deep = (exprT T2 f2 i x deep).sh m (List.map (shE m))
  | 0, f2, i, x, deep, hi, hf, hf2 => by omega
  | f + 1, 0, i, x, deep, hi, hf, hf2 => by omega
  | f + 1, f2 + 1, i, x, deep, hi, hf, hf2 => by
    rw [exprT_s, exprT_s, h.bgn, (h.tok i).2.1]
    split
    · rfl
    rename_i hb
    have hil : i < T2.length := tkA_kind (by decide) (bgn_kind (by simpa using hb))
    split
    · rfl
    split
    · show Pr.ok _ _ = Pr.ok _ _
      rw [shE_atE, shE_lf]; rfl
    split
    · rw [show m + i + 1 = m + (i + 1) by omega, h.want]
      refine bind_sh fun _ i1 h1 => ?_
      obtain ⟨rfl, hi1⟩ := wantT_le (by decide) h1
      rw [← shE_exM (m := m), Like.expr h f f2 _ _ _ (by omega) (by omega) (by omega)]
      refine bind_sh fun N i2 h2 => ?_
      obtain ⟨b1, b2⟩ := expr_lt h2
      rw [h.want]
      refine bind_sh fun _ i3 h3 => ?_
      rw [h.num]
      refine bind_sh fun n i4 h4 => ?_
      rw [h.want]
      refine bind_sh fun _ i5 h5 => ?_
      show Pr.ok _ _ = Pr.ok _ _
      rw [shE_atE, shE_vec]; rfl
    split
    · rw [show m + i + 1 = m + (i + 1) by omega, h.want]
      refine bind_sh fun _ i1 h1 => ?_
      obtain ⟨rfl, hi1⟩ := wantT_le (by decide) h1
      rw [← shE_exM (m := m), Like.expr h f f2 _ _ _ (by omega) (by omega) (by omega)]
      refine bind_sh fun N i2 h2 => ?_
      rw [h.want]
      refine bind_sh fun _ i3 h3 => ?_
      show Pr.ok _ _ = Pr.ok _ _
      rw [shE_atE, shE_opt]; rfl
    have hrow : ∀ (u : Bool), (((wantT T (m + i + 1) 3 [123]).bind fun _ j => rowsT (fun i x => exprT T f i x (deep + 1)) T u f j 0).bind fun r j => (.ok ((atE (m + i) (shE m x)).br u (r.2 : Nat) :: r.1) j : Pr (List Ex))) =
        (((wantT T2 (i + 1) 3 [123]).bind fun _ j => rowsT (fun i x => exprT T2 f2 i x (deep + 1)) T2 u f2 j 0).bind fun r j => (.ok ((atE i x).br u (r.2 : Nat) :: r.1) j : Pr (List Ex))).sh m (List.map (shE m)) := by
      intro u
      rw [show m + i + 1 = m + (i + 1) by omega, h.want]
      have := bind_sh (m := m) (g := id) (h := fun r : List Ex × Nat => (r.1.map (shE m), r.2)) (r := wantT T2 (i + 1) 3 [123]) (F := fun _ j => rowsT (fun i x => exprT T2 f2 i x (deep + 1)) T2 u f2 j 0) (F' := fun _ j => rowsT (fun i x => exprT T f i x (deep + 1)) T u f j 0) (fun _ i1 h1 => by
        obtain ⟨rfl, hi1⟩ := wantT_le (by decide) h1
        exact Like.rows h (i0 := i + 1 + 1) (fun i x h0 hi => Like.expr h f f2 i x _ hi (by omega) (by omega)) (fun i x N j hh => expr_lt hh) f f2 _ _ (Nat.le_refl _) (by omega) (by omega) (by omega))
      rw [this]
      refine bind_sh fun r j h2 => ?_
      show Pr.ok _ _ = Pr.ok _ _
      rw [shE_atE, shE_br]; rfl
    split
    · exact hrow true
    split
    · exact hrow false
    show Pr.ok _ _ = Pr.ok _ _
    rw [shE_atE, shE_nm]; rfl
def shD (m : Nat) (d : Df) : Df := ⟨d.name, d.at_ + m, d.ty.map (shE m)⟩
theorem Like.defs {m : Nat} {T T2 : List Tk} (h : Like m T T2) : ∀ (g g2 i k k2 : Nat), i ≤ T2.length → T2.length + 2 ≤ g + i → T2.length + 2 ≤ g2 + i → k2 ≤ k → k ≤ 256 → (∃ j, defsT T g (m + i) k = .bad 5 j ∧ ∀ D e, defsT T2 g2 i k2 = .ok D e → 256 < k + D.length) ∨ defsT T g (m + i) k = (defsT T2 g2 i k2).sh m (List.map (shD m))
  | 0, g2, i, k, k2, hi, hf, hf2, hk, hkm => by omega
  | g + 1, 0, i, k, k2, hi, hf, hf2, hk, hkm => by omega
  | g + 1, g2 + 1, i, k, k2, hi, hf, hf2, hk, hkm => by
    have hlen := h.len
    rw [defsT_s, defsT_s]
    by_cases hi2 : T2.length ≤ i
    · rw [if_pos (by omega), if_pos hi2]; exact .inr rfl
    rw [if_neg (by omega), if_neg hi2, h.eqT]
    by_cases hnm : k = 256 ∧ isT (tkA T2 i) 1 [116, 121, 112, 101] = true
    · rw [if_pos hnm]
      refine .inl ⟨_, rfl, fun D e hD => ?_⟩
      split at hD
      · cases hD
      obtain ⟨_, i1, h1, hD⟩ := bind_ok hD
      obtain ⟨_, i1, h1, hD⟩ := bind_ok hD
      obtain ⟨_, i1, h1, hD⟩ := bind_ok hD
      obtain ⟨_, i1, h1, hD⟩ := bind_ok hD
      obtain ⟨_, i1, h1, hD⟩ := bind_ok hD
      obtain ⟨_, i1, h1, hD⟩ := bind_ok hD
      cases hD
      rw [List.length_cons]; omega
    rw [if_neg hnm, if_neg (fun hh => hnm ⟨by omega, hh.2⟩), h.want]
    rcases hw : wantT T2 i 1 [116, 121, 112, 101] with ⟨_, i1⟩ | ⟨e, j⟩
    · obtain ⟨rfl, hi1⟩ := wantT_le (by decide) hw
      simp only [Pr.sh, Pr.bind_ok]
      rw [show m + (i + 1) = m + (i + 1) from rfl, h.name]
      rcases hn : nameT T2 (i + 1) with ⟨sn, i2⟩ | ⟨e, j⟩
      · obtain ⟨g2', -, rfl⟩ := nameT_ok hn
        have hi2' : i + 1 < T2.length := by simp only [nmT, Bool.and_eq_true, decide_eq_true_eq] at g2'; exact tkA_kind (by decide) g2'.1
        simp only [Pr.sh, Pr.bind_ok]
        rw [h.want]
        rcases he : wantT T2 (i + 1 + 1) 3 [61] with ⟨_, i3⟩ | ⟨e, j⟩
        · obtain ⟨rfl, hi3⟩ := wantT_le (by decide) he
          simp only [Pr.sh, Pr.bind_ok]
          have hx := h.expr (T.length + 2) (T2.length + 2) (i + 1 + 1 + 1) exM 0 (by omega) (by omega) (by omega)
          rw [shE_exM] at hx
          rw [hx]
          rcases hN : exprT T2 (T2.length + 2) (i + 1 + 1 + 1) exM 0 with ⟨N, j⟩ | ⟨e, j⟩
          · obtain ⟨b1, b2⟩ := expr_lt hN
            simp only [Pr.sh, Pr.bind_ok]
            rw [h.want]
            rcases hs : wantT T2 j 3 [59] with ⟨_, i5⟩ | ⟨e, j⟩
            · obtain ⟨rfl, hi5⟩ := wantT_le (by decide) hs
              simp only [Pr.sh, Pr.bind_ok]
              rcases Like.defs h g g2 (j + 1) (k + 1) (k2 + 1) (by omega) (by omega) (by omega) (by omega) (by
                rcases Nat.lt_or_ge k 256 with h7 | h7
                · exact h7
                exact absurd ⟨by omega, (wantT_ok hw).1⟩ hnm) with ⟨q, hq, hbig⟩ | hq
              · refine .inl ⟨q, by rw [hq]; rfl, fun D e hD => ?_⟩
                obtain ⟨D', e', h6, hD⟩ := bind_ok hD
                cases hD
                have := hbig _ _ h6
                rw [List.length_cons]; omega
              refine .inr ?_
              rw [hq]
              refine bind_sh fun D q hD => ?_
              show Pr.ok (_ :: _) _ = Pr.ok (_ :: _) _
              congr 2
              simp only [shD, id, Df.mk.injEq, true_and, and_true]
              omega
            exact .inr rfl
          exact .inr rfl
        exact .inr rfl
      exact .inr rfl
    exact .inr rfl
theorem bind_pre {α β : Type} {n : Nat} {r r2 : Pr α} {F F2 : α → Nat → Pr β} (hne : ∀ e, r2.bind F2 ≠ .bad e n) (hr : (∀ e, r2 ≠ .bad e n) → r = r2) (hF : ∀ a j, r2 = .ok a j → (∀ e, F2 a j ≠ .bad e n) → F a j = F2 a j) : r.bind F = r2.bind F2 := by
  cases r2 with
  | ok a i => rw [hr (fun e h => by cases h)]; exact hF a i rfl hne
  | bad e i => rw [hr (fun e' h => hne e' (by injection h with h1 h2; rw [h1, h2]; rfl))]; rfl
theorem bind_pre2 {α β γ : Type} {n : Nat} {r r2 : Pr α} {F : α → Nat → Pr γ} {F2 : α → Nat → Pr β} {G : α → Nat → Pr γ} (hne : ∀ e, r2.bind F2 ≠ .bad e n) (hr : (∀ e, r2 ≠ .bad e n) → r = r2) (hF : ∀ a j, r2 = .ok a j → (∀ e, F2 a j ≠ .bad e n) → F a j = G a j) : r.bind F = r2.bind G := by
  cases r2 with
  | ok a i => rw [hr (fun e h => by cases h)]; exact hF a i rfl hne
  | bad e i => rw [hr (fun e' h => hne e' (by injection h with h1 h2; rw [h1, h2]; rfl))]; rfl
structure Pre (T T2 : List Tk) : Prop where
  le : T2.length ≤ T.length
  tok : ∀ i, i < T2.length → tkA T i = tkA T2 i
theorem Pre.want {T T2 : List Tk} (h : Pre T T2) {i k : Nat} {s : List UInt8} (hk : 1 ≤ k) (hi : i ≤ T2.length) (hne : ∀ e, wantT T2 i k s ≠ .bad e T2.length) : wantT T i k s = wantT T2 i k s := by
  rcases Nat.lt_or_ge i T2.length with hl | hl
  · unfold wantT; rw [h.tok i hl]
  have : i = T2.length := by omega
  subst this
  refine absurd ?_ (hne 60)
  unfold wantT
  rw [if_neg (fun hh => by have := isT_lt hk hh; omega)]
theorem Pre.num {T T2 : List Tk} (h : Pre T T2) {i : Nat} (hi : i ≤ T2.length) (hne : ∀ e, numT T2 i ≠ .bad e T2.length) : numT T i = numT T2 i := by
  rcases Nat.lt_or_ge i T2.length with hl | hl
  · unfold numT; rw [h.tok i hl]
  have : i = T2.length := by omega
  subst this
  refine absurd ?_ (hne 60)
  unfold numT
  rw [if_neg (fun hh => by have := tkA_kind (by decide) hh; omega)]
theorem nmT_lt {T : List Tk} {i : Nat} (h : nmT (tkA T i) = true) : i < T.length := by
  simp only [nmT, Bool.and_eq_true, decide_eq_true_eq] at h; exact tkA_kind (by decide) h.1
theorem Pre.name {T T2 : List Tk} (h : Pre T T2) {i : Nat} (hi : i ≤ T2.length) (hne : ∀ e, nameT T2 i ≠ .bad e T2.length) : nameT T i = nameT T2 i := by
  rcases Nat.lt_or_ge i T2.length with hl | hl
  · unfold nameT; rw [h.tok i hl]
  have : i = T2.length := by omega
  subst this
  refine absurd ?_ (hne 60)
  unfold nameT
  rw [if_neg (fun hh => by have := nmT_lt hh; omega)]
theorem Pre.head {T T2 : List Tk} (h : Pre T T2) {u full : Bool} {i : Nat} {x : Ex} (hi : i ≤ T2.length) (hne : ∀ e, headT T2 u full i x ≠ .bad e T2.length) : headT T u full i x = headT T2 u full i x := by
  rcases Nat.lt_or_ge i T2.length with hl | hl
  · cases u
    · rw [headT_s, headT_s]; unfold nameT; rw [h.tok i hl]
    rw [headT_u, headT_u]; unfold numT; rw [h.tok i hl]
  have : i = T2.length := by omega
  subst this
  cases u
  · refine absurd ?_ (hne 60)
    rw [headT_s, if_neg (fun hh => by have := nmT_lt hh.2; omega)]
    unfold nameT
    rw [if_neg (fun hh => by have := nmT_lt hh; omega)]
    rfl
  refine absurd ?_ (hne 60)
  rw [headT_u, if_neg (fun hh => by have := tkA_kind (by decide) hh.2; omega)]
  unfold numT
  rw [if_neg (fun hh => by have := tkA_kind (by decide) hh; omega)]
  rfl
theorem Pre.rows {T T2 : List Tk} (h : Pre T T2) {u : Bool} {i0 : Nat} {E E2 : Nat → Ex → Pr (List Ex)} (hE : ∀ i x, i0 ≤ i → i ≤ T2.length → (∀ e, E2 i x ≠ .bad e T2.length) → E i x = E2 i x) (hE2 : ∀ i x N j, E2 i x = .ok N j → i < j ∧ j ≤ T2.length) :
    ∀ (g g2 i k : Nat), i0 ≤ i → i ≤ T2.length → T.length + 2 ≤ g + i → T2.length + 2 ≤ g2 + i → (∀ e, rowsT E2 T2 u g2 i k ≠ .bad e T2.length) → rowsT E T u g i k = rowsT E2 T2 u g2 i k
  | 0, g2, i, k, h0, hi, hg, hg2, hne => by have := h.le; omega
  | g + 1, 0, i, k, h0, hi, hg, hg2, hne => by omega
  | g + 1, g2 + 1, i, k, h0, hi, hg, hg2, hne => by
    rw [rowsT_s] at hne
    rw [rowsT_s, rowsT_s]
    refine bind_pre hne (fun hn => h.head hi hn) fun y i1 h1 hne => ?_
    obtain ⟨rfl, hi1⟩ := headT_le h1
    refine bind_pre hne (fun hn => h.want (by decide) (by omega) hn) fun _ i2 h2 hne => ?_
    obtain ⟨rfl, hi2⟩ := wantT_le (by decide) h2
    refine bind_pre hne (fun hn => hE _ _ (by omega) (by omega) hn) fun N j h3 hne => ?_
    obtain ⟨b1, b2⟩ := hE2 _ _ _ _ h3
    have hjl : j < T2.length := by
      rcases Nat.lt_or_ge j T2.length with hl | hl
      · exact hl
      exfalso
      have hj : j = T2.length := by omega
      subst hj
      have hf : ∀ {k s}, 1 ≤ k → ¬ isT (tkA T2 T2.length) k s = true := fun hk hh => by have := isT_lt hk hh; omega
      rw [if_neg (hf (by decide))] at hne
      refine hne 60 ?_
      unfold wantT
      rw [if_neg (hf (by decide))]
      rfl
    rw [h.tok j hjl]
    split
    · rename_i hm
      rw [if_pos hm] at hne
      exact bind_pre hne (fun hn => Pre.rows h hE hE2 g g2 (j + 1) (k + 1) (by omega) (by omega) (by omega) (by omega) hn) fun r j2 h4 hne => rfl
    rename_i hm
    rw [if_neg hm] at hne
    exact bind_pre hne (fun hn => h.want (by decide) b2 hn) fun _ j2 h4 hne => rfl
theorem Pre.expr {T T2 : List Tk} (h : Pre T T2) : ∀ (f f2 i : Nat) (x : Ex) (deep : Nat), i ≤ T2.length → T.length + 2 ≤ f + i → T2.length + 2 ≤ f2 + i → (∀ e, exprT T2 f2 i x deep ≠ .bad e T2.length) → exprT T f i x deep = exprT T2 f2 i x deep
  | 0, f2, i, x, deep, hi, hf, hf2, hne => by have := h.le; omega
  | f + 1, 0, i, x, deep, hi, hf, hf2, hne => by omega
  | f + 1, f2 + 1, i, x, deep, hi, hf, hf2, hne => by
    rw [exprT_s] at hne
    rw [exprT_s, exprT_s]
    have hil : i < T2.length := by
      rcases Nat.lt_or_ge i T2.length with hl | hl
      · exact hl
      exfalso
      have hj : i = T2.length := by omega
      subst hj
      refine hne 60 ?_
      rw [if_pos]
      cases hb : bgnT (tkA T2 T2.length) with
      | false => rfl
      | true => have := tkA_kind (T := T2) (by decide) (bgn_kind hb); omega
    rw [h.tok i hil]
    split
    · rfl
    rename_i hb
    rw [if_neg hb] at hne
    split
    · rfl
    rename_i hd
    rw [if_neg hd] at hne
    split
    · rfl
    rename_i hl
    rw [hl] at hne
    simp only at hne
    split
    · rename_i hv
      rw [if_pos hv] at hne
      refine bind_pre hne (fun hn => h.want (by decide) (by omega) hn) fun _ i1 h1 hne => ?_
      obtain ⟨rfl, hi1⟩ := wantT_le (by decide) h1
      refine bind_pre hne (fun hn => Pre.expr h f f2 _ _ _ (by omega) (by omega) (by omega) hn) fun N i2 h2 hne => ?_
      obtain ⟨b1, b2⟩ := expr_lt h2
      refine bind_pre hne (fun hn => h.want (by decide) (by omega) hn) fun _ i3 h3 hne => ?_
      obtain ⟨rfl, hi3⟩ := wantT_le (by decide) h3
      refine bind_pre hne (fun hn => h.num (by omega) hn) fun n i4 h4 hne => ?_
      obtain ⟨g4, -, rfl⟩ := numT_ok h4
      have hi4 := tkA_kind (by decide) g4
      exact bind_pre hne (fun hn => h.want (by decide) (by omega) hn) fun _ i5 h5 hne => rfl
    rename_i hv
    rw [if_neg hv] at hne
    split
    · rename_i ho
      rw [if_pos ho] at hne
      refine bind_pre hne (fun hn => h.want (by decide) (by omega) hn) fun _ i1 h1 hne => ?_
      obtain ⟨rfl, hi1⟩ := wantT_le (by decide) h1
      refine bind_pre hne (fun hn => Pre.expr h f f2 _ _ _ (by omega) (by omega) (by omega) hn) fun N i2 h2 hne => ?_
      obtain ⟨b1, b2⟩ := expr_lt h2
      exact bind_pre hne (fun hn => h.want (by decide) (by omega) hn) fun _ i3 h3 hne => rfl
    rename_i ho
    rw [if_neg ho] at hne
    have hrow : ∀ (u : Bool), (∀ e, (((wantT T2 (i + 1) 3 [123]).bind fun _ j => rowsT (fun i x => exprT T2 f2 i x (deep + 1)) T2 u f2 j 0).bind fun r j => (.ok ((atE i x).br u (r.2 : Nat) :: r.1) j : Pr (List Ex))) ≠ .bad e T2.length) → (((wantT T (i + 1) 3 [123]).bind fun _ j => rowsT (fun i x => exprT T f i x (deep + 1)) T u f j 0).bind fun r j => (.ok ((atE i x).br u (r.2 : Nat) :: r.1) j : Pr (List Ex))) =
        (((wantT T2 (i + 1) 3 [123]).bind fun _ j => rowsT (fun i x => exprT T2 f2 i x (deep + 1)) T2 u f2 j 0).bind fun r j => (.ok ((atE i x).br u (r.2 : Nat) :: r.1) j : Pr (List Ex))) := by
      intro u hne
      refine bind_pre hne (fun hn => ?_) fun r j h2 hne => rfl
      refine bind_pre hn (fun hn => h.want (by decide) (by omega) hn) fun _ i1 h1 hne => ?_
      obtain ⟨rfl, hi1⟩ := wantT_le (by decide) h1
      exact Pre.rows h (i0 := i + 1 + 1) (fun i x h0 hi hn => Pre.expr h f f2 i x _ hi (by omega) (by omega) hn) (fun i x N j hh => expr_lt hh) f f2 _ _ (Nat.le_refl _) (by omega) (by omega) (by omega) hne
    split
    · rename_i hu
      rw [if_pos hu] at hne
      exact hrow true hne
    rename_i hu
    rw [if_neg hu] at hne
    split
    · rename_i hs
      rw [if_pos hs] at hne
      exact hrow false hne
    rfl
theorem bind_congr' {α β : Type} {r : Pr α} {F F2 : α → Nat → Pr β} (hF : ∀ a j, r = .ok a j → F a j = F2 a j) : r.bind F = r.bind F2 := by
  cases r with
  | ok a i => exact hF a i rfl
  | bad e i => rfl
theorem defs_fuel {T : List Tk} : ∀ (g g2 i k : Nat), i ≤ T.length → T.length + 2 ≤ g + i → T.length + 2 ≤ g2 + i → defsT T g i k = defsT T g2 i k
  | 0, g2, i, k, hi, hg, hg2 => by omega
  | g + 1, 0, i, k, hi, hg, hg2 => by omega
  | g + 1, g2 + 1, i, k, hi, hg, hg2 => by
    rw [defsT_s, defsT_s]
    split
    · rfl
    split
    · rfl
    refine bind_congr' fun _ i1 h1 => ?_
    obtain ⟨rfl, hi1⟩ := wantT_le (by decide) h1
    refine bind_congr' fun s i2 h2 => ?_
    obtain ⟨g2', -, rfl⟩ := nameT_ok h2
    have := nmT_lt g2'
    refine bind_congr' fun _ i3 h3 => ?_
    obtain ⟨rfl, hi3⟩ := wantT_le (by decide) h3
    refine bind_congr' fun N j h4 => ?_
    obtain ⟨b1, b2⟩ := expr_lt h4
    refine bind_congr' fun _ i5 h5 => ?_
    obtain ⟨rfl, hi5⟩ := wantT_le (by decide) h5
    rw [defs_fuel g g2 (j + 1) (k + 1) (by omega) (by omega) (by omega)]
theorem Pr.bind_assoc {α β γ : Type} {r : Pr α} {F : α → Nat → Pr β} {G : β → Nat → Pr γ} : (r.bind F).bind G = r.bind fun a j => (F a j).bind G := by cases r <;> rfl
theorem Pre.defs {T T2 : List Tk} (h : Pre T T2) : ∀ (g g2 i k : Nat), i ≤ T2.length → T.length + 2 ≤ g + i → T2.length + 2 ≤ g2 + i → (∀ e, defsT T2 g2 i k ≠ .bad e T2.length) →
    defsT T g i k = (defsT T2 g2 i k).bind fun D _ => (defsT T (T.length + 2) T2.length (k + D.length)).bind fun D' j => .ok (D ++ D') j
  | 0, g2, i, k, hi, hg, hg2, hne => by have := h.le; omega
  | g + 1, 0, i, k, hi, hg, hg2, hne => by omega
  | g + 1, g2 + 1, i, k, hi, hg, hg2, hne => by
    rw [defsT_s (T := T2)] at hne
    rw [defsT_s (T := T2)]
    by_cases hi2 : T2.length ≤ i
    · have hie : i = T2.length := by omega
      rw [if_pos hi2, hie, defs_fuel (g + 1) (T.length + 2) T2.length k h.le (by omega) (by omega), Pr.bind_ok]
      show _ = (defsT T (T.length + 2) T2.length (k + 0)).bind fun D' j => .ok ([] ++ D') j
      rw [Nat.add_zero]
      cases defsT T (T.length + 2) T2.length k <;> rfl
    have hlt : i < T2.length := by omega
    have hle := h.le
    rw [if_neg hi2] at hne ⊢
    rw [defsT_s, if_neg (by omega), h.tok i hlt]
    by_cases hnm : k = 256 ∧ isT (tkA T2 i) 1 [116, 121, 112, 101] = true
    · rw [if_pos hnm, if_pos hnm]; rfl
    rw [if_neg hnm] at hne ⊢
    rw [if_neg hnm]
    simp only [Pr.bind_assoc]
    refine bind_pre2 hne (fun hn => h.want (by decide) (by omega) hn) fun _ i1 h1 hne => ?_
    obtain ⟨rfl, hi1⟩ := wantT_le (by decide) h1
    refine bind_pre2 hne (fun hn => h.name (by omega) hn) fun s i2 h2 hne => ?_
    obtain ⟨g2', -, rfl⟩ := nameT_ok h2
    have := nmT_lt g2'
    refine bind_pre2 hne (fun hn => h.want (by decide) (by omega) hn) fun _ i3 h3 hne => ?_
    obtain ⟨rfl, hi3⟩ := wantT_le (by decide) h3
    refine bind_pre2 hne (fun hn => h.expr _ _ _ _ _ (by omega) (by omega) (by omega) hn) fun N j h4 hne => ?_
    obtain ⟨b1, b2⟩ := expr_lt h4
    refine bind_pre2 hne (fun hn => h.want (by decide) (by omega) hn) fun _ i5 h5 hne => ?_
    obtain ⟨rfl, hi5⟩ := wantT_le (by decide) h5
    rw [Pre.defs h g g2 (j + 1) (k + 1) (by omega) (by omega) (by omega) (fun e he => hne e (by rw [he]; rfl))]
    rw [Pr.bind_assoc]
    refine bind_congr' fun D q hD => ?_
    simp only [Pr.bind_assoc, Pr.bind_ok, List.length_cons]
    rw [show k + 1 + D.length = k + (D.length + 1) by omega]
    refine bind_congr' fun D' q hD' => rfl

end Go.Proofs.Ytpbflfgigfdohaa

set_option linter.unusedSimpArgs false
set_option linter.unusedVariables false
set_option maxRecDepth 100000
namespace Go.Proofs.Ytpbflfgigfdohaa
open Go Go.Vc Go.RowKit Go.Proofs

def bareE (x : Ex) : Ex := { x with at_ := 0 }
def bareD (d : Df) : Df := ⟨d.name, 0, d.ty.map bareE⟩
end Go.Proofs.Ytpbflfgigfdohaa

set_option linter.unusedSimpArgs false
set_option linter.unusedVariables false
set_option maxRecDepth 100000
namespace Go.Proofs.Ytpbflfgigfdohaa
open Go Go.Vc Go.RowKit Go.Proofs

/-- the first k without places -/
def BareTo (D E : List Df) (k : Nat) : Prop := E.length = D.length ∧ (∀ i, i < k → E.getD i df0 = bareD (D.getD i df0)) ∧ ∀ i, k ≤ i → E.getD i df0 = D.getD i df0
def BareIn (D E : List Df) (k j : Nat) : Prop := E.length = D.length ∧ (∀ i, i < k → E.getD i df0 = bareD (D.getD i df0)) ∧ (∀ i, k < i → E.getD i df0 = D.getD i df0) ∧ E.getD k df0 = ⟨(D.getD k df0).name, 0, ((tyD D k).take j).map bareE ++ (tyD D k).drop j⟩
theorem BareIn.ty {D E : List Df} {k j : Nat} (h : BareIn D E k j) : tyD E k = ((tyD D k).take j).map bareE ++ (tyD D k).drop j := by
  rw [tyD, h.2.2.2]
theorem BareIn.len {D E : List Df} {k j : Nat} (h : BareIn D E k j) (hj : j ≤ (tyD D k).length) : (tyD E k).length = (tyD D k).length := by
  rw [h.ty, List.length_append, List.length_map, List.length_take, List.length_drop]; omega
theorem BareIn.step {D E : List Df} {k j : Nat} (h : BareIn D E k j) (hk : k < D.length) (hj : j < (tyD D k).length) (x : Ex) (hx : (tyD E k)[j]? = some x) : BareIn D (setE E k j { x with at_ := 0 }) k (j + 1) := by
  obtain ⟨h1, h2, h3, h4⟩ := h
  have hE : tyD E k = ((tyD D k).take j).map bareE ++ (tyD D k).drop j := by rw [tyD, h4]
  have hx2 : x = (tyD D k)[j] := by
    rw [hE, List.getElem?_append_right (by simp; omega)] at hx
    simp only [List.length_map, List.length_take, Nat.min_eq_left (Nat.le_of_lt hj), Nat.sub_self, List.getElem?_drop, Nat.add_zero, List.getElem?_eq_getElem hj, Option.some.injEq] at hx
    exact hx.symm
  refine ⟨by rw [setE_len, h1], fun i hi => ?_, fun i hi => ?_, ?_⟩
  · rw [setE_at, if_neg (by omega)]; exact h2 i hi
  · rw [setE_at, if_neg (by omega)]; exact h3 i hi
  rw [setE_at, if_pos ⟨rfl, by omega⟩, hE, h4]
  simp only [Df.mk.injEq, true_and]
  rw [List.set_append_right _ _ (by simp; omega)]
  simp only [List.length_map, List.length_take, Nat.min_eq_left (Nat.le_of_lt hj), Nat.sub_self]
  rw [← List.getElem_cons_drop hj, List.set_cons_zero, List.take_add_one, List.getElem?_eq_getElem hj, List.map_append, List.append_assoc, hx2]
  rfl
theorem BareIn.done {D E : List Df} {k : Nat} (h : BareIn D E k (tyD D k).length) : BareTo D E (k + 1) := by
  obtain ⟨h1, h2, h3, h4⟩ := h
  refine ⟨h1, fun i hi => ?_, fun i hi => h3 i (by omega)⟩
  rcases Nat.lt_or_ge i k with hl | hl
  · exact h2 i hl
  obtain rfl : i = k := by omega
  rw [h4, List.take_length, List.drop_length, List.append_nil]; rfl
theorem DOk.tyD {D : List Df} (h : DOk D) {k : Nat} (hk : k < D.length) : (tyD D k).length * 72 ≤ 140737488351232 := by
  rw [tyD_at hk]; exact h.ty _ (List.getElem_mem hk)
end Go.Proofs.Ytpbflfgigfdohaa

set_option linter.unusedSimpArgs false
set_option linter.unusedVariables false
set_option maxRecDepth 100000
namespace Go.Proofs.Ytpbflfgigfdohaa
open Go Go.Vc Go.RowKit Go.Proofs
/-- blanks and remarks; does a remark stand open at the end? -/
def gapS : Bool → List UInt8 → Option Bool
  | rm, [] => some rm
  | true, c :: cs => gapS (!decide (c.toNat = 10)) cs
  | false, c :: cs => if c.toNat = 35 then gapS true cs else if blankB c then gapS false cs else none
theorem gap_skip (xs : List UInt8) (m : Nat) (hm : m ≤ xs.length) (j : Nat) (hj : j ≤ m) (rm : Bool) (h : gapS rm ((xs.take m).drop j) = some false) : cutL xs (if rm then runL nnlB xs j else j) = cutL xs m := by
  by_cases hl : j < m
  · have h3 : j < (xs.take m).length := by simp; omega
    have hx : j < xs.length := by omega
    have hd : (xs.take m).drop j = xs[j] :: (xs.take m).drop (j + 1) := by
      rw [← List.getElem_cons_drop h3]; simp
    have hc := cutL_eq xs j
    rw [dif_pos hx] at hc
    rw [hd] at h
    cases rm with
    | true =>
      rw [gapS] at h
      by_cases h10 : (xs[j]).toNat = 10
      · simp [h10] at h
        have ih := gap_skip xs m hm (j + 1) (by omega) false h
        rw [if_pos rfl, runL_stop hx (by simp [nnlB, h10]), hc, if_neg (by omega), if_pos (by simp [blankB, h10])]
        exact ih
      simp [h10] at h
      have ih := gap_skip xs m hm (j + 1) (by omega) true h
      rw [if_pos rfl, runL_go hx (by simp [nnlB, h10])]
      exact ih
    | false =>
      rw [gapS] at h
      rw [if_neg (by decide), hc]
      by_cases h35 : (xs[j]).toNat = 35
      · rw [if_pos h35] at h ⊢
        exact gap_skip xs m hm (j + 1) (by omega) true h
      rw [if_neg h35] at h ⊢
      by_cases hb : blankB xs[j] = true
      · rw [if_pos hb] at h ⊢
        exact gap_skip xs m hm (j + 1) (by omega) false h
      rw [if_neg hb] at h; cases h
  have : j = m := by omega
  subst this
  rw [List.drop_eq_nil_of_le (by simp; omega)] at h
  cases rm with
  | true => cases h
  | false => rfl
termination_by m - j
theorem take_get {xs zs : List UInt8} {a k : Nat} (hp : zs.take a = xs.take a) (hk : k < a) (hx : k < xs.length) (hz : k < zs.length) : zs[k] = xs[k] := by
  have h1 : (zs.take a)[k]? = (xs.take a)[k]? := by rw [hp]
  simpa [List.getElem?_take, hk, hx, hz] using h1
theorem runL_front {p : UInt8 → Bool} {xs zs : List UInt8} {a : Nat} (hp : zs.take a = xs.take a) (hx : a ≤ xs.length) (hz : a ≤ zs.length) (k : Nat) (hk : k ≤ a) (hr : runL p xs k ≤ a)
    (hs : zs.length = a ∨ (∃ h : a < zs.length, p zs[a] = false) ∨ runL p xs k < a) : runL p zs k = runL p xs k := by
  by_cases hka : k < a
  · have he := take_get hp hka (by omega) (by omega)
    cases hc : p xs[k] with
    | true =>
      rw [runL_go (by omega) hc] at hr hs ⊢
      rw [runL_go (xs := zs) (by omega) (by rw [he]; exact hc)]
      exact runL_front hp hx hz (k + 1) (by omega) hr hs
    | false => rw [runL_stop (xs := xs) (by omega) hc, runL_stop (xs := zs) (by omega) (by rw [he]; exact hc)]
  have hka : k = a := by omega
  subst hka
  have h1 := (runL_le (p := p) hx).1
  have h2 : runL p xs k = k := by omega
  rw [h2]
  rcases hs with hs | ⟨h, hs⟩ | hs
  · exact runL_end (by omega)
  · exact runL_stop h hs
  omega
termination_by a - k
theorem sub_front {xs zs : List UInt8} {a : Nat} (hp : zs.take a = xs.take a) (l h : Nat) (hh : h ≤ a) : sub zs l h = sub xs l h := by
  unfold sub
  have : ∀ ys : List UInt8, ys.take h = (ys.take a).take h := fun ys => by rw [List.take_take, Nat.min_eq_left hh]
  rw [this zs, this xs, hp]
theorem oneL_front {xs zs : List UInt8} {a : Nat} (hp : zs.take a = xs.take a) (hx : a ≤ xs.length) (hz : a ≤ zs.length) (hs : zs.length = a ∨ ∃ h : a < zs.length, goeB zs[a] = false) (k : Nat) (hk : k < a) (hk1 : k < xs.length) (hk2 : k < zs.length)
    (h0 : (oneL xs k hk1).1 = 0) (hf : (oneL xs k hk1).2.fin ≤ a) : oneL zs k hk2 = oneL xs k hk1 := by
  have he := take_get hp hk hk1 hk2
  have st : ∀ p : UInt8 → Bool, (∀ c : UInt8, goeB c = false → p c = false) → runL p xs k ≤ a → runL p zs k = runL p xs k := fun p hp32 hr =>
    runL_front hp hx hz k (by omega) hr (by rcases hs with hs | ⟨h, hs⟩; exact .inl hs; exact .inr (.inl ⟨h, hp32 _ hs⟩))
  unfold oneL at h0 hf ⊢
  rw [he]
  by_cases h1 : letB xs[k] = true
  · rw [if_pos h1] at h0 hf ⊢
    rw [if_pos h1]
    have hr : runL goeB xs k ≤ a := by split at hf <;> exact hf
    have hg := st goeB (fun _ h => h) hr
    rw [hg, sub_front hp _ _ hr]
  rw [if_neg h1] at h0 hf ⊢
  rw [if_neg h1]
  by_cases h2 : digB xs[k] = true
  · rw [if_pos h2] at h0 hf ⊢
    rw [if_pos h2]
    have hr : runL digB xs k ≤ a := hf
    have hg := st digB (by intro c hc; simp [goeB] at hc; exact hc.1.2) hr
    rw [hg, sub_front hp _ _ hr]
  rw [if_neg h2] at h0 hf ⊢
  rw [if_neg h2]
  by_cases h3 : markB xs[k] = true
  · rw [if_pos h3] at h0 hf ⊢
    rw [if_pos h3]
    have hr : k + 1 ≤ a := hf
    rw [sub_front hp _ _ hr]
  rw [if_neg h3] at h0; simp at h0


theorem oneL_in {xs : List UInt8} {k : Nat} {h : k < xs.length} (he : (oneL xs k h).1 = 0) : blankB xs[k] = false ∧ ¬ (xs[k]).toNat = 35 := by
  have h3 : letB xs[k] = true ∨ digB xs[k] = true ∨ markB xs[k] = true := by
    unfold oneL at he
    by_cases h1 : letB xs[k] = true
    · exact .inl h1
    by_cases h2 : digB xs[k] = true
    · exact .inr (.inl h2)
    by_cases h3 : markB xs[k] = true
    · exact .inr (.inr h3)
    rw [if_neg h1, if_neg h2, if_neg h3] at he; cases he
  generalize xs[k] = c at h3
  rw [mark_or] at h3
  simp only [letB, digB, blankB, Bool.and_eq_true, Bool.or_eq_true, decide_eq_true_eq, Bool.or_eq_false_iff, decide_eq_false_iff_not] at h3 ⊢
  omega
/-- blanks, then a token's bytes: cut asx the token -/
theorem put_step (B F T Z : List UInt8) (t' : Tk) (hT : 0 < T.length) (h1 : gapS false F = some false) (hfr : ∀ h, oneL (T ++ Z) 0 h = (0, t')) (hf : t'.fin = T.length) :
    cutL (B ++ F ++ T ++ Z) B.length = (⟨t'.kind, t'.text, t'.n, B.length + F.length + t'.at_, B.length + F.length + T.length⟩ :: (cutL (B ++ F ++ T ++ Z) (B ++ F ++ T).length).1, (cutL (B ++ F ++ T ++ Z) (B ++ F ++ T).length).2) := by
  generalize hX : B ++ F ++ T ++ Z = X
  have hXl : X.length = B.length + F.length + T.length + Z.length := by subst hX; simp; omega
  have e1 : (X.take (B.length + F.length)).drop B.length = F := by
    subst hX
    rw [show B ++ F ++ T ++ Z = (B ++ F) ++ (T ++ Z) by simp, ← List.length_append, List.take_left, List.drop_left]
  have s1 := gap_skip X (B.length + F.length) (by omega) B.length (by omega) false (by rw [e1]; exact h1)
  rw [if_neg (by decide)] at s1
  have hdr : X.drop (B.length + F.length) = T ++ Z := by
    subst hX
    rw [show B ++ F ++ T ++ Z = (B ++ F) ++ (T ++ Z) by simp, ← List.length_append, List.drop_left]
  have hp : B.length + F.length + 0 < X.length := by omega
  have hq : 0 < (X.drop (B.length + F.length)).length := by simp; omega
  have hsh := oneL_shift X (B.length + F.length) 0 hp hq
  have hq2 : oneL (X.drop (B.length + F.length)) 0 hq = (0, t') := by
    have : ∀ (Y : List UInt8) (h : 0 < Y.length), Y = T ++ Z → oneL Y 0 h = (0, t') := by rintro Y h rfl; exact hfr h
    exact this _ _ hdr
  rw [hq2] at hsh
  have hs2 := hsh.2 rfl
  have hone : oneL X (B.length + F.length) (by omega) = (0, shiftT (B.length + F.length) t') := Prod.ext hsh.1 hs2
  obtain ⟨hbl, h35⟩ := oneL_in (by rw [hone])
  have hc := cutL_eq X (B.length + F.length)
  rw [dif_pos (by omega), if_neg h35, if_neg (by simp [hbl]), dif_pos (by rw [hone]), hone] at hc
  have hfin : (shiftT (B.length + F.length) t').fin = B.length + F.length + T.length := by show B.length + F.length + t'.fin = _; rw [hf]
  simp only [hfin] at hc
  rw [s1, hc, show (B ++ F ++ T).length = B.length + F.length + T.length by simp; omega]
  congr 1
  show Tk.mk _ _ _ _ _ :: _ = _
  congr 2
def Stops (Z : List UInt8) : Prop := Z = [] ∨ ∃ c cs, Z = c :: cs ∧ goeB c = false
theorem tok_front {T Z : List UInt8} {t' : Tk} {hT : 0 < T.length} (ho : oneL T 0 hT = (0, t')) (hf : t'.fin = T.length) (hZ : Stops Z) : ∀ h, oneL (T ++ Z) 0 h = (0, t') := by
  intro h
  have := oneL_front (xs := T) (zs := T ++ Z) (a := T.length) (by rw [List.take_left, List.take_length]) (Nat.le_refl _) (by simp) (by
    rcases hZ with rfl | ⟨c, cs, rfl, hg⟩
    · exact .inl (by simp)
    exact .inr ⟨by simp, by simp [hg]⟩) 0 hT hT h (by rw [ho]) (by rw [ho]; exact Nat.le_of_eq hf)
  rw [this, ho]
def tkey (t : Tk) : Nat × List UInt8 × Nat := (t.kind, t.text, t.n)
end Go.Proofs.Ytpbflfgigfdohaa

set_option linter.unusedSimpArgs false
set_option linter.unusedVariables false
set_option maxRecDepth 100000
namespace Go.Proofs.Ytpbflfgigfdohaa
open Go Go.Vc Go.RowKit Go.Proofs

inductive Sy where
  | schema | name | number | type | field | arm | fields | arms | shut
  | tk (k : Nat) (s : List UInt8)
structure Rd where
  at_ : Nat
  stk : List Sy
  opn : List Nat
  defs : Nat
inductive Ou where
  | er (e : Nat)
  | go (s : Rd)
def insS (t : Tk) : List Sy :=
  if t.text = [118, 101, 99, 116, 111, 114] ∨ t.text = [108, 105, 115, 116] then [.tk 3 [60], .type, .tk 3 [44], .number, .tk 3 [62], .shut]
  else if t.text = [111, 112, 116, 105, 111, 110] then [.tk 3 [60], .type, .tk 3 [62], .shut]
  else if t.text = [117, 110, 105, 111, 110] then [.tk 3 [123], .arm, .arms, .shut]
  else if t.text = [115, 116, 114, 117, 99, 116] then [.tk 3 [123], .field, .fields, .shut]
  else []
def isR (t : Tk) (s : List UInt8) : Bool := !decide (t.kind = 2) && decide (t.text = s)
def bgnR (t : Tk) : Bool := decide (t.kind = 1) && !decide (t.text = [116, 121, 112, 101])
def moreO (o : List Nat) : List Nat := (o.headD 0 + 1) :: o.tail
def stepF (T : List Tk) (i : Nat) (y : Sy) (S : List Sy) (o : List Nat) (d : Nat) : Ou :=
  match y with
  | .shut => .go ⟨i, S, o.tail, d⟩
  | .schema => if i = T.length then .go ⟨i, S, o, d⟩ else if isR (tkA T i) [116, 121, 112, 101] = false then .er 60 else if 256 < d + 1 then .er 5 else .go ⟨i, .tk 1 [116, 121, 112, 101] :: .name :: .tk 3 [61] :: .type :: .tk 3 [59] :: .schema :: S, o, d + 1⟩
  | .type => if i = T.length then .er 60 else if bgnR (tkA T i) = false then .er 60 else if 16 < o.length then .er 61 else .go ⟨i + 1, insS (tkA T i) ++ S, if insS (tkA T i) = [] then o else 0 :: o, d⟩
  | .field => if i = T.length then .er 60 else if nmT (tkA T i) = false then .er 60 else if 64 < o.headD 0 + 1 then .er 5 else .go ⟨i, .name :: .tk 3 [58] :: .type :: S, moreO o, d⟩
  | .arm => if i = T.length then .er 60 else if (tkA T i).kind ≠ 2 then .er 60 else if 64 < o.headD 0 + 1 then .er 5 else .go ⟨i, .number :: .tk 3 [58] :: .type :: S, moreO o, d⟩
  | .fields => if i = T.length then .er 60 else if isR (tkA T i) [44] = true then .go ⟨i, .tk 3 [44] :: .field :: .fields :: S, o, d⟩ else .go ⟨i, .tk 3 [125] :: S, o, d⟩
  | .arms => if i = T.length then .er 60 else if isR (tkA T i) [44] = true then .go ⟨i, .tk 3 [44] :: .arm :: .arms :: S, o, d⟩ else .go ⟨i, .tk 3 [125] :: S, o, d⟩
  | .name => if i = T.length then .er 60 else if nmT (tkA T i) = false then .er 60 else .go ⟨i + 1, S, o, d⟩
  | .number => if i = T.length then .er 60 else if (tkA T i).kind ≠ 2 then .er 60 else .go ⟨i + 1, S, o, d⟩
  | .tk _ s => if i = T.length then .er 60 else if isR (tkA T i) s = false then .er 60 else .go ⟨i + 1, S, o, d⟩
def OkY : Sy → List Nat → Prop
  | .field, o => ∃ k o', o = k :: o' ∧ k ≤ 64
  | .arm, o => ∃ k o', o = k :: o' ∧ k ≤ 64
  | .shut, o => ∃ k o', o = k :: o'
  | .tk _ s, _ => s.head? ≠ some 40
  | _, _ => True
inductive Run (T : List Tk) : Rd → Nat → Nat → Nat → Prop
  | fin {i d : Nat} {o : List Nat} : Run T ⟨i, [], o, d⟩ 0 0 i
  | er {i d e : Nat} {y : Sy} {S : List Sy} {o : List Nat} (h : stepF T i y S o d = .er e) (hk : OkY y o) : Run T ⟨i, y :: S, o, d⟩ 1 e i
  | go {i d e k j : Nat} {y : Sy} {S : List Sy} {o : List Nat} {s : Rd} (h : stepF T i y S o d = .go s) (hr : Run T s k e j) (hk : OkY y o) : Run T ⟨i, y :: S, o, d⟩ (k + 1) e j
def Runs (T : List Tk) (s : Rd) (e j : Nat) : Prop := ∃ k, Run T s k e j
theorem Runs.step {T : List Tk} {i d e j : Nat} {y : Sy} {S : List Sy} {o : List Nat} {s : Rd} (h : stepF T i y S o d = .go s) (hr : Runs T s e j) (hy : OkY y o) : Runs T ⟨i, y :: S, o, d⟩ e j := by
  obtain ⟨k, hk⟩ := hr
  exact ⟨k + 1, .go h hk hy⟩
/-- what a parse says, the machine says -/
def Sim {α : Type} (T : List Tk) (r : Pr α) (s : Rd) (c : Nat → Rd) : Prop := match r with
  | .ok _ j => ∀ e q, Runs T (c j) e q → Runs T s e q
  | .bad e j => Runs T s e j
theorem Sim.bind {α β : Type} {T : List Tk} {r : Pr α} {F : α → Nat → Pr β} {s : Rd} {c c2 : Nat → Rd} (h : Sim T r s c) (hF : ∀ a j, r = .ok a j → Sim T (F a j) (c j) c2) : Sim T (r.bind F) s c2 := by
  cases r with
  | ok a j =>
    have h2 := hF a j rfl
    show Sim T (F a j) s c2
    cases hq : F a j with
    | ok b q => rw [hq] at h2; exact fun e p hp => h e p (h2 e p hp)
    | bad e q => rw [hq] at h2; exact h e q h2
  | bad e j => exact h
theorem Sim.go {α : Type} {T : List Tk} {r : Pr α} {i d : Nat} {y : Sy} {S : List Sy} {o : List Nat} {s : Rd} {c : Nat → Rd} (hs : stepF T i y S o d = .go s) (h : Sim T r s c) (hy : OkY y o := by trivial) : Sim T r ⟨i, y :: S, o, d⟩ c := by
  cases r with
  | ok b q => exact fun e p hp => Runs.step hs (h e p hp) hy
  | bad e q => exact Runs.step hs h hy
theorem Sim.er {α : Type} {T : List Tk} {i d e : Nat} {y : Sy} {S : List Sy} {o : List Nat} {c : Nat → Rd} (hs : stepF T i y S o d = .er e) (hy : OkY y o := by trivial) : Sim T (.bad e i : Pr α) ⟨i, y :: S, o, d⟩ c := ⟨1, .er hs hy⟩
theorem Sim.ok {α : Type} {T : List Tk} {a : α} {j : Nat} {s : Rd} {c : Nat → Rd} (h : c j = s) : Sim T (.ok a j) s c := fun e q hq => h ▸ hq
end Go.Proofs.Ytpbflfgigfdohaa

set_option linter.unusedSimpArgs false
set_option linter.unusedVariables false
set_option maxRecDepth 100000
namespace Go.Proofs.Ytpbflfgigfdohaa
open Go Go.Vc Go.RowKit Go.Proofs

def mk8 : List (List UInt8) := [[61], [59], [60], [62], [44], [58], [123], [125]]
def wt : Sy → Nat
  | .schema => 0
  | .shut => 0
  | .name => 1
  | .number => 1
  | .type => 1
  | .field => 3
  | .arm => 3
  | .fields => 1
  | .arms => 1
  | .tk _ _ => 1
def wtS : List Sy → Nat
  | [] => 0
  | y :: S => wt y + wtS S
def shuts : List Sy → Nat
  | [] => 0
  | .shut :: S => shuts S + 1
  | _ :: S => shuts S
def okS : Nat → List Sy → Prop
  | _, [] => True
  | _, .shut :: S => okS 5 S
  | _, .schema :: S => S = []
  | b, .fields :: S => 1 ≤ b ∧ (∃ S', S = .shut :: S') ∧ okS (b - 1) S
  | b, .arms :: S => 1 ≤ b ∧ (∃ S', S = .shut :: S') ∧ okS (b - 1) S
  | b, .field :: S => 3 ≤ b ∧ 0 < shuts S ∧ okS (b - 3) S
  | b, .arm :: S => 3 ≤ b ∧ 0 < shuts S ∧ okS (b - 3) S
  | b, .tk k s :: S => k = 3 ∧ s ∈ mk8 ∧ 1 ≤ b ∧ okS (b - 1) S
  | b, .name :: S => 1 ≤ b ∧ okS (b - 1) S
  | b, .number :: S => 1 ≤ b ∧ okS (b - 1) S
  | b, .type :: S => 1 ≤ b ∧ okS (b - 1) S
inductive Rch (T : List Tk) : Rd → Rd → Prop
  | refl {s : Rd} : Rch T s s
  | step {i d : Nat} {y : Sy} {S : List Sy} {o : List Nat} {s s2 : Rd} (h : stepF T i y S o d = .go s) (hy : OkY y o) (hn : ¬ (y = .schema ∧ i = T.length)) (hi : i ≤ T.length) (hr : Rch T s s2) : Rch T ⟨i, y :: S, o, d⟩ s2
theorem Rch.trans {T : List Tk} {a b c : Rd} (h : Rch T a b) (k : Rch T b c) : Rch T a c := by
  induction h with
  | refl => exact k
  | step h hy hn hi _ ih => exact .step h hy hn hi (ih k)
theorem tkA_app {T : List Tk} {t : Tk} {i : Nat} (h : i < T.length) : tkA (T ++ [t]) i = tkA T i := by
  rw [tkA, List.getD_eq_getElem?_getD, List.getElem?_append_left h, tkA, List.getD_eq_getElem?_getD]
theorem step_app {T : List Tk} {t : Tk} {i d : Nat} {y : Sy} {S : List Sy} {o : List Nat} {s : Rd} (h : stepF T i y S o d = .go s) (hn : ¬ (y = .schema ∧ i = T.length)) (hi : i ≤ T.length) : stepF (T ++ [t]) i y S o d = .go s := by
  by_cases he : i = T.length
  · cases y <;> simp only [stepF, if_pos he] at h <;> first | (cases h; done) | exact h | exact absurd ⟨rfl, he⟩ hn
  have hl : i < T.length := by omega
  have h1 : ¬ i = (T ++ [t]).length := by simp; omega
  cases y <;> simp only [stepF, if_neg he, if_neg h1, tkA_app hl] at h ⊢ <;> exact h
theorem Rch.app {T : List Tk} {t : Tk} {a b : Rd} (h : Rch T a b) : Rch (T ++ [t]) a b := by
  induction h with
  | refl => exact .refl
  | step h hy hn hi _ ih => exact .step (step_app h hn hi) hy (fun hh => by have := hh.2; simp at this; omega) (by simp; omega) ih
/-- a state at the end that something must follow -/
structure StkE (y : Sy) (S : List Sy) (o : List Nat) : Prop where
  pos : 0 < wt y
  ok : okS 5 (y :: S)
  sh : shuts (y :: S) = o.length
  len : o.length ≤ 17
  val : ∀ k ∈ o, k ≤ 64
theorem StkE.oky {y : Sy} {S : List Sy} {o : List Nat} (h : StkE y S o) : OkY y o := by
  obtain ⟨hp, hok, hsh, hln, hvl⟩ := h
  have h1 : 0 < shuts S → shuts S = o.length → ∃ k o', o = k :: o' ∧ k ≤ 64 := fun h1 h2 => by
    cases o with
    | nil => simp only [List.length_nil] at h2; omega
    | cons k o => exact ⟨k, o, rfl, hvl k (List.mem_cons_self ..)⟩
  cases y <;> simp only [wt] at hp <;> simp only [okS] at hok <;> simp only [shuts] at hsh <;> simp only [OkY]
  case field => exact h1 hok.2.1 hsh
  case arm => exact h1 hok.2.1 hsh
  case tk k s => obtain ⟨-, h, -⟩ := hok; simp only [mk8, List.mem_cons, List.not_mem_nil, or_false] at h; rcases h with rfl | rfl | rfl | rfl | rfl | rfl | rfl | rfl <;> decide
  all_goals omega
/-- .. at the end, with nothing that must follow, it is done; else it is stuck -/
theorem settle {T : List Tk} : ∀ (S : List Sy) (o : List Nat) (d : Nat), okS 5 S → shuts S = o.length → o.length ≤ 17 → (∀ k ∈ o, k ≤ 64) → Runs T ⟨T.length, S, o, d⟩ 0 T.length ∨ ∃ y S' o', StkE y S' o' ∧ wtS (y :: S') ≤ wtS S ∧ Rch T ⟨T.length, S, o, d⟩ ⟨T.length, y :: S', o', d⟩ ∧ Runs T ⟨T.length, S, o, d⟩ 60 T.length
  | [], o, d, _, _, _, _ => .inl ⟨0, .fin⟩
  | y :: S, o, d, hok, hsh, hln, hvl => by
    by_cases hp : 0 < wt y
    · refine .inr ⟨y, S, o, ⟨hp, hok, hsh, hln, hvl⟩, Nat.le_refl _, .refl, ?_⟩
      refine ⟨1, .er ?_ (StkE.oky ⟨hp, hok, hsh, hln, hvl⟩)⟩
      cases y <;> first | (simp [stepF]; done) | (simp only [wt] at hp; omega)
    cases y <;> simp only [wt] at hp <;> first | omega | skip
    · simp only [okS] at hok
      subst hok
      exact .inl ⟨1, .go (s := ⟨T.length, [], o, d⟩) (by simp [stepF]) .fin trivial⟩
    simp only [okS] at hok
    simp only [shuts] at hsh
    cases o with
    | nil => simp only [List.length_nil] at hsh; omega
    | cons k o =>
      have hst : stepF T T.length .shut S (k :: o) d = .go ⟨T.length, S, o, d⟩ := rfl
      rcases settle S o d hok (by simpa using hsh) (by simp only [List.length_cons] at hln; omega) (fun m hm => hvl m (List.mem_cons_of_mem _ hm)) with h | ⟨y, S', o', h1, h2, h3, h4⟩
      · exact .inl (Runs.step hst h ⟨_, _, rfl⟩)
      exact .inr ⟨y, S', o', h1, by simp only [wtS, wt] at h2 ⊢; omega, .step hst ⟨_, _, rfl⟩ (fun h => by cases h.1) (Nat.le_refl _) h3, Runs.step hst h4 ⟨_, _, rfl⟩⟩
end Go.Proofs.Ytpbflfgigfdohaa

set_option linter.unusedSimpArgs false
set_option linter.unusedVariables false
set_option maxRecDepth 100000
namespace Go.Proofs.Ytpbflfgigfdohaa
open Go Go.Vc Go.RowKit Go.Proofs

mutual
inductive Tr where
  | node (y : Ex) (ks : Trs)
inductive Trs where
  | nil
  | cons (t : Tr) (ts : Trs)
end
def Tr.top : Tr → Ex
  | .node y _ => y
def Trs.len : Trs → Nat
  | .nil => 0
  | .cons _ ts => ts.len + 1
mutual
def Tr.flat : Tr → List Ex
  | .node y ks => y :: ks.flat
def Trs.flat : Trs → List Ex
  | .nil => []
  | .cons t ts => t.flat ++ ts.flat
end
mutual
def Tr.wf (above : Int) (deep : Nat) : Tr → Prop
  | .node y ks => deep ≤ 16 ∧ manyB y = false ∧ rightB y above = true ∧ (ks.len : Int) = y.kids ∧ ks.wf y.kind (deep + 1)
def Trs.wf (above : Int) (deep : Nat) : Trs → Prop
  | .nil => True
  | .cons t ts => t.wf above deep ∧ ts.wf above deep
end
theorem chk_tr : ∀ (n : Nat) (L : List Ex), L.length ≤ n → ∀ (o : Opn) (S : List Opn) (k deep : Nat), 0 < o.left → o.deep = (deep : Int) → (chkE (o :: S) k L).2 = 0 →
    ∃ t rest, L = Tr.flat t ++ rest ∧ t.wf o.kind deep ∧ (chkE ({ o with left := o.left - 1 } :: S) (k + (Tr.flat t).length) rest).2 = 0 := by
  intro n
  induction n with
  | zero =>
    intro L hL o S k deep hl hd h
    have : L = [] := List.eq_nil_of_length_eq_zero (by omega)
    subst this
    rw [chkE_nil, if_pos (by simp [leftB, hl])] at h
    cases h
  | succ n ih =>
    intro L hL o S k deep hl hd h
    cases L with
    | nil =>
      rw [chkE_nil, if_pos (by simp [leftB, hl])] at h
      cases h
    | cons x xs =>
      rw [chkE_o (popZ_n (by omega))] at h
      by_cases h16 : 16 < o.deep
      · rw [if_pos h16] at h; cases h
      rw [if_neg h16] at h
      by_cases hm : manyB x = true
      · rw [if_pos hm] at h; cases h
      rw [if_neg hm] at h
      by_cases hr : rightB x o.kind = false
      · rw [if_pos hr] at h; cases h
      rw [if_neg hr] at h
      have hm : manyB x = false := by simpa using hm
      have hr : rightB x o.kind = true := by simpa using hr
      obtain ⟨hk0, hk1⟩ := rightB_kids hr hm
      -- the kids
      have many : ∀ (m : Nat) (M : List Ex), M.length ≤ n → ∀ (o2 : Opn) (S2 : List Opn) (k2 : Nat), o2.left = (m : Int) → o2.deep = ((deep + 1 : Nat) : Int) → (chkE (o2 :: S2) k2 M).2 = 0 →
          ∃ ts rest, M = Trs.flat ts ++ rest ∧ ts.wf o2.kind (deep + 1) ∧ ts.len = m ∧ (chkE ({ o2 with left := 0 } :: S2) (k2 + (Trs.flat ts).length) rest).2 = 0 := by
        intro m
        induction m with
        | zero =>
          intro M hM o2 S2 k2 h1 h2 h3
          refine ⟨.nil, M, rfl, trivial, rfl, ?_⟩
          have : ({ o2 with left := 0 } : Opn) = o2 := by obtain ⟨a, b, c⟩ := o2; simp only at h1; simp [h1]
          rw [this]; exact h3
        | succ m ihm =>
          intro M hM o2 S2 k2 h1 h2 h3
          obtain ⟨t, rest, rfl, g2, g3⟩ := ih M hM o2 S2 k2 (deep + 1) (by omega) h2 h3
          have hlen : rest.length ≤ n := by rw [List.length_append] at hM; omega
          obtain ⟨ts, rest2, rfl, e2, e3, e4⟩ := ihm rest hlen { o2 with left := o2.left - 1 } S2 _ (by simp only; omega) h2 g3
          exact ⟨.cons t ts, rest2, by simp [Trs.flat], ⟨g2, e2⟩, by simp only [Trs.len, e3], by simp only [Trs.flat, List.length_append]; rw [← Nat.add_assoc]; exact e4⟩
      obtain ⟨ts, rest, rfl, e2, e3, e4⟩ := many x.kids.toNat xs (by simpa using hL) ⟨x.kind, x.kids, o.deep + 1⟩ _ _ (by simp only; omega) (by simp only; omega) h
      refine ⟨.node x ts, rest, by simp [Tr.flat], ⟨by omega, hm, hr, by omega, e2⟩, ?_⟩
      rw [chkE_pz0] at e4
      simp only [Tr.flat, List.length_cons]
      rw [show k + ((Trs.flat ts).length + 1) = k + 1 + (Trs.flat ts).length by omega]
      exact e4
/-- what Check takes is a tree -/
theorem chkT_tr {l : List Ex} (h : (chkT l).2 = 0) : ∃ t : Tr, l = t.flat ∧ t.wf 0 0 := by
  obtain ⟨t, rest, h1, h2, h3⟩ := chk_tr l.length l (Nat.le_refl _) ⟨0, 1, 0⟩ [] 0 0 (by decide) rfl h
  have hr : rest = [] := by
    cases rest with
    | nil => rfl
    | cons x xs =>
      rw [chkE_z (by simp [popZ])] at h3
      cases h3
  subst hr
  exact ⟨t, by rw [h1, List.append_nil], h2⟩
abbrev Key := Nat × List UInt8 × Nat
def kN (s : List UInt8) : Key := (1, s, 0)
def kM (s : List UInt8) : Key := (3, s, 0)
def kD (n : Nat) : Key := (2, [], n)
def uWord (n : Int) : List UInt8 := if n = 1 then [117, 56] else if n = 2 then [117, 49, 54] else if n = 4 then [117, 51, 50] else [117, 54, 52]
def hdK (u : Bool) (y : Ex) : List Key := [if u then kD y.tag.toNat else kN y.label, kM [58]]
mutual
def Tr.keys : Tr → List Key
  | .node y ks =>
    if y.kind = 1 then [kN (uWord y.n)]
    else if y.kind = 2 then [kN [98, 111, 111, 108]]
    else if y.kind = 3 then [kN [118, 97, 114, 105, 110, 116]]
    else if y.kind = 9 then [kN y.name]
    else if y.kind = 4 ∨ y.kind = 5 then kN (if y.kind = 5 then [108, 105, 115, 116] else [118, 101, 99, 116, 111, 114]) :: kM [60] :: (ks.keys ++ [kM [44], kD y.n.toNat, kM [62]])
    else if y.kind = 6 then kN [111, 112, 116, 105, 111, 110] :: kM [60] :: (ks.keys ++ [kM [62]])
    else kN (if y.kind = 7 then [117, 110, 105, 111, 110] else [115, 116, 114, 117, 99, 116]) :: kM [123] :: (ks.rows (decide (y.kind = 7)) ++ [kM [125]])
/-- of types one behind the other -/
def Trs.keys : Trs → List Key
  | .nil => []
  | .cons t ts => t.keys ++ ts.keys
/-- of rows, a comma ahead of each but the first -/
def Trs.rows (u : Bool) : Trs → List Key
  | .nil => []
  | .cons t ts => hdK u t.top ++ t.keys ++ ts.more u
def Trs.more (u : Bool) : Trs → List Key
  | .nil => []
  | .cons t ts => kM [44] :: (hdK u t.top ++ t.keys ++ ts.more u)
end

end Go.Proofs.Ytpbflfgigfdohaa

set_option linter.unusedSimpArgs false
set_option linter.unusedVariables false
set_option maxRecDepth 100000
namespace Go.Proofs.Ytpbflfgigfdohaa
open Go Go.Vc Go.RowKit Go.Proofs

mutual
def Tr.idx (i a : Nat) : Tr → List Ex
  | .node y ks => { y with at_ := (a : Int) } :: (if y.kind = 7 ∨ y.kind = 8 then ks.idxR (i + 2) else ks.idxK (i + 2))
def Trs.idxK (i : Nat) : Trs → List Ex
  | .nil => []
  | .cons t ts => t.idx i i ++ ts.idxK (i + t.keys.length)
def Trs.idxR (i : Nat) : Trs → List Ex
  | .nil => []
  | .cons t ts => t.idx (i + 2) i ++ ts.idxR (i + 2 + t.keys.length + 1)
end
def AtK (T : List Tk) (i : Nat) (ks : List Key) : Prop := ∀ k (h : k < ks.length), tkey (tkA T (i + k)) = ks[k]
theorem AtK.cons {T : List Tk} {i : Nat} {a : Key} {ks : List Key} (h : AtK T i (a :: ks)) : tkey (tkA T i) = a ∧ AtK T (i + 1) ks :=
  ⟨h 0 (by simp), fun k hk => by have := h (k + 1) (by simpa using hk); rw [show i + 1 + k = i + (k + 1) by omega]; exact this⟩
theorem AtK.app {T : List Tk} {i : Nat} {a b : List Key} (h : AtK T i (a ++ b)) : AtK T i a ∧ AtK T (i + a.length) b :=
  ⟨fun k hk => by have := h k (by rw [List.length_append]; omega); rw [this, List.getElem_append_left hk], fun k hk => by
    have := h (a.length + k) (by rw [List.length_append]; omega)
    rw [Nat.add_assoc, this, List.getElem_append_right (by omega)]; simp⟩
theorem key_N {t : Tk} {s : List UInt8} (h : tkey t = kN s) : t.kind = 1 ∧ t.text = s ∧ t.n = 0 := by
  simp only [tkey, kN, Prod.mk.injEq] at h; exact h
theorem key_M {t : Tk} {s : List UInt8} (h : tkey t = kM s) : isT t 3 s = true := by
  simp only [tkey, kM, Prod.mk.injEq] at h; simp [isT, h.1, h.2.1]
theorem key_D {t : Tk} {n : Nat} (h : tkey t = kD n) : t.kind = 2 ∧ t.n = n := by
  simp only [tkey, kD, Prod.mk.injEq] at h; exact ⟨h.1, h.2.2⟩
theorem more_rows {u : Bool} {t : Tr} {ts : Trs} : (Trs.cons t ts).more u = kM [44] :: (Trs.cons t ts).rows u := rfl
theorem name_not {s : List UInt8} (h : nameB s = true) : leafE s = none ∧ ¬ (s = [118, 101, 99, 116, 111, 114] ∨ s = [108, 105, 115, 116]) ∧ ¬ s = [111, 112, 116, 105, 111, 110] ∧ ¬ s = [117, 110, 105, 111, 110] ∧ ¬ s = [115, 116, 114, 117, 99, 116] := by
  have h2 : ∀ x ∈ words, ¬ s = x := fun x hx he => by
    subst he
    have : wordB s = true := decide_eq_true hx
    simp [nameB, this] at h
  refine ⟨?_, ?_, h2 _ (by decide), h2 _ (by decide), h2 _ (by decide)⟩
  · unfold leafE
    rw [if_neg (h2 _ (by decide)), if_neg (h2 _ (by decide)), if_neg (h2 _ (by decide)), if_neg (h2 _ (by decide)), if_neg (h2 _ (by decide)), if_neg (h2 _ (by decide))]
  exact fun h => h.elim (h2 _ (by decide)) (h2 _ (by decide))
theorem okB_cases {x : Ex} (h : okB x = true) : (x.kind = 1 ∧ (x.n = 1 ∨ x.n = 2 ∨ x.n = 4 ∨ x.n = 8) ∧ x.kids = 0) ∨ ((x.kind = 2 ∨ x.kind = 3 ∨ x.kind = 9) ∧ x.n = 0 ∧ x.kids = 0) ∨ ((x.kind = 4 ∨ x.kind = 5) ∧ 0 ≤ x.n ∧ x.n ≤ 2147483647 ∧ x.kids = 1) ∨ (x.kind = 6 ∧ x.n = 0 ∧ x.kids = 1) ∨ ((x.kind = 7 ∨ x.kind = 8) ∧ x.n = 0 ∧ 1 ≤ x.kids) := by
  unfold okB at h
  repeat' split at h
  all_goals first | (cases h; done) | (simp only [Bool.and_eq_true, Bool.or_eq_true, decide_eq_true_eq] at h; omega)
theorem trs_one {ts : Trs} (h : ts.len = 1) : ∃ t, ts = .cons t .nil := by
  cases ts with
  | nil => cases h
  | cons t ts => cases ts with
    | nil => exact ⟨t, rfl⟩
    | cons t2 ts2 => simp only [Trs.len] at h; omega
theorem trs_nil {ts : Trs} (h : ts.len = 0) : ts = .nil := by
  cases ts with
  | nil => rfl
  | cons t ts => simp only [Trs.len] at h; omega
theorem rightB_iff {x : Ex} {a : Int} (h : rightB x a = true) : okB x = true ∧ namB x = true ∧ labB x a = true ∧ tagB x a = true := by
  simp only [rightB, Bool.and_eq_true] at h; exact ⟨h.1.1.1, h.1.1.2, h.1.2, h.2⟩
mutual
theorem px_tr {T : List Tk} : ∀ (t : Tr) (above : Int) (deep i a : Nat) (x : Ex), t.wf above deep → AtK T i t.keys → atE i x = ⟨0, 0, [], t.top.label, t.top.tag, 0, (a : Int)⟩ → PX T none deep i x (t.idx i a) 0 (i + t.keys.length)
  | .node y ks, above, deep, i, a, x, hw, hk, hx => by
    obtain ⟨hd, hm, hr, hl, hks⟩ := hw
    obtain ⟨hok, hnm, -, -⟩ := rightB_iff hr
    simp only [Tr.top] at hx
    rcases okB_cases hok with ⟨k1, hn, k0⟩ | ⟨k1, hn, k0⟩ | ⟨k1, hn, hn2, k0⟩ | ⟨k1, hn, k0⟩ | ⟨k1, hn, k0⟩
    · have hnil := trs_nil (ts := ks) (by omega)
      subst hnil
      simp only [Tr.keys, if_pos k1] at hk ⊢
      obtain ⟨h1, h2, -⟩ := key_N hk.cons.1
      have hname : y.name = [] := by unfold namB at hnm; rw [if_neg (by omega)] at hnm; simpa using hnm
      have hlf : leafE (tkA T i).text = some (1, y.n) := by rw [h2]; rcases hn with e | e | e | e <;> (rw [e]; rfl)
      have hb : bgnT (tkA T i) = true := by simp [bgnT, h1, hlf]
      have hN : [(atE i x).lf 1 y.n] = Tr.idx i a (.node y .nil) := by
        rw [hx]; obtain ⟨a1, a2, a3, a4, a5, a6, a7⟩ := y
        simp only at k1 k0 hname; subst k1 k0 hname; simp [Tr.idx, Trs.idxK, Ex.lf]
      rw [← hN]
      exact .leaf (kn := (1, y.n)) hb hd hlf
    · have hnil := trs_nil (ts := ks) (by omega)
      subst hnil
      rcases k1 with k1 | k1 | k1
      · simp only [Tr.keys, if_neg (show ¬ y.kind = 1 by omega), if_pos k1] at hk ⊢
        obtain ⟨h1, h2, -⟩ := key_N hk.cons.1
        have hname : y.name = [] := by unfold namB at hnm; rw [if_neg (by omega)] at hnm; simpa using hnm
        have hlf : leafE (tkA T i).text = some (2, 0) := by rw [h2]; rfl
        have hb : bgnT (tkA T i) = true := by simp [bgnT, h1, hlf]
        have hN : [(atE i x).lf 2 0] = Tr.idx i a (.node y .nil) := by
          rw [hx]; obtain ⟨a1, a2, a3, a4, a5, a6, a7⟩ := y
          simp only at k1 k0 hname hn; subst k1 k0 hname hn; simp [Tr.idx, Trs.idxK, Ex.lf]
        rw [← hN]
        exact .leaf (kn := (2, 0)) hb hd hlf
      · simp only [Tr.keys, if_neg (show ¬ y.kind = 1 by omega), if_neg (show ¬ y.kind = 2 by omega), if_pos k1] at hk ⊢
        obtain ⟨h1, h2, -⟩ := key_N hk.cons.1
        have hname : y.name = [] := by unfold namB at hnm; rw [if_neg (by omega)] at hnm; simpa using hnm
        have hlf : leafE (tkA T i).text = some (3, 0) := by rw [h2]; rfl
        have hb : bgnT (tkA T i) = true := by simp [bgnT, h1, hlf]
        have hN : [(atE i x).lf 3 0] = Tr.idx i a (.node y .nil) := by
          rw [hx]; obtain ⟨a1, a2, a3, a4, a5, a6, a7⟩ := y
          simp only at k1 k0 hname hn; subst k1 k0 hname hn; simp [Tr.idx, Trs.idxK, Ex.lf]
        rw [← hN]
        exact .leaf (kn := (3, 0)) hb hd hlf
      simp only [Tr.keys, if_neg (show ¬ y.kind = 1 by omega), if_neg (show ¬ y.kind = 2 by omega), if_neg (show ¬ y.kind = 3 by omega), if_pos k1] at hk ⊢
      obtain ⟨h1, h2, -⟩ := key_N hk.cons.1
      have hname : nameB y.name = true := by unfold namB at hnm; rw [if_pos k1] at hnm; exact hnm
      obtain ⟨n1, n2, n3, n4, n5⟩ := name_not hname
      have hb : bgnT (tkA T i) = true := by simp [bgnT, h1, h2, hname]
      have hN : [(atE i x).nm (tkA T i).text] = Tr.idx i a (.node y .nil) := by
        rw [hx, h2]; obtain ⟨a1, a2, a3, a4, a5, a6, a7⟩ := y
        simp only at k1 k0 hn; subst k1 k0 hn; simp [Tr.idx, Trs.idxK, Ex.nm]
      rw [← hN]
      exact .nm hb hd (by rw [h2]; exact n1) (by rw [h2]; exact n2) (by rw [h2]; exact n3) (by rw [h2]; exact n4) (by rw [h2]; exact n5)
    · obtain ⟨t, rfl⟩ := trs_one (ts := ks) (by omega)
      simp only [Tr.keys, if_neg (show ¬ y.kind = 1 by omega), if_neg (show ¬ y.kind = 2 by omega), if_neg (show ¬ y.kind = 3 by omega), if_neg (show ¬ y.kind = 9 by omega), if_pos k1, Trs.keys, List.append_nil] at hk ⊢
      obtain ⟨q1, hk⟩ := hk.cons
      obtain ⟨q2, hk⟩ := hk.cons
      obtain ⟨hkt, hk⟩ := hk.app
      obtain ⟨q3, hk⟩ := hk.cons
      obtain ⟨q4, hk⟩ := hk.cons
      obtain ⟨q5, -⟩ := hk.cons
      obtain ⟨h1, h2, -⟩ := key_N q1
      obtain ⟨d1, d2⟩ := key_D q4
      have hv : (tkA T i).text = [118, 101, 99, 116, 111, 114] ∨ (tkA T i).text = [108, 105, 115, 116] := by rw [h2]; by_cases e : y.kind = 5 <;> simp [e]
      have hlf : leafE (tkA T i).text = none := by rcases hv with e | e <;> (rw [e]; rfl)
      have hb : bgnT (tkA T i) = true := by rcases hv with e | e <;> simp [bgnT, h1, e]
      have hname : y.name = [] := by unfold namB at hnm; rw [if_neg (by omega)] at hnm; simpa using hnm
      have hkid := px_tr t y.kind (deep + 1) (i + 2) (i + 2) exM hks.1 hkt (by
        obtain ⟨-, -, g1, g2⟩ := rightB_iff (show rightB t.top y.kind = true by cases t; exact hks.1.2.2.1)
        unfold labB at g1; rw [if_neg (by omega)] at g1
        have e1 : t.top.label = [] := by simpa using g1
        have e2 : t.top.tag = 0 := by
          unfold tagB at g2
          simp only [Bool.or_eq_true, Bool.and_eq_true, decide_eq_true_eq] at g2
          rcases g2 with g2 | g2
          · exact g2
          omega
        rw [e1, e2]; rfl)
      have hN : (atE i x).vec (decide ((tkA T i).text = [108, 105, 115, 116])) (tkA T (i + 2 + t.keys.length + 1)).n :: t.idx (i + 2) (i + 2) = Tr.idx i a (.node y (.cons t .nil)) := by
        have hdl : decide ((tkA T i).text = [108, 105, 115, 116]) = decide (y.kind = 5) := by rw [h2]; by_cases e : y.kind = 5 <;> simp [e]
        rw [hdl, d2, hx]
        simp only [Tr.idx, Trs.idxK, if_neg (show ¬ (y.kind = 7 ∨ y.kind = 8) by omega), List.append_nil, Ex.vec]
        congr 1
        obtain ⟨a1, a2, a3, a4, a5, a6, a7⟩ := y
        simp only at k1 k0 hname hn hn2 ⊢
        subst k0 hname
        rw [Ex.mk.injEq]
        refine ⟨?_, by omega, rfl, rfl, rfl, rfl, rfl⟩
        rcases k1 with e | e <;> simp [e]
      rw [← hN]
      have := PX.vec (x := x) hb hd hlf hv (key_M q2) hkid (key_M q3) d1 (key_M q5)
      simp only [List.length_cons, List.length_append, List.length_nil]
      rw [show i + (t.keys.length + (0 + 1 + 1 + 1) + 1 + 1) = i + 2 + t.keys.length + 3 by omega]
      exact this
    · obtain ⟨t, rfl⟩ := trs_one (ts := ks) (by omega)
      simp only [Tr.keys, if_neg (show ¬ y.kind = 1 by omega), if_neg (show ¬ y.kind = 2 by omega), if_neg (show ¬ y.kind = 3 by omega), if_neg (show ¬ y.kind = 9 by omega), if_neg (show ¬ (y.kind = 4 ∨ y.kind = 5) by omega), if_pos k1, Trs.keys, List.append_nil] at hk ⊢
      obtain ⟨q1, hk⟩ := hk.cons
      obtain ⟨q2, hk⟩ := hk.cons
      obtain ⟨hkt, hk⟩ := hk.app
      obtain ⟨q3, -⟩ := hk.cons
      obtain ⟨h1, h2, -⟩ := key_N q1
      have hlf : leafE (tkA T i).text = none := by rw [h2]; rfl
      have hb : bgnT (tkA T i) = true := by simp [bgnT, h1, h2]
      have hname : y.name = [] := by unfold namB at hnm; rw [if_neg (by omega)] at hnm; simpa using hnm
      have hkid := px_tr t y.kind (deep + 1) (i + 2) (i + 2) exM hks.1 hkt (by
        obtain ⟨-, -, g1, g2⟩ := rightB_iff (show rightB t.top y.kind = true by cases t; exact hks.1.2.2.1)
        unfold labB at g1; rw [if_neg (by omega)] at g1
        have e1 : t.top.label = [] := by simpa using g1
        have e2 : t.top.tag = 0 := by
          unfold tagB at g2
          simp only [Bool.or_eq_true, Bool.and_eq_true, decide_eq_true_eq] at g2
          rcases g2 with g2 | g2
          · exact g2
          omega
        rw [e1, e2]; rfl)
      have hN : (atE i x).opt :: t.idx (i + 2) (i + 2) = Tr.idx i a (.node y (.cons t .nil)) := by
        rw [hx]
        simp only [Tr.idx, Trs.idxK, if_neg (show ¬ (y.kind = 7 ∨ y.kind = 8) by omega), List.append_nil, Ex.opt]
        congr 1
        obtain ⟨a1, a2, a3, a4, a5, a6, a7⟩ := y
        simp only at k1 k0 hname hn ⊢
        subst k0 hname hn k1
        rfl
      rw [← hN]
      have := PX.opt (x := x) hb hd hlf h2 (key_M q2) hkid (key_M q3)
      simp only [List.length_cons, List.length_append, List.length_nil]
      rw [show i + (t.keys.length + (0 + 1) + 1 + 1) = i + 2 + t.keys.length + 1 by omega]
      exact this
    have hm64 : y.kids ≤ 64 := (rightB_kids hr hm).2
    obtain ⟨u, hu⟩ : ∃ u : Bool, u = decide (y.kind = 7) := ⟨_, rfl⟩
    have hku : y.kind = if u then 7 else 8 := by rcases k1 with e | e <;> simp [hu, e]
    simp only [Tr.keys, if_neg (show ¬ y.kind = 1 by omega), if_neg (show ¬ y.kind = 2 by omega), if_neg (show ¬ y.kind = 3 by omega), if_neg (show ¬ y.kind = 9 by omega), if_neg (show ¬ (y.kind = 4 ∨ y.kind = 5) by omega), if_neg (show ¬ y.kind = 6 by omega), ← hu] at hk ⊢
    obtain ⟨q1, hk⟩ := hk.cons
    obtain ⟨q2, hk⟩ := hk.cons
    obtain ⟨h1, h2, -⟩ := key_N q1
    have hw2 : (tkA T i).text = if u then [117, 110, 105, 111, 110] else [115, 116, 114, 117, 99, 116] := by rw [h2]; rcases k1 with e | e <;> simp [hu, e]
    have hlf : leafE (tkA T i).text = none := by rw [hw2]; cases u <;> rfl
    have hb : bgnT (tkA T i) = true := by rw [bgnT, hw2]; cases u <;> simp [h1]
    have hname : y.name = [] := by unfold namB at hnm; rw [if_neg (by omega)] at hnm; simpa using hnm
    have hrow := px_trs ks u deep (i + 2) 0 (fun e => by rw [e] at hl; simp only [Trs.len] at hl; omega) (by omega) (by rw [← hku]; exact hks) hk
    have hN : (atE i x).br u ((0 + ks.len : Nat) : Int) :: ks.idxR (i + 2) = Tr.idx i a (.node y ks) := by
      rw [hx]
      simp only [Tr.idx, if_pos k1, Ex.br]
      congr 1
      obtain ⟨a1, a2, a3, a4, a5, a6, a7⟩ := y
      simp only at k1 k0 hname hn hku hl ⊢
      subst hname hn
      rw [Ex.mk.injEq]
      exact ⟨hku.symm, rfl, rfl, rfl, rfl, by omega, rfl⟩
    rw [← hN]
    have := PX.br (x := x) u hb hd hlf hw2 (key_M q2) hrow
    simp only [List.length_cons, List.length_append, List.length_nil]
    rw [show i + ((ks.rows u).length + (0 + 1) + 1 + 1) = i + 2 + (ks.rows u).length + 1 by omega]
    exact this
theorem px_trs {T : List Tk} : ∀ (ts : Trs) (u : Bool) (deep i k : Nat), ts ≠ .nil → k + ts.len ≤ 64 → ts.wf (if u then 7 else 8) (deep + 1) → AtK T i (ts.rows u ++ [kM [125]]) → PX T (some (u, k)) deep i ex0 (ts.idxR i) (k + ts.len) (i + (ts.rows u).length + 1)
  | .nil, u, deep, i, k, hne, _, _, _ => absurd rfl hne
  | .cons t ts, u, deep, i, k, hne, hlen, hw, hk => by
    simp only [Trs.rows, List.append_assoc] at hk ⊢
    obtain ⟨hkh, hk⟩ := hk.app
    have hhl : (hdK u t.top).length = 2 := rfl
    rw [hhl] at hk
    obtain ⟨hkt, hk⟩ := hk.app
    have q1 := hkh.cons.1
    have q2 := hkh.cons.2.cons.1
    have hrt := rightB_iff (show rightB t.top (if u then 7 else 8) = true by cases t; exact hw.1.2.2.1)
    obtain ⟨-, -, g1, g2⟩ := hrt
    have hh : hdOk T u i := by
      cases u
      · obtain ⟨e1, e2, -⟩ := key_N q1
        unfold labB at g1
        have g1 : nameB t.top.label = true := by simpa using g1
        show nmT (tkA T i) = true
        simp [nmT, e1, e2, g1]
      exact (key_D q1).1
    have hx : atE (i + 2) (hdE T u i) = ⟨0, 0, [], t.top.label, t.top.tag, 0, (i : Int)⟩ := by
      have ha : ¬ ((i : Int)) < 0 := by omega
      cases u
      · obtain ⟨e1, e2, -⟩ := key_N q1
        have e3 : t.top.tag = 0 := by
          unfold tagB at g2
          simpa using g2
        simp only [atE, hdE, ex0, ha, if_false, Bool.false_eq_true, e2, e3]
      obtain ⟨e1, e2⟩ := key_D q1
      have e3 : t.top.label = [] := by unfold labB at g1; simpa using g1
      have e4 : (t.top.tag.toNat : Int) = t.top.tag := by
        unfold tagB at g2
        simp only [Bool.or_eq_true, Bool.and_eq_true, decide_eq_true_eq] at g2
        omega
      simp only [atE, hdE, ex0, ha, if_false, if_true, e2, e3, e4]
    have hkid := px_tr t _ (deep + 1) (i + 2) i (hdE T u i) hw.1 hkt hx
    simp only [Trs.len] at hlen ⊢
    cases ts with
    | nil =>
      simp only [Trs.more, List.nil_append] at hk ⊢
      have q3 := key_M hk.cons.1
      have hc : isT (tkA T (i + 2 + t.keys.length)) 3 [44] = false := by
        simp only [isT, Bool.and_eq_true, decide_eq_true_eq] at q3
        simp [isT, q3.2]
      have := PX.last (show k < 64 by simp only [Trs.len] at hlen; omega) hh (key_M q2) hkid hc q3
      simp only [Trs.idxR, Trs.len, List.append_nil, List.length_append, hhl, List.length_nil]
      rw [show i + (2 + t.keys.length) + 1 = i + 2 + t.keys.length + 1 by omega]
      exact this
    | cons t2 ts2 =>
      rw [more_rows] at hk ⊢
      obtain ⟨q3, hk⟩ := hk.cons
      have hrest := px_trs (.cons t2 ts2) u deep (i + 2 + t.keys.length + 1) (k + 1) (fun h => by cases h) (by omega) hw.2 hk
      have := PX.more (show k < 64 by omega) hh (key_M q2) hkid (key_M q3) hrest
      rw [show (Trs.cons t (.cons t2 ts2)).idxR i = t.idx (i + 2) i ++ (Trs.cons t2 ts2).idxR (i + 2 + t.keys.length + 1) from rfl]
      simp only [List.length_append, List.length_cons, hhl]
      rw [show k + ((Trs.cons t2 ts2).len + 1) = k + 1 + (Trs.cons t2 ts2).len by omega, show i + (2 + (t.keys.length + (((Trs.cons t2 ts2).rows u).length + 1))) + 1 = i + 2 + t.keys.length + 1 + ((Trs.cons t2 ts2).rows u).length + 1 by omega]
      exact this
end

end Go.Proofs.Ytpbflfgigfdohaa

set_option linter.unusedSimpArgs false
set_option linter.unusedVariables false
set_option maxRecDepth 100000
namespace Go.Proofs.Ytpbflfgigfdohaa
open Go Go.Vc Go.RowKit Go.Proofs

abbrev DefT := List UInt8 × Tr
def DefW (p : DefT) : Prop := nameB p.1 = true ∧ p.2.wf 0 0
theorem wf_top {t : Tr} {a : Int} {deep : Nat} (h : t.wf a deep) : rightB t.top a = true := by cases t; exact h.2.2.1
/-- what Check takes: names and trees -/
theorem chkA_trees : ∀ (D : List Df) (i : Nat), (chkA i D).2.2 = 0 → ∃ l : List DefT, (∀ p ∈ l, DefW p) ∧ D.map (fun d => (d.name, d.ty)) = l.map (fun p => (p.1, p.2.flat))
  | [], _, _ => ⟨[], fun p h => (by cases h), rfl⟩
  | d :: D, i, h => by
    rw [chkA_cons] at h
    by_cases h1 : nameB d.name = false
    · rw [if_pos h1] at h; cases h
    rw [if_neg h1] at h
    by_cases h2 : (chkT d.ty).2 = 0
    · rw [if_pos h2] at h
      obtain ⟨l, g1, g2⟩ := chkA_trees D (i + 1) h
      obtain ⟨t, t1, t2⟩ := chkT_tr h2
      refine ⟨(d.name, t) :: l, fun p hp => ?_, ?_⟩
      · rcases List.mem_cons.1 hp with rfl | hp
        · exact ⟨by simpa using h1, t2⟩
        exact g1 p hp
      rw [List.map_cons, List.map_cons, g2, t1]
    rw [if_neg h2] at h; exact absurd h h2
theorem chkS_trees {D : List Df} (h : (chkS D).2.2 = 0) : D.length ≤ 256 ∧ ∃ l : List DefT, (∀ p ∈ l, DefW p) ∧ D.map (fun d => (d.name, d.ty)) = l.map (fun p => (p.1, p.2.flat)) := by
  unfold chkS at h
  by_cases hl : 256 < D.length
  · rw [if_pos hl] at h; cases h
  rw [if_neg hl] at h
  exact ⟨by omega, chkA_trees D 0 h⟩

end Go.Proofs.Ytpbflfgigfdohaa

set_option linter.unusedSimpArgs false
set_option linter.unusedVariables false
set_option maxRecDepth 100000
namespace Go.Proofs.Ytpbflfgigfdohaa
open Go Go.Vc Go.RowKit Go.Proofs

def digL (n : Nat) : List UInt8 := if n < 10 then [UInt8.ofNat (48 + n)] else digL (n / 10) ++ [UInt8.ofNat (48 + n % 10)]
termination_by n
decreasing_by omega
theorem digL_lt {n : Nat} (h : n < 10) : digL n = [UInt8.ofNat (48 + n)] := by rw [digL, if_pos h]
theorem digL_ge {n : Nat} (h : ¬ n < 10) : digL n = digL (n / 10) ++ [UInt8.ofNat (48 + n % 10)] := by rw [digL, if_neg h]
theorem d8 {k : Nat} (h : k < 10) : (UInt8.ofNat (48 + k)).toNat = 48 + k := by simp; omega
theorem digL_dig : ∀ n, (digL n).all digB = true := by
  intro n
  induction n using Nat.strongRecOn with
  | _ n ih =>
    by_cases h : n < 10
    · rw [digL_lt h]; simp only [List.all_cons, List.all_nil, Bool.and_true, digB, d8 h]; simp; omega
    rw [digL_ge h, List.all_append, ih (n / 10) (by omega)]
    simp only [List.all_cons, List.all_nil, Bool.and_true, digB, d8 (show n % 10 < 10 by omega)]; simp; omega
theorem valF_snoc (n : Nat) (xs : List UInt8) (c : UInt8) : valF n (xs ++ [c]) = 10 * valF n xs + (c.toNat - 48) := by
  simp only [valF, List.foldl_append, List.foldl_cons, List.foldl_nil]
theorem digL_val : ∀ n, valF 0 (digL n) = n := by
  intro n
  induction n using Nat.strongRecOn with
  | _ n ih =>
    by_cases h : n < 10
    · rw [digL_lt h, show [UInt8.ofNat (48 + n)] = [] ++ [UInt8.ofNat (48 + n)] from rfl, valF_snoc, d8 h]
      show 10 * 0 + _ = n; omega
    rw [digL_ge h, valF_snoc, ih (n / 10) (by omega), d8 (show n % 10 < 10 by omega)]; omega
theorem digL_head : ∀ n, 1 ≤ n → ∃ c cs, digL n = c :: cs ∧ 49 ≤ c.toNat := by
  intro n
  induction n using Nat.strongRecOn with
  | _ n ih =>
    intro h1
    by_cases h : n < 10
    · exact ⟨_, _, digL_lt h, by rw [d8 h]; omega⟩
    obtain ⟨c, cs, g1, g2⟩ := ih (n / 10) (by omega) (by omega)
    exact ⟨c, cs ++ [UInt8.ofNat (48 + n % 10)], by rw [digL_ge h, g1]; rfl, g2⟩
theorem digL_pos (n : Nat) : 0 < (digL n).length := by
  by_cases h : n < 10
  · rw [digL_lt h]; exact Nat.one_pos
  rw [digL_ge h]; simp
theorem digL_num {n : Nat} (h : n ≤ 2147483647) : numL (digL n) = (n, 0) := by
  have hl : lead (digL n) = false := by
    by_cases h0 : n < 10
    · rw [digL_lt h0]; rfl
    obtain ⟨c, cs, g1, g2⟩ := digL_head n (by omega)
    rw [g1]
    have : ¬ c.toNat = 48 := by omega
    simp [lead, this]
  rw [numL_val _ hl, digL_val, if_pos h]
def Own (b : List UInt8) (k : Key) : Prop := ∃ hT : 0 < b.length, oneL b 0 hT = (0, ⟨k.1, k.2.1, k.2.2, 0, b.length⟩)
theorem sub_whole (b : List UInt8) : sub b 0 b.length = b := by unfold sub; simp
theorem own_name {s : List UInt8} (h1 : s.head?.any letB = true) (h2 : s.length ≤ 32) (h3 : s.all goeB = true) : Own s (kN s) := by
  cases s with
  | nil => cases h1
  | cons c cs =>
    have hT : 0 < (c :: cs).length := by simp
    have hc : letB (c :: cs)[0] = true := h1
    have hr : runL goeB (c :: cs) 0 = (c :: cs).length := (runL_all goeB _).2 h3
    refine ⟨hT, ?_⟩
    unfold oneL
    rw [if_pos hc, hr, if_neg (by omega), sub_whole]
    rfl
theorem own_nameB {s : List UInt8} (h : nameB s = true) : Own s (kN s) := by
  simp only [nameB, Bool.and_eq_true, decide_eq_true_eq] at h
  exact own_name h.1.1.2 h.1.1.1.2 h.1.2
theorem own_num {n : Nat} (h : n ≤ 2147483647) : Own (digL n) (kD n) := by
  have hT := digL_pos n
  have hd : digB (digL n)[0] = true := List.all_eq_true.1 (digL_dig n) _ (List.getElem_mem hT)
  have hl : ¬ letB (digL n)[0] = true := by
    generalize (digL n)[0] = c at hd
    simp only [digB, letB, Bool.and_eq_true, decide_eq_true_eq] at hd ⊢
    omega
  have hr : runL digB (digL n) 0 = (digL n).length := (runL_all digB _).2 (digL_dig n)
  refine ⟨hT, ?_⟩
  unfold oneL
  rw [if_neg hl, if_pos hd, hr, sub_whole, digL_num h]
  rfl
theorem mark_goe {c : UInt8} (h : markB c = true) : goeB c = false ∧ letB c = false ∧ digB c = false := by
  rw [mark_or] at h
  simp only [Bool.or_eq_true, decide_eq_true_eq] at h
  simp only [goeB, letB, digB, Bool.or_eq_false_iff, Bool.and_eq_false_iff, decide_eq_false_iff_not]
  omega
theorem own_mark {c : UInt8} (h : markB c = true) (Z : List UInt8) : ∀ hT, oneL ([c] ++ Z) 0 hT = (0, ⟨3, [c], 0, 0, 1⟩) := by
  intro hT
  obtain ⟨h1, h2, h3⟩ := mark_goe h
  unfold oneL
  rw [if_neg (by show ¬ letB c = true; simp [h2]), if_neg (by show ¬ digB c = true; simp [h3]), if_pos (show markB ([c] ++ Z)[0] = true from h)]
  rfl
def Cut2 (bs : List UInt8) (us : List Tk) (m : Bool) : Prop := ∀ Z, (m = true ∨ Stops Z) → cutL (bs ++ Z) 0 = (us ++ (cutL (bs ++ Z) bs.length).1, (cutL (bs ++ Z) bs.length).2)
theorem Cut2.weak {bs : List UInt8} {us : List Tk} {m : Bool} (h : Cut2 bs us m) : Cut2 bs us false := fun Z hZ => h Z (.inr (hZ.resolve_left (by decide)))
theorem Cut2.gap {bs F : List UInt8} {us : List Tk} {m : Bool} (h : Cut2 bs us m) (hg : gapS false F = some false) (hF : ∃ c cs, F = c :: cs ∧ goeB c = false) : Cut2 (bs ++ F) us true := by
  intro Z _
  obtain ⟨c, cs, rfl, hc⟩ := hF
  have h1 := h ((c :: cs) ++ Z) (.inr (.inr ⟨c, cs ++ Z, rfl, hc⟩))
  rw [← List.append_assoc] at h1
  have e1 : ((bs ++ (c :: cs) ++ Z).take (bs ++ (c :: cs)).length).drop bs.length = c :: cs := by rw [List.take_left, List.drop_left]
  have s1 := gap_skip (bs ++ (c :: cs) ++ Z) (bs ++ (c :: cs)).length (by simp) bs.length (by simp) false (by rw [e1]; exact hg)
  rw [if_neg (by decide)] at s1
  rw [h1, s1]
def tkP (p : Nat) (b : List UInt8) (k : Key) : Tk := ⟨k.1, k.2.1, k.2.2, p, p + b.length⟩
theorem tkP_key (p : Nat) (b : List UInt8) (k : Key) : tkey (tkP p b k) = k := rfl
theorem Cut2.tok {bs b : List UInt8} {us : List Tk} {k : Key} (h : Cut2 bs us true) (ho : Own b k) : Cut2 (bs ++ b) (us ++ [tkP bs.length b k]) false := by
  intro Z hZ
  have hZ := hZ.resolve_left (by decide)
  obtain ⟨hT, ho⟩ := ho
  have h1 := h (b ++ Z) (.inl rfl)
  rw [← List.append_assoc] at h1
  have h2 := put_step bs [] b Z _ hT rfl (tok_front ho rfl hZ) rfl
  simp only [List.append_nil, List.length_nil, Nat.add_zero] at h2
  rw [h1, h2]
  simp only [tkP, List.append_assoc, List.cons_append, List.nil_append]
theorem Cut2.mark {bs : List UInt8} {us : List Tk} {m : Bool} (h : Cut2 bs us m) (c : UInt8) (hc : markB c = true) : Cut2 (bs ++ [c]) (us ++ [tkP bs.length [c] (kM [c])]) true := by
  intro Z _
  have h1 := h ([c] ++ Z) (.inr (.inr ⟨c, Z, rfl, (mark_goe hc).1⟩))
  rw [← List.append_assoc] at h1
  have h2 := put_step bs [] [c] Z _ (by simp) rfl (own_mark hc Z) rfl
  simp only [List.append_nil, List.length_nil, Nat.add_zero] at h2
  rw [h1, h2]
  simp only [tkP, kM, List.append_assoc, List.cons_append, List.nil_append, List.length_singleton]
theorem Cut2.done {bs : List UInt8} {us : List Tk} {m : Bool} (h : Cut2 bs us m) : cutL bs 0 = (us, 0, 0) := by
  have := h [] (.inr (.inl rfl))
  rw [List.append_nil, show cutL bs bs.length = ([], 0, 0) by rw [cutL_eq, dif_neg (by omega)], List.append_nil] at this
  exact this

end Go.Proofs.Ytpbflfgigfdohaa

set_option linter.unusedSimpArgs false
set_option linter.unusedVariables false
set_option maxRecDepth 100000
namespace Go.Proofs.Ytpbflfgigfdohaa
open Go Go.Vc Go.RowKit Go.Proofs

def wrHead (s first : Bool) (y : Ex) (bs : List UInt8) : List UInt8 := (if first then bs else bs ++ [44]) ++ (if s then y.label ++ [58, 32] else digL y.tag.toNat ++ [58])
mutual
def Tr.wr (bs : List UInt8) : Tr → List UInt8
  | .node y ks =>
    if y.kind = 1 then bs ++ ([117] ++ digL (8 * y.n).toNat)
    else if y.kind = 2 then bs ++ [98, 111, 111, 108]
    else if y.kind = 3 then bs ++ [118, 97, 114, 105, 110, 116]
    else if y.kind = 9 then bs ++ y.name
    else if y.kind = 4 ∨ y.kind = 5 then ks.wrK (bs ++ (if y.kind = 4 then [118, 101, 99, 116, 111, 114, 60] else [108, 105, 115, 116, 32, 60])) ++ ([44, 32] ++ digL y.n.toNat ++ [62])
    else if y.kind = 6 then ks.wrK (bs ++ [111, 112, 116, 105, 111, 110, 60]) ++ [62]
    else ks.wrR (decide (y.kind = 8)) true (bs ++ (if y.kind = 8 then [115, 116, 114, 117, 99, 116, 32, 123] else [117, 110, 105, 111, 110, 123])) ++ [125]
def Trs.wrK (bs : List UInt8) : Trs → List UInt8
  | .nil => bs
  | .cons t ts => ts.wrK (t.wr bs)
def Trs.wrR (s first : Bool) (bs : List UInt8) : Trs → List UInt8
  | .nil => bs
  | .cons t ts => ts.wrR s false (t.wr (wrHead s first t.top bs))
end
mutual
/-- the nodes, each at the place where it is written -/
def Tr.pl (p : Nat) (bs : List UInt8) : Tr → List Ex
  | .node y ks => { y with at_ := (p : Int) } ::
    (if y.kind = 7 ∨ y.kind = 8 then ks.plR (decide (y.kind = 8)) true (bs ++ (if y.kind = 8 then [115, 116, 114, 117, 99, 116, 32, 123] else [117, 110, 105, 111, 110, 123]))
     else ks.plK (bs ++ (if y.kind = 4 then [118, 101, 99, 116, 111, 114, 60] else if y.kind = 5 then [108, 105, 115, 116, 32, 60] else [111, 112, 116, 105, 111, 110, 60])))
def Trs.plK (bs : List UInt8) : Trs → List Ex
  | .nil => []
  | .cons t ts => t.pl bs.length bs ++ ts.plK (t.wr bs)
def Trs.plR (s first : Bool) (bs : List UInt8) : Trs → List Ex
  | .nil => []
  | .cons t ts => t.pl (if first then bs else bs ++ [44]).length (wrHead s first t.top bs) ++ ts.plR s false (t.wr (wrHead s first t.top bs))
end
def Pf (T L : List Tk) : Prop := ∀ k, k < L.length → tkA T k = tkA L k
theorem Pf.app {T a b : List Tk} (h : Pf T (a ++ b)) : Pf T a := fun k hk => by
  rw [h k (by rw [List.length_append]; omega), tkA, List.getD_eq_getElem?_getD, List.getElem?_append_left hk, tkA, List.getD_eq_getElem?_getD]
theorem Pf.at {T a : List Tk} {v : Tk} {b : List Tk} (h : Pf T (a ++ v :: b)) : tkA T a.length = v := by
  rw [h a.length (by simp), tkA, List.getD_eq_getElem?_getD, List.getElem?_append_right (Nat.le_refl _)]; simp
theorem plE_at' {T : List Tk} {y : Ex} {ai p : Nat} (h : (tkA T ai).at_ = p) : plE T { y with at_ := (ai : Int) } = { y with at_ := (p : Int) } := by
  unfold plE
  rw [if_neg (show ¬ ((ai : Int)) < 0 by omega)]
  simp [h]
theorem own_word {s : List UInt8} (h : (decide (s.length ≤ 32) && s.head?.any letB && s.all goeB) = true) : Own s (kN s) := by
  simp only [Bool.and_eq_true, decide_eq_true_eq] at h
  exact own_name h.1.2 h.1.1 h.2
mutual
theorem wr_tr : ∀ (t : Tr) (above : Int) (deep : Nat) (bs : List UInt8) (us : List Tk), t.wf above deep → Cut2 bs us true →
    ∃ v vs, Cut2 (t.wr bs) (us ++ v :: vs) false ∧ (v :: vs).map tkey = t.keys ∧ v.at_ = bs.length ∧ ∀ T, Pf T (us ++ v :: vs) → ∀ ai p, (tkA T ai).at_ = p → (t.idx us.length ai).map (plE T) = t.pl p bs
  | .node y ks, above, deep, bs, us, hw, hc => by
    obtain ⟨hd, hm, hr, hl, hks⟩ := hw
    obtain ⟨hok, hnm, -, -⟩ := rightB_iff hr
    rcases okB_cases hok with ⟨k1, hn, k0⟩ | ⟨k1, hn, k0⟩ | ⟨k1, hn, hn2, k0⟩ | ⟨k1, hn, k0⟩ | ⟨k1, hn, k0⟩
    · have hnil := trs_nil (ts := ks) (by omega)
      subst hnil
      have hw8 : [117] ++ digL (8 * y.n).toNat = uWord y.n := by
        rcases hn with e | e | e | e <;> rw [e]
        · show _ ++ digL 8 = _; rw [digL_lt (by decide)]; rfl
        · show _ ++ digL 16 = _; rw [digL_ge (by decide), digL_lt (by decide)]; rfl
        · show _ ++ digL 32 = _; rw [digL_ge (by decide), digL_lt (by decide)]; rfl
        show _ ++ digL 64 = _; rw [digL_ge (by decide), digL_lt (by decide)]; rfl
      have ho : Own (uWord y.n) (kN (uWord y.n)) := by rcases hn with e | e | e | e <;> (rw [e]; exact own_word (by decide))
      refine ⟨tkP bs.length (uWord y.n) (kN (uWord y.n)), [], ?_, ?_, ?_, fun T hT ai p hp => ?_⟩
      · simp only [Tr.wr, if_pos k1, hw8]; exact hc.tok ho
      · simp only [Tr.keys, if_pos k1]; rfl
      · rfl
      simp only [Tr.idx, Tr.pl, if_neg (show ¬ (y.kind = 7 ∨ y.kind = 8) by omega), Trs.idxK, Trs.plK, List.map_cons, List.map_nil, plE_at' hp]
    · have hnil := trs_nil (ts := ks) (by omega)
      subst hnil
      rcases k1 with k1 | k1 | k1
      · refine ⟨tkP bs.length [98, 111, 111, 108] (kN [98, 111, 111, 108]), [], ?_, ?_, ?_, fun T hT ai p hp => ?_⟩
        · simp only [Tr.wr, if_neg (show ¬ y.kind = 1 by omega), if_pos k1]; exact hc.tok (own_word (by decide))
        · simp only [Tr.keys, if_neg (show ¬ y.kind = 1 by omega), if_pos k1]; rfl
        · rfl
        simp only [Tr.idx, Tr.pl, if_neg (show ¬ (y.kind = 7 ∨ y.kind = 8) by omega), Trs.idxK, Trs.plK, List.map_cons, List.map_nil, plE_at' hp]
      · refine ⟨tkP bs.length [118, 97, 114, 105, 110, 116] (kN [118, 97, 114, 105, 110, 116]), [], ?_, ?_, ?_, fun T hT ai p hp => ?_⟩
        · simp only [Tr.wr, if_neg (show ¬ y.kind = 1 by omega), if_neg (show ¬ y.kind = 2 by omega), if_pos k1]; exact hc.tok (own_word (by decide))
        · simp only [Tr.keys, if_neg (show ¬ y.kind = 1 by omega), if_neg (show ¬ y.kind = 2 by omega), if_pos k1]; rfl
        · rfl
        simp only [Tr.idx, Tr.pl, if_neg (show ¬ (y.kind = 7 ∨ y.kind = 8) by omega), Trs.idxK, Trs.plK, List.map_cons, List.map_nil, plE_at' hp]
      have hname : nameB y.name = true := by unfold namB at hnm; rw [if_pos k1] at hnm; exact hnm
      refine ⟨tkP bs.length y.name (kN y.name), [], ?_, ?_, ?_, fun T hT ai p hp => ?_⟩
      · simp only [Tr.wr, if_neg (show ¬ y.kind = 1 by omega), if_neg (show ¬ y.kind = 2 by omega), if_neg (show ¬ y.kind = 3 by omega), if_pos k1]; exact hc.tok (own_nameB hname)
      · simp only [Tr.keys, if_neg (show ¬ y.kind = 1 by omega), if_neg (show ¬ y.kind = 2 by omega), if_neg (show ¬ y.kind = 3 by omega), if_pos k1]; rfl
      · rfl
      simp only [Tr.idx, Tr.pl, if_neg (show ¬ (y.kind = 7 ∨ y.kind = 8) by omega), Trs.idxK, Trs.plK, List.map_cons, List.map_nil, plE_at' hp]
    · obtain ⟨t, rfl⟩ := trs_one (ts := ks) (by omega)
      -- the word and its bracket
      obtain ⟨b1, hb1, v1, v2, hc1, hk1, hv1⟩ : ∃ b1, b1 = bs ++ (if y.kind = 4 then [118, 101, 99, 116, 111, 114, 60] else [108, 105, 115, 116, 32, 60]) ∧ ∃ v1 v2, Cut2 b1 (us ++ [v1, v2]) true ∧ [v1, v2].map tkey = [kN (if y.kind = 5 then [108, 105, 115, 116] else [118, 101, 99, 116, 111, 114]), kM [60]] ∧ v1.at_ = bs.length := by
        rcases k1 with e | e
        · refine ⟨_, rfl, tkP bs.length [118, 101, 99, 116, 111, 114] (kN [118, 101, 99, 116, 111, 114]), tkP (bs ++ [118, 101, 99, 116, 111, 114]).length [60] (kM [60]), ?_, ?_, ?_⟩
          · have := (hc.tok (own_word (s := [118, 101, 99, 116, 111, 114]) (by decide))).mark 60 (by decide)
            rw [List.append_assoc, List.append_assoc] at this
            rw [if_pos e]; exact this
          · rw [e]; rfl
          rfl
        refine ⟨_, rfl, tkP bs.length [108, 105, 115, 116] (kN [108, 105, 115, 116]), tkP (bs ++ [108, 105, 115, 116] ++ [32]).length [60] (kM [60]), ?_, ?_, ?_⟩
        · have := (((hc.tok (own_word (s := [108, 105, 115, 116]) (by decide)))).gap (F := [32]) (by decide) ⟨_, _, rfl, by decide⟩).mark 60 (by decide)
          rw [List.append_assoc, List.append_assoc, List.append_assoc] at this
          rw [if_neg (by omega)]; exact this
        · rw [e]; rfl
        rfl
      obtain ⟨v, vs, hc2, hk2, hv2, hp2⟩ := wr_tr t y.kind (deep + 1) b1 (us ++ [v1, v2]) hks.1 hc1
      have hc3 := (((hc2.mark 44 (by decide)).gap (F := [32]) (by decide) ⟨_, _, rfl, by decide⟩).tok (own_num (n := y.n.toNat) (by omega))).mark 62 (by decide)
      have e1 : ∀ {a b c : Tk}, us ++ [v1, v2] ++ v :: vs ++ [a] ++ [b] ++ [c] = us ++ v1 :: (v2 :: (v :: vs ++ [a, b, c])) := by intros; simp
      rw [e1] at hc3
      have e2 : t.wr b1 ++ [44] ++ [32] ++ digL y.n.toNat ++ [62] = Tr.wr bs (.node y (.cons t .nil)) := by
        simp only [Tr.wr, if_neg (show ¬ y.kind = 1 by omega), if_neg (show ¬ y.kind = 2 by omega), if_neg (show ¬ y.kind = 3 by omega), if_neg (show ¬ y.kind = 9 by omega), if_pos k1, Trs.wrK, ← hb1]
        simp
      rw [e2] at hc3
      refine ⟨v1, _, hc3.weak, ?_, hv1, fun T hT ai p hp => ?_⟩
      · simp only [Tr.keys, if_neg (show ¬ y.kind = 1 by omega), if_neg (show ¬ y.kind = 2 by omega), if_neg (show ¬ y.kind = 3 by omega), if_neg (show ¬ y.kind = 9 by omega), if_pos k1, Trs.keys, List.append_nil, ← hk2]
        simp only [List.map_cons, List.map_nil, List.cons.injEq, and_true] at hk1
        simp [hk1.1, hk1.2, tkP_key]
      have hT2 : Pf T (us ++ [v1, v2] ++ v :: vs) := by
        have : us ++ v1 :: (v2 :: (v :: vs ++ [tkP (t.wr b1).length [44] (kM [44]), tkP (t.wr b1 ++ [44] ++ [32]).length (digL y.n.toNat) (kD y.n.toNat), tkP (t.wr b1 ++ [44] ++ [32] ++ digL y.n.toNat).length [62] (kM [62])])) = (us ++ [v1, v2] ++ v :: vs) ++ [tkP (t.wr b1).length [44] (kM [44]), tkP (t.wr b1 ++ [44] ++ [32]).length (digL y.n.toNat) (kD y.n.toNat), tkP (t.wr b1 ++ [44] ++ [32] ++ digL y.n.toNat).length [62] (kM [62])] := by simp
        rw [this] at hT
        exact hT.app
      have hk := hp2 T hT2 (us ++ [v1, v2]).length b1.length (by rw [hT2.at]; exact hv2)
      rw [show (us ++ [v1, v2]).length = us.length + 2 by simp] at hk
      simp only [Tr.idx, Tr.pl, if_neg (show ¬ (y.kind = 7 ∨ y.kind = 8) by omega), Trs.idxK, Trs.plK, List.append_nil, List.map_cons, plE_at' hp]
      rw [hk, hb1]
      rcases k1 with e | e <;> simp [e]
    · obtain ⟨t, rfl⟩ := trs_one (ts := ks) (by omega)
      have hc1 := (hc.tok (own_word (s := [111, 112, 116, 105, 111, 110]) (by decide))).mark 60 (by decide)
      rw [List.append_assoc, List.append_assoc] at hc1
      obtain ⟨v, vs, hc2, hk2, hv2, hp2⟩ := wr_tr t y.kind (deep + 1) _ _ hks.1 hc1
      have hc3 := hc2.mark 62 (by decide)
      obtain ⟨v1, hv1⟩ : ∃ v, v = tkP bs.length [111, 112, 116, 105, 111, 110] (kN [111, 112, 116, 105, 111, 110]) := ⟨_, rfl⟩
      obtain ⟨v2, hv2'⟩ : ∃ v, v = tkP (bs ++ [111, 112, 116, 105, 111, 110]).length [60] (kM [60]) := ⟨_, rfl⟩
      rw [← hv1, ← hv2'] at hc2 hp2 hc3
      have e1 : ∀ {a : Tk}, us ++ ([v1] ++ [v2]) ++ v :: vs ++ [a] = us ++ v1 :: (v2 :: (v :: vs ++ [a])) := by intros; simp
      rw [e1] at hc3
      have e2 : Tr.wr (bs ++ ([111, 112, 116, 105, 111, 110] ++ [60])) t ++ [62] = Tr.wr bs (.node y (.cons t .nil)) := by
        simp only [Tr.wr, if_neg (show ¬ y.kind = 1 by omega), if_neg (show ¬ y.kind = 2 by omega), if_neg (show ¬ y.kind = 3 by omega), if_neg (show ¬ y.kind = 9 by omega), if_neg (show ¬ (y.kind = 4 ∨ y.kind = 5) by omega), if_pos k1, Trs.wrK]
        rfl
      rw [e2] at hc3
      refine ⟨v1, _, hc3.weak, ?_, by subst hv1; rfl, fun T hT ai p hp => ?_⟩
      · simp only [Tr.keys, if_neg (show ¬ y.kind = 1 by omega), if_neg (show ¬ y.kind = 2 by omega), if_neg (show ¬ y.kind = 3 by omega), if_neg (show ¬ y.kind = 9 by omega), if_neg (show ¬ (y.kind = 4 ∨ y.kind = 5) by omega), if_pos k1, Trs.keys, List.append_nil, ← hk2]
        simp [hv1, hv2', tkP_key]
      have hT2 : Pf T (us ++ ([v1] ++ [v2]) ++ v :: vs) := by rw [← e1] at hT; exact hT.app
      have hk := hp2 T hT2 (us ++ ([v1] ++ [v2])).length (bs ++ ([111, 112, 116, 105, 111, 110] ++ [60])).length (by rw [hT2.at]; exact hv2)
      rw [show (us ++ ([v1] ++ [v2])).length = us.length + 2 by simp] at hk
      simp only [Tr.idx, Tr.pl, if_neg (show ¬ (y.kind = 7 ∨ y.kind = 8) by omega), Trs.idxK, Trs.plK, List.append_nil, List.map_cons, plE_at' hp]
      rw [hk, if_neg (show ¬ y.kind = 4 by omega), if_neg (show ¬ y.kind = 5 by omega)]
      rfl
    obtain ⟨s, hs⟩ : ∃ s : Bool, s = decide (y.kind = 8) := ⟨_, rfl⟩
    have hsu : decide (y.kind = 7) = !s := by rcases k1 with e | e <;> simp [hs, e]
    have hks2 : y.kind = if s then 8 else 7 := by rcases k1 with e | e <;> simp [hs, e]
    obtain ⟨b1, hb1, v1, v2, hc1, hk1, hv1⟩ : ∃ b1, b1 = bs ++ (if y.kind = 8 then [115, 116, 114, 117, 99, 116, 32, 123] else [117, 110, 105, 111, 110, 123]) ∧ ∃ v1 v2, Cut2 b1 (us ++ [v1, v2]) true ∧ [v1, v2].map tkey = [kN (if y.kind = 7 then [117, 110, 105, 111, 110] else [115, 116, 114, 117, 99, 116]), kM [123]] ∧ v1.at_ = bs.length := by
      rcases k1 with e | e
      · refine ⟨_, rfl, tkP bs.length [117, 110, 105, 111, 110] (kN [117, 110, 105, 111, 110]), tkP (bs ++ [117, 110, 105, 111, 110]).length [123] (kM [123]), ?_, ?_, ?_⟩
        · have := (hc.tok (own_word (s := [117, 110, 105, 111, 110]) (by decide))).mark 123 (by decide)
          rw [List.append_assoc, List.append_assoc] at this
          rw [if_neg (by omega)]; exact this
        · rw [e]; rfl
        rfl
      refine ⟨_, rfl, tkP bs.length [115, 116, 114, 117, 99, 116] (kN [115, 116, 114, 117, 99, 116]), tkP (bs ++ [115, 116, 114, 117, 99, 116] ++ [32]).length [123] (kM [123]), ?_, ?_, ?_⟩
      · have := (((hc.tok (own_word (s := [115, 116, 114, 117, 99, 116]) (by decide)))).gap (F := [32]) (by decide) ⟨_, _, rfl, by decide⟩).mark 123 (by decide)
        rw [List.append_assoc, List.append_assoc, List.append_assoc] at this
        rw [if_pos e]; exact this
      · rw [e]; rfl
      rfl
    obtain ⟨vs, hc2, hk2, hp2⟩ := wr_trs ks s true (deep + 1) b1 (us ++ [v1, v2]) (by rw [← hks2]; exact hks) hc1
    have hc3 := hc2.mark 125 (by decide)
    have e1 : ∀ {a : Tk}, us ++ [v1, v2] ++ vs ++ [a] = us ++ v1 :: (v2 :: (vs ++ [a])) := by intros; simp
    rw [e1] at hc3
    have e2 : ks.wrR s true b1 ++ [125] = Tr.wr bs (.node y ks) := by
      simp only [Tr.wr, if_neg (show ¬ y.kind = 1 by omega), if_neg (show ¬ y.kind = 2 by omega), if_neg (show ¬ y.kind = 3 by omega), if_neg (show ¬ y.kind = 9 by omega), if_neg (show ¬ (y.kind = 4 ∨ y.kind = 5) by omega), if_neg (show ¬ y.kind = 6 by omega), ← hb1, ← hs]
    rw [e2] at hc3
    refine ⟨v1, _, hc3.weak, ?_, hv1, fun T hT ai p hp => ?_⟩
    · simp only [Tr.keys, if_neg (show ¬ y.kind = 1 by omega), if_neg (show ¬ y.kind = 2 by omega), if_neg (show ¬ y.kind = 3 by omega), if_neg (show ¬ y.kind = 9 by omega), if_neg (show ¬ (y.kind = 4 ∨ y.kind = 5) by omega), if_neg (show ¬ y.kind = 6 by omega), hsu]
      simp only [List.map_cons, List.map_nil, List.cons.injEq, and_true] at hk1
      simp only [if_true] at hk2
      simp [hk1.1, hk1.2, tkP_key, hk2]
    have hT2 : Pf T (us ++ [v1, v2] ++ vs) := by rw [← e1] at hT; exact hT.app
    have hk := hp2 T hT2
    simp only [if_true, Nat.add_zero] at hk
    rw [show (us ++ [v1, v2]).length = us.length + 2 by simp] at hk
    simp only [Tr.idx, Tr.pl, if_pos k1, List.map_cons, plE_at' hp, ← hs]
    rw [hk, hb1]
theorem wr_trs : ∀ (ts : Trs) (s first : Bool) (deep : Nat) (bs : List UInt8) (us : List Tk), ts.wf (if s then 8 else 7) deep → Cut2 bs us first →
    ∃ vs, Cut2 (ts.wrR s first bs) (us ++ vs) false ∧ vs.map tkey = (if first then ts.rows (!s) else ts.more (!s)) ∧ ∀ T, Pf T (us ++ vs) → (ts.idxR (us.length + (if first then 0 else 1))).map (plE T) = ts.plR s first bs
  | .nil, s, first, deep, bs, us, hw, hc => ⟨[], by rw [List.append_nil]; exact hc.weak, by cases first <;> rfl, fun T _ => rfl⟩
  | .cons t ts, s, first, deep, bs, us, hw, hc => by
    obtain ⟨-, -, g1, g2⟩ := rightB_iff (wf_top hw.1)
    -- the comma
    obtain ⟨b1, hb1, us1, hu1, hc1, hkk⟩ : ∃ b1, b1 = (if first then bs else bs ++ [44]) ∧ ∃ us1, us1 = (if first then us else us ++ [tkP bs.length [44] (kM [44])]) ∧ Cut2 b1 us1 true ∧ us1.length = us.length + (if first then 0 else 1) := by
      cases first
      · exact ⟨_, rfl, _, rfl, hc.mark 44 (by decide), by simp⟩
      exact ⟨_, rfl, _, rfl, hc, by simp⟩
    -- what stands ahead of the colon
    obtain ⟨b2, hb2, v1, v2, hc2, hk2, hv1⟩ : ∃ b2, b2 = wrHead s first t.top bs ∧ ∃ v1 v2, Cut2 b2 (us1 ++ [v1, v2]) true ∧ [v1, v2].map tkey = hdK (!s) t.top ∧ v1.at_ = b1.length := by
      cases s
      · have htag : t.top.tag.toNat ≤ 2147483647 := by
          unfold tagB at g2
          simp only [Bool.or_eq_true, Bool.and_eq_true, decide_eq_true_eq] at g2
          omega
        refine ⟨_, rfl, tkP b1.length (digL t.top.tag.toNat) (kD t.top.tag.toNat), tkP (b1 ++ digL t.top.tag.toNat).length [58] (kM [58]), ?_, ?_, ?_⟩
        · have := (hc1.tok (own_num (n := t.top.tag.toNat) htag)).mark 58 (by decide)
          rw [List.append_assoc, List.append_assoc] at this
          rw [wrHead, ← hb1]; exact this
        · rfl
        rfl
      have hlab : nameB t.top.label = true := by unfold labB at g1; simpa using g1
      refine ⟨_, rfl, tkP b1.length t.top.label (kN t.top.label), tkP (b1 ++ t.top.label).length [58] (kM [58]), ?_, ?_, ?_⟩
      · have := ((hc1.tok (own_nameB hlab)).mark 58 (by decide)).gap (F := [32]) (by decide) ⟨_, _, rfl, by decide⟩
        rw [List.append_assoc, List.append_assoc, List.append_assoc] at this
        rw [wrHead, ← hb1]; exact this
      · rfl
      rfl
    obtain ⟨v, vs, hc3, hk3, hv3, hp3⟩ := wr_tr t _ deep b2 (us1 ++ [v1, v2]) hw.1 hc2
    obtain ⟨ws, hc4, hk4, hp4⟩ := wr_trs ts s false deep (t.wr b2) (us1 ++ [v1, v2] ++ v :: vs) hw.2 hc3
    have hall : us1 ++ [v1, v2] ++ v :: vs ++ ws = us ++ ((if first then [] else [tkP bs.length [44] (kM [44])]) ++ [v1, v2] ++ v :: vs ++ ws) := by
      rw [hu1]; cases first <;> simp
    refine ⟨(if first then [] else [tkP bs.length [44] (kM [44])]) ++ [v1, v2] ++ v :: vs ++ ws, ?_, ?_, fun T hT => ?_⟩
    · rw [← hall]
      simp only [Trs.wrR, ← hb2]
      exact hc4
    · have hh : (([v1, v2] ++ v :: vs) ++ ws).map tkey = (Trs.cons t ts).rows (!s) := by
        rw [List.map_append, List.map_append, hk2, hk3, hk4]
        simp [Trs.rows]
      cases first
      · simp only [Bool.false_eq_true, if_false, more_rows]
        rw [← hh]
        simp [tkP_key]
      simp only [if_true]
      rw [← hh]
      simp
    rw [← hall] at hT
    have hT3 : Pf T (us1 ++ [v1, v2] ++ v :: vs) := hT.app
    have hT1 : Pf T (us1 ++ v1 :: [v2]) := hT3.app
    have hk := hp3 T hT3 us1.length b1.length (by rw [hT1.at]; exact hv1)
    have hr := hp4 T hT
    rw [show (us1 ++ [v1, v2]).length = us1.length + 2 by simp] at hk
    rw [← hkk]
    simp only [Trs.idxR, Trs.plR, List.map_append, ← hb1, ← hb2]
    rw [hk]
    congr 1
    have hkl : (v :: vs).length = t.keys.length := by rw [← hk3, List.length_map]
    rw [show us1.length + 2 + t.keys.length + 1 = (us1 ++ [v1, v2] ++ v :: vs).length + (if false = true then 0 else 1) by rw [List.length_append, List.length_append, hkl]; simp]
    exact hr
end

end Go.Proofs.Ytpbflfgigfdohaa

set_option linter.unusedSimpArgs false
set_option linter.unusedVariables false
set_option maxRecDepth 100000
namespace Go.Proofs.Ytpbflfgigfdohaa
open Go Go.Vc Go.RowKit Go.Proofs

section
open Relation
/-- one uses another -/
abbrev Us (U : Nat → List Nat) : Nat → Nat → Prop := fun i j => j ∈ U i
theorem countP_lt {p q : Nat → Bool} (h : ∀ x, p x = true → q x = true) : ∀ {l : List Nat} {y : Nat}, y ∈ l → q y = true → p y = false → l.countP p < l.countP q
  | [], y, hy, _, _ => by cases hy
  | a :: l, y, hy, hq, hp => by
    have hle : l.countP p ≤ l.countP q := List.countP_mono_left (fun x _ hx => h x hx)
    rw [List.countP_cons, List.countP_cons]
    rcases List.mem_cons.1 hy with rfl | hy
    · rw [if_pos hq, if_neg (by rw [hp]; decide)]; omega
    have h1 := countP_lt h hy hq hp
    by_cases ha : p a = true
    · rw [if_pos ha, if_pos (h a ha)]; omega
    rw [if_neg ha]; split <;> omega
open Classical in
noncomputable def reachN (n : Nat) (U : Nat → List Nat) (i : Nat) : Nat := (List.range n).countP (fun k => decide (TransGen (Us U) i k))
open Classical in
theorem reach_lt {n : Nat} {U : Nat → List Nat} {i j : Nat} (hj : j < n) (hu : j ∈ U i) (hac : ¬ TransGen (Us U) j j) : reachN n U j < reachN n U i := by
  unfold reachN
  refine countP_lt (fun x hx => ?_) (List.mem_range.2 hj) ?_ ?_
  · exact decide_eq_true ((TransGen.single hu).trans (of_decide_eq_true hx))
  · exact decide_eq_true (TransGen.single hu)
  exact decide_eq_false hac
/-- without a ring there is always one that uses told ones alone -/
theorem ready_one {n : Nat} {U : Nat → List Nat} (hU : ∀ i, i < n → ∀ j ∈ U i, j < n) (hac : ∀ i, i < n → ¬ TransGen (Us U) i i) {told : Nat → Prop} : ∀ (m i : Nat), reachN n U i ≤ m → i < n → ¬ told i → ∃ k, k < n ∧ ¬ told k ∧ ∀ j ∈ U k, told j
  | 0, i, hm, hi, ht => by
    refine ⟨i, hi, ht, fun j hj => ?_⟩
    have := reach_lt (hU i hi j hj) hj (hac j (hU i hi j hj))
    omega
  | m + 1, i, hm, hi, ht => by
    by_cases h : ∀ j ∈ U i, told j
    · exact ⟨i, hi, ht, h⟩
    obtain ⟨j, hj⟩ := Classical.not_forall.1 h
    obtain ⟨hj, hn⟩ := Classical.not_imp.1 hj
    have := reach_lt (hU i hi j hj) hj (hac j (hU i hi j hj))
    exact ready_one hU hac m j (by omega) (hU i hi j hj) hn
/-- what has been seen is closed, and the target is used by none of it: then it is not led to -/
theorem closed_no {U : Nat → List Nat} {d : Nat} {S : Nat → Prop} (h0 : d ∉ U d ∧ ∀ v ∈ U d, S v) (hS : ∀ k, S k → d ∉ U k ∧ ∀ v ∈ U k, S v) : ¬ TransGen (Us U) d d := by
  have key : ∀ k, TransGen (Us U) d k → S k ∧ k ≠ d ∨ (S k ∧ k = d ∧ False) := by
    intro k hk
    induction hk with
    | single h => exact .inl ⟨h0.2 _ h, fun e => h0.1 (e ▸ h)⟩
    | tail _ h ih =>
      rcases ih with ⟨hs, -⟩ | ⟨-, -, hf⟩
      · exact .inl ⟨(hS _ hs).2 _ h, fun e => (hS _ hs).1 (e ▸ h)⟩
      exact hf.elim
  intro h
  rcases key d h with ⟨-, h1⟩ | ⟨-, -, h1⟩
  · exact h1 rfl
  exact h1
end
def whereN (D : List Df) (nm : List UInt8) : Option Nat := D.findIdx? (fun d => decide (d.name = nm))
def usesD (D : List Df) (i : Nat) : List Nat := ((tyD D i).filter (fun x => decide (x.kind = 9))).map (fun x => (whereN D x.name).getD 0)
theorem whereN_some {D : List Df} {nm : List UInt8} {i : Nat} (h : whereN D nm = some i) : ∃ hi : i < D.length, D[i].name = nm ∧ ∀ j (hj : j < i), ¬ (D[j]'(by omega)).name = nm := by
  obtain ⟨hi, h1, h2⟩ := List.findIdx?_eq_some_iff_getElem.1 h
  exact ⟨hi, by simpa using h1, fun j hj => by simpa using h2 j hj⟩
theorem whereN_none {D : List Df} {nm : List UInt8} (h : whereN D nm = none) : ∀ d ∈ D, ¬ d.name = nm := by
  intro d hd
  have := List.findIdx?_eq_none_iff.1 h d hd
  simpa using this
theorem uses_lt {D : List Df} (h : ∀ d ∈ D, ∀ x ∈ d.ty, x.kind = 9 → ∃ i, whereN D x.name = some i) {i : Nat} (hi : i < D.length) : ∀ j ∈ usesD D i, j < D.length := by
  intro j hj
  unfold usesD at hj
  obtain ⟨x, hx, rfl⟩ := List.mem_map.1 hj
  obtain ⟨hx1, hx2⟩ := List.mem_filter.1 hx
  rw [tyD_at hi] at hx1
  obtain ⟨k, hk⟩ := h _ (List.getElem_mem hi) x hx1 (of_decide_eq_true hx2)
  obtain ⟨hl, -⟩ := whereN_some hk
  rw [hk]; exact hl
def readyB (n : Nat) (U : Nat → List Nat) (out : List Nat) (i : Nat) : Bool := !out.contains i && (U i).all (fun k => out.contains k)
def nextO (n : Nat) (U : Nat → List Nat) (out : List Nat) : Option Nat := (List.range n).find? (readyB n U out)
/-- the order, grown step by step -/
def orderF (n : Nat) (U : Nat → List Nat) : Nat → List Nat → List Nat
  | 0, out => out
  | f + 1, out => match nextO n U out with
    | none => out
    | some i => orderF n U f (out ++ [i])

end Go.Proofs.Ytpbflfgigfdohaa

set_option linter.unusedSimpArgs false
set_option linter.unusedVariables false
set_option maxRecDepth 100000
namespace Go.Proofs.Ytpbflfgigfdohaa
open Go Go.Vc Go.RowKit Go.Proofs

theorem all_in : ∀ (n : Nat) (l : List Nat), (∀ i, i < n → i ∈ l) → n ≤ l.length
  | 0, _, _ => Nat.zero_le _
  | n + 1, l, h => by
    have h1 := h n (Nat.lt_succ_self n)
    have h2 := all_in n (l.erase n) (fun i hi => (List.mem_erase_of_ne (by omega)).2 (h i (by omega)))
    rw [List.length_erase_of_mem h1] at h2
    have := List.length_pos_of_mem h1
    omega
theorem some_out {n : Nat} {l : List Nat} (h : l.length < n) : ∃ i, i < n ∧ i ∉ l := by
  apply Classical.byContradiction
  intro hn
  have := all_in n l (fun i hi => Classical.byContradiction fun hm => hn ⟨i, hi, hm⟩)
  omega
/-- a list of told ones: each once, each behind those that it uses -/
structure Told (n : Nat) (U : Nat → List Nat) (out : List Nat) : Prop where
  nd : out.Nodup
  lt : ∀ i ∈ out, i < n
  cl : ∀ i ∈ out, ∀ k ∈ U i, k ∈ out
  bh : ∀ p (hp : p < out.length), ∀ k ∈ U out[p], k ∈ out.take p
theorem Told.nil {n : Nat} {U : Nat → List Nat} : Told n U [] := ⟨List.nodup_nil, fun i h => (by cases h), fun i h => (by cases h), fun p hp => by simp at hp⟩
theorem readyB_iff {n : Nat} {U : Nat → List Nat} {out : List Nat} {i : Nat} : readyB n U out i = true ↔ i ∉ out ∧ ∀ k ∈ U i, k ∈ out := by
  unfold readyB
  simp
theorem nextO_some {n : Nat} {U : Nat → List Nat} {out : List Nat} {i : Nat} (h : nextO n U out = some i) : i < n ∧ i ∉ out ∧ (∀ k ∈ U i, k ∈ out) ∧ ∀ j, j < i → ¬ (j ∉ out ∧ ∀ k ∈ U j, k ∈ out) := by
  unfold nextO at h
  obtain ⟨h1, la, lb, h2, h3⟩ := List.find?_eq_some_iff_append.1 h
  obtain ⟨r1, r2⟩ := readyB_iff.1 h1
  have hm : i ∈ List.range n := by rw [h2]; simp
  refine ⟨List.mem_range.1 hm, r1, r2, fun j hj hr => ?_⟩
  have hjm : j ∈ la := by
    have hlen : la.length = i := by
      have h4 : (List.range n)[la.length]? = some i := by rw [h2]; simp
      rw [List.getElem?_range] at h4
      · simpa using h4
      have := congrArg List.length h2; simp at this; omega
    have h5 : (List.range n)[j]? = some j := List.getElem?_range (by have := List.mem_range.1 hm; omega)
    rw [h2, List.getElem?_append_left (by omega)] at h5
    exact List.mem_of_getElem? h5
  have h6 := h3 j hjm
  rw [readyB_iff.2 hr] at h6
  simp at h6
theorem Told.step {n : Nat} {U : Nat → List Nat} {out : List Nat} (h : Told n U out) {i : Nat} (hi : nextO n U out = some i) : Told n U (out ++ [i]) := by
  obtain ⟨h1, h2, h3, -⟩ := nextO_some hi
  refine ⟨?_, fun j hj => ?_, fun j hj k hk => ?_, fun p hp k hk => ?_⟩
  · rw [List.nodup_append]
    refine ⟨h.nd, by simp, fun a ha b hb => ?_⟩
    rw [List.mem_singleton.1 hb]
    exact fun e => h2 (e ▸ ha)
  · rcases List.mem_append.1 hj with hj | hj
    · exact h.lt j hj
    rw [List.mem_singleton.1 hj]; exact h1
  · rcases List.mem_append.1 hj with hj | hj
    · exact List.mem_append_left _ (h.cl j hj k hk)
    rw [List.mem_singleton.1 hj] at hk
    exact List.mem_append_left _ (h3 k hk)
  rw [List.length_append, List.length_singleton] at hp
  rcases Nat.lt_or_ge p out.length with hl | hl
  · rw [List.getElem_append_left hl] at hk
    rw [List.take_append_of_le_length (by omega)]
    exact h.bh p hl k hk
  obtain rfl : p = out.length := by omega
  rw [List.getElem_append_right (Nat.le_refl _)] at hk
  simp only [Nat.sub_self, List.getElem_singleton] at hk
  rw [List.take_left]
  exact h3 k hk
theorem nextO_none {n : Nat} {U : Nat → List Nat} {out : List Nat} (hU : ∀ i, i < n → ∀ j ∈ U i, j < n) (hac : ∀ i, i < n → ¬ Relation.TransGen (Us U) i i) (hl : out.length < n) : ∃ i, nextO n U out = some i := by
  obtain ⟨i, hi, hn⟩ := some_out hl
  obtain ⟨k, hk, h1, h2⟩ := ready_one hU hac (told := fun j => j ∈ out) _ i (Nat.le_refl _) hi hn
  cases hx : nextO n U out with
  | some j => exact ⟨j, rfl⟩
  | none =>
    unfold nextO at hx
    have := List.find?_eq_none.1 hx k (List.mem_range.2 hk)
    exact absurd (readyB_iff.2 ⟨h1, h2⟩) this
theorem orderF_told {n : Nat} {U : Nat → List Nat} (hU : ∀ i, i < n → ∀ j ∈ U i, j < n) (hac : ∀ i, i < n → ¬ Relation.TransGen (Us U) i i) : ∀ (f : Nat) (out : List Nat), Told n U out → out.length + f = n → Told n U (orderF n U f out) ∧ (orderF n U f out).length = n
  | 0, out, h, hl => ⟨h, hl⟩
  | f + 1, out, h, hl => by
    obtain ⟨i, hi⟩ := nextO_none hU hac (show out.length < n by omega)
    unfold orderF
    rw [hi]
    exact orderF_told hU hac f (out ++ [i]) (h.step hi) (by rw [List.length_append, List.length_singleton]; omega)
theorem orderF_more {n : Nat} {U : Nat → List Nat} {f : Nat} {out : List Nat} {i : Nat} (hi : nextO n U out = some i) : orderF n U (f + 1) out = orderF n U f (out ++ [i]) := by
  rw [orderF, hi]
mutual
def depT (wh : List UInt8 → Nat) (dp : Nat → Nat) : Tr → Nat
  | .node y ks => if y.kind = 9 then dp (wh y.name) else depK wh dp ks 0 + 1
/-- the most of those ahead and these -/
def depK (wh : List UInt8 → Nat) (dp : Nat → Nat) : Trs → Nat → Nat
  | .nil, m => m
  | .cons t ts, m => depK wh dp ts (max m (depT wh dp t))
end
mutual
theorem depT_congr {wh : List UInt8 → Nat} {dp dq : Nat → Nat} : ∀ (t : Tr), (∀ x ∈ t.flat, x.kind = 9 → dp (wh x.name) = dq (wh x.name)) → depT wh dp t = depT wh dq t
  | .node y ks, h => by
    unfold depT
    split
    · rename_i h9; exact h y (List.mem_cons_self ..) h9
    rw [depK_congr ks 0 (fun x hx => h x (List.mem_cons_of_mem _ hx))]
theorem depK_congr {wh : List UInt8 → Nat} {dp dq : Nat → Nat} : ∀ (ts : Trs) (m : Nat), (∀ x ∈ ts.flat, x.kind = 9 → dp (wh x.name) = dq (wh x.name)) → depK wh dp ts m = depK wh dq ts m
  | .nil, m, _ => rfl
  | .cons t ts, m, h => by
    unfold depK
    rw [depT_congr t (fun x hx => h x (List.mem_append_left _ hx)), depK_congr ts _ (fun x hx => h x (List.mem_append_right _ hx))]
end
def updN (f : Nat → Nat) (i v : Nat) : Nat → Nat := fun j => if j = i then v else f j
/-- the depths, one definition behind the other -/
def depO (wh : List UInt8 → Nat) (T : Nat → Tr) : List Nat → (Nat → Nat) → (Nat → Nat)
  | [], f => f
  | i :: l, f => depO wh T l (updN f i (depT wh f (T i)))
theorem depO_snoc {wh : List UInt8 → Nat} {T : Nat → Tr} : ∀ (l : List Nat) (f : Nat → Nat) (i : Nat), depO wh T (l ++ [i]) f = updN (depO wh T l f) i (depT wh (depO wh T l f) (T i))
  | [], f, i => rfl
  | a :: l, f, i => by
    show depO wh T (l ++ [i]) _ = _
    rw [depO_snoc l]
    rfl
end Go.Proofs.Ytpbflfgigfdohaa

set_option linter.unusedSimpArgs false
set_option linter.unusedVariables false
set_option maxRecDepth 100000
namespace Go.Proofs.Ytpbflfgigfdohaa
open Go Go.Vc Go.RowKit Go.Proofs

mutual
/-- a name has no kids -/
def Tr.leafy : Tr → Prop
  | .node y ks => (y.kind = 9 → ks = .nil) ∧ ks.leafy
def Trs.leafy : Trs → Prop
  | .nil => True
  | .cons t ts => t.leafy ∧ ts.leafy
end
mutual
theorem wf_leafy : ∀ (t : Tr) (a : Int) (d : Nat), t.wf a d → t.leafy
  | .node y ks, a, d, h => by
    obtain ⟨-, -, hr, hk, hks⟩ := h
    refine ⟨fun h9 => ?_, wfs_leafy ks _ _ hks⟩
    obtain ⟨hok, -, -, -⟩ := rightB_iff hr
    have hk0 : y.kids = 0 := by rcases okB_cases hok with g | g | g | g | g <;> omega
    exact trs_nil (by omega)
theorem wfs_leafy : ∀ (ts : Trs) (a : Int) (d : Nat), ts.wf a d → ts.leafy
  | .nil, _, _, _ => trivial
  | .cons t ts, a, d, h => ⟨wf_leafy t _ _ h.1, wfs_leafy ts _ _ h.2⟩
end


mutual
theorem dep_ge {wh : List UInt8 → Nat} {dp : Nat → Nat} : ∀ (t : Tr), ∀ x ∈ t.flat, x.kind = 9 → t.leafy → dp (wh x.name) ≤ depT wh dp t
  | .node y ks, x, hx, h9, hl => by
    unfold depT
    rcases List.mem_cons.1 hx with rfl | hx
    · rw [if_pos h9]; exact Nat.le_refl _
    unfold Tr.leafy at hl
    split
    · rename_i hy; rw [hl.1 hy] at hx; cases hx
    exact Nat.le_succ_of_le ((depK_ge ks 0 hl.2).2 x hx h9)
theorem depK_ge {wh : List UInt8 → Nat} {dp : Nat → Nat} : ∀ (ts : Trs) (m : Nat), ts.leafy → m ≤ depK wh dp ts m ∧ ∀ x ∈ ts.flat, x.kind = 9 → dp (wh x.name) ≤ depK wh dp ts m
  | .nil, m, _ => ⟨Nat.le_refl _, fun x hx => by cases hx⟩
  | .cons t ts, m, hl => by
    unfold Trs.leafy at hl
    unfold depK
    obtain ⟨h1, h2⟩ := depK_ge ts (max m (depT wh dp t)) hl.2
    refine ⟨Nat.le_trans (Nat.le_max_left _ _) h1, fun x hx h9 => ?_⟩
    rcases List.mem_append.1 hx with hx | hx
    · exact Nat.le_trans (dep_ge t x hx h9 hl.1) (Nat.le_trans (Nat.le_max_right _ _) h1)
    exact h2 x hx h9
end


end Go.Proofs.Ytpbflfgigfdohaa

set_option linter.unusedSimpArgs false
set_option linter.unusedVariables false
namespace Go.Vc
open Go Go.RowKit Go.Maps Go.ChangeMaps
/-- a map's type: its key's and its element's, an int -/
structure MTy (P : Program) (t k e : TypeId) : Prop where
  kd : Keyed P k
  ht : P.underlying t = some (.map k e)
  he : P.underlying e = some (.int .i64)
  hz : ∀ w, (zeroValue e).run P w = .ok (.int .i64 0) w
/-- block b of w is a map of at most n entries in which g stands -/
def MapIs (P : Program) (k e : TypeId) {α : Type} (en : α → Lit) (w : World) (b n : Nat) (g : α → Option Int) : Prop :=
  ∃ D : DataW Unit, w.ownsMap P k (plainElem P e) b n D ∧ ∀ a, Maps.has D (en a) = (g a).isSome ∧ ∀ v, g a = some v → D.atKey (en a) (.lit (.int .i64 0)) = .lit (.int .i64 v)
def enS (s : List UInt8) : Lit := .string s
def enI (a : Int) : Lit := .int .i64 a
section
variable {P : Program} {e : Env} {w : World} {K : Value → World → Prop} {ty : TypeId} {α : Type} {en : α → Lit} {t kt et : TypeId} {b n : Nat} {g : α → Option Int}
theorem MapIs.made (P : Program) (kt et : TypeId) (en : α → Lit) (w : World) : MapIs P kt et en (w.alloc (.map #[] 0)) w.heap.size 0 (fun _ => none) :=
  ⟨_, World.ownsMap_made w P kt _, fun a => ⟨rfl, fun v h => by cases h⟩⟩
theorem MapIs.lt (h : MapIs P kt et en w b n g) : b < w.heap.size := by obtain ⟨D, h, -⟩ := h; exact h.lt
theorem MapIs.mono (h : MapIs P kt et en w b n g) {m : Nat} (hm : n ≤ m) : MapIs P kt et en w b m g := by obtain ⟨D, h, r⟩ := h; exact ⟨D, h.mono hm, r⟩
theorem MapIs.only {w' : World} {F : Nat → Prop} (h : MapIs P kt et en w b n g) (ho : Only F w w') (hn : ¬ F b) : MapIs P kt et en w' b n g := by
  obtain ⟨D, h, r⟩ := h
  have hlt := h.lt
  obtain ⟨es, clock, hb, Ft, hs, hD⟩ := h
  exact ⟨D, ⟨es, clock, (ho.block b hlt hn).trans hb, Ft, hs, hD⟩, r⟩
theorem MapIs.ext {w' : World} (h : MapIs P kt et en w b n g) (ho : Only No w w') : MapIs P kt et en w' b n g := h.only ho (fun h => h)
theorem o_mkM {t : TypeId} (k : K (.map (some w.heap.size)) (w.alloc (.map #[] 0))) : OP P e (.makeMap t none) ty w K :=
  OP.of (by simp [execOp, run_makeMap]) k
theorem MapIs.val {D : DataW Unit} (h : ∀ a, Maps.has D (en a) = (g a).isSome ∧ ∀ v, g a = some v → D.atKey (en a) (.lit (.int .i64 0)) = .lit (.int .i64 v)) {a : α} {c : Int} (hc : D.atKey (en a) (.lit (.int .i64 0)) = .lit (.int .i64 c)) : c = (g a).getD 0 := by
  obtain ⟨h1, h2⟩ := h a
  cases hg : g a with
  | some v =>
    rw [h2 v hg] at hc
    simp only [DataW.lit.injEq, Lit.int.injEq, true_and] at hc
    exact hc.symm
  | none =>
    rw [hg] at h1
    rw [atKey_of_not_has h1] at hc
    simp only [DataW.lit.injEq, Lit.int.injEq, true_and] at hc
    exact hc.symm
/-- 'v, ok := m[k]' -/
theorem o_lkO {x y : Operand} {key : Value} {a : α} (hT : MTy P t kt et) (hx : ev e x = .map (some b)) (hM : MapIs P kt et en w b n g) (hy : ev e y = key) (hkl : keyOf P kt key = some (en a))
    (kk : K (.tuple #[.int .i64 ((g a).getD 0), .bool (g a).isSome]) w) : OP P e (.lookup t x y true) ty w K := by
  obtain ⟨D, hown, hD⟩ := hM
  obtain ⟨v, ps, hrun, hv⟩ := hown.look_ok hT.kd hT.ht (hT.hz w) (plainElem_int hT.he (by decide)) hkl
  obtain ⟨c, rfl, hc, -⟩ := plainElem_int_inv hT.he hv
  have hcv := MapIs.val hD (congrArg Prod.fst hc)
  subst hcv
  rw [(hD a).1] at hrun
  exact OP.of (by simp [execOp, hx, hy, hrun]) kk
/-- 'm[k]' -/
theorem o_lk {x y : Operand} {key : Value} {a : α} (hT : MTy P t kt et) (hx : ev e x = .map (some b)) (hM : MapIs P kt et en w b n g) (hy : ev e y = key) (hkl : keyOf P kt key = some (en a))
    (kk : K (.int .i64 ((g a).getD 0)) w) : OP P e (.lookup t x y false) ty w K := by
  obtain ⟨D, hown, hD⟩ := hM
  obtain ⟨v, ps, hrun, hv⟩ := hown.lookup hT.kd hT.ht (hT.hz w) (plainElem_int hT.he (by decide)) hkl
  obtain ⟨c, rfl, hc, -⟩ := plainElem_int_inv hT.he hv
  have hcv := MapIs.val hD (congrArg Prod.fst hc)
  subst hcv
  exact OP.of (by simp [execOp, hx, hy, hrun]) kk
/-- 'm[k] = v' -/
theorem o_mu [DecidableEq α] {x y z : Operand} {key : Value} {a : α} {v : Int} (hen : ∀ a b, en a = en b → a = b) (hT : MTy P t kt et) (hx : ev e x = .map (some b)) (hM : MapIs P kt et en w b n g) (hy : ev e y = key) (hkl : keyOf P kt key = some (en a))
    (hv : ev e z = .int .i64 v) (hw : (Lit.int .i64 v).wf = true) (hn : n < maxLen)
    (kk : ∀ w', MapIs P kt et en w' b (n + 1) (fun c => if c = a then some v else g c) → Only (fun k => k = b) w w' → w'.heap.size = w.heap.size → K undef w') : OP P e (.mapUpdate t x y z) ty w K := by
  obtain ⟨D, hown, hD⟩ := hM
  obtain ⟨w', hrun, hown', es, clock, es', clock', hb, hw'⟩ := hown.store hT.kd hT.ht hn hkl (plainElem_int hT.he hw)
  refine OP.ofS (w' := w') (by simp [execOp, hx, hy, hv, hrun]) (kk w' ⟨_, hown', fun c => ?_⟩ ?_ ?_)
  · have hK := hT.kd.key hkl
    by_cases hc : c = a
    · subst hc
      simp only [if_true]
      rw [has_put_same hown.isMap hK]
      refine ⟨rfl, fun u hu => ?_⟩
      cases hu
      exact atKey_put_same hown.isMap hK _ _
    have hne : en c ≠ en a := fun h => hc (hen _ _ h)
    simp only [if_neg hc]
    rw [has_put_other hne]
    refine ⟨(hD c).1, fun u hu => ?_⟩
    rw [atKey_put_other hne]
    exact (hD c).2 u hu
  · subst hw'
    exact ⟨rfl, rfl, rfl, by simp [setBlock], fun k _ hk => heap_setBlock_other hb _ (fun e => hk e)⟩
  subst hw'
  simp [setBlock]
theorem keyS {k : TypeId} (hk : P.underlying k = some .string) {s : List UInt8} (hs : s.length ≤ maxLen) : keyOf P k (st s) = some (enS s) :=
  Go.WideMaps.keyOf_string_mk hk (s := ⟨s.toArray⟩) (by simpa [ByteArray.size] using hs)
theorem keyI {k : TypeId} (hk : P.underlying k = some (.int .i64)) {a : Int} (h : -9223372036854775808 ≤ a ∧ a ≤ 9223372036854775807) : keyOf P k (.int .i64 a) = some (enI a) :=
  keyOf_int_mk hk (by simp [Lit.wf, IntKind.min, IntKind.max, IntKind.signed, IntKind.bits]; omega)
theorem wf_i64 {a : Int} (h : -9223372036854775808 ≤ a ∧ a ≤ 9223372036854775807) : (Lit.int .i64 a).wf = true := by
  simp [Lit.wf, IntKind.min, IntKind.max, IntKind.signed, IntKind.bits]; omega
theorem enS_inj : ∀ a b, enS a = enS b → a = b := fun a b h => by unfold enS at h; simpa using h
theorem enI_inj : ∀ a b, enI a = enI b → a = b := fun a b h => by unfold enI at h; simpa using h
end
end Go.Vc

set_option linter.unusedSimpArgs false
set_option linter.unusedVariables false
set_option maxRecDepth 100000
namespace Go.Proofs.Ytpbflfgigfdohaa
open Go Go.Vc Go.RowKit Go.Proofs
theorem TI88 : Ty Try.prog 88 (.map 9 3) 1 8 (.map none) := ⟨Try.underlying88, Try.t88, Try.type88, rfl, rfl, rfl⟩
theorem MT88 : MTy Try.prog 88 9 3 := ⟨Go.Maps.string_keyed Try.underlying9, Try.underlying88, Try.underlying3, fun w => TI3.run_zero w⟩
theorem TI137 : Ty Try.prog 137 (.func #[3] #[4] .false) 1 8 .nilFunc := ⟨Try.underlying137, Try.t137, Try.type137, rfl, rfl, rfl⟩
theorem TI141 : Ty Try.prog 141 (.map 3 3) 1 8 (.map none) := ⟨Try.underlying141, Try.t141, Try.type141, rfl, rfl, rfl⟩
theorem MT141 : MTy Try.prog 141 3 3 := ⟨Go.Maps.int_keyed Try.underlying3, Try.underlying141, Try.underlying3, fun w => TI3.run_zero w⟩
theorem TI155 : Ty Try.prog 155 (.func #[3] #[3, 3] .false) 1 8 .nilFunc := ⟨Try.underlying155, Try.t155, Try.type155, rfl, rfl, rfl⟩
theorem where_hit {D : List Df} {nm : List UInt8} {k : Nat} (hk : k < D.length) (h : D[k].name = nm) (hb : ∀ j, j < k → ¬ (D.getD j df0).name = nm) : whereN D nm = some k := by
  refine List.findIdx?_eq_some_iff_getElem.2 ⟨hk, decide_eq_true h, fun j hj => ?_⟩
  have := hb j hj
  rw [getD_at (by omega)] at this
  simpa using this
theorem where_miss {D : List Df} {nm : List UInt8} (hb : ∀ j, j < D.length → ¬ (D.getD j df0).name = nm) : whereN D nm = none := by
  refine List.findIdx?_eq_none_iff.2 fun d hd => ?_
  obtain ⟨j, hj, rfl⟩ := List.getElem_of_mem hd
  have := hb j hj
  rw [getD_at hj] at this
  simpa using this
def iv (k : Nat) : Value := .int .i64 (k : Int)
/-- a source's book: where it lies, and its map -/
structure Bk (w : World) (pb mb : Nat) (D : List Df) (dv : Value) (V : Nat → Value) : Prop where
  cell : w.heap[pb]? = some (.cells #[dv, .map (some mb)] 136 (0, 0))
  rd : DefR w D dv V
  mp : MapIs Try.prog 9 3 enS w mb D.length (fun s => (whereN D s).map Int.ofNat)
theorem Bk.ext {w w' : World} {pb mb : Nat} {D : List Df} {dv : Value} {V : Nat → Value} (h : Bk w pb mb D dv V) (ho : Ext w w') : Bk w' pb mb D dv V := ⟨ho.blk h.cell (fun h => h), h.rd.ext ho, h.mp.ext ho⟩
theorem getD_cast (o : Option Nat) : (o.map Int.ofNat).getD 0 = ((o.getD 0 : Nat) : Int) := by cases o <;> rfl
/-- the names that the first k nodes use -/
def usesK (D : List Df) (L : List Ex) (k : Nat) : List Nat := ((L.take k).filter (fun x => decide (x.kind = 9))).map (fun x => (whereN D x.name).getD 0)
theorem usesK_no {D : List Df} {L : List Ex} {k : Nat} (hk : k < L.length) (h : ¬ L[k].kind = 9) : usesK D L (k + 1) = usesK D L k := by
  unfold usesK
  rw [List.take_succ_eq_append_getElem hk, List.filter_append]
  simp [h]
theorem usesK_yes {D : List Df} {L : List Ex} {k : Nat} (hk : k < L.length) (h : L[k].kind = 9) : usesK D L (k + 1) = usesK D L k ++ [(whereN D L[k].name).getD 0] := by
  unfold usesK
  rw [List.take_succ_eq_append_getElem hk, List.filter_append]
  simp [h]
theorem usesK_all {D : List Df} {i : Nat} (hi : i < D.length) : usesK D D[i].ty D[i].ty.length = usesD D i := by
  unfold usesK usesD
  rw [List.take_length, tyD_at hi]
theorem usesK_len (D : List Df) (L : List Ex) (k : Nat) : (usesK D L k).length ≤ L.length := by
  unfold usesK
  rw [List.length_map]
  exact Nat.le_trans (List.length_filter_le _ _) (by rw [List.length_take]; omega)

set_option maxHeartbeats 1000000 in
theorem find_spec (D : List Df) (dv : Value) (V : Nat → Value) (nm : List UInt8) (w0 : World) (hD : DefR w0 D dv V) (hlen : D.length * 48 ≤ 140737488351232) : Ca Try.prog 57 #[.agg #[dv], st nm] w0 (fun v w' => v = .tuple #[.int .i64 (((whereN D nm).getD 0 : Nat) : Int), .int .i64 (if (whereN D nm).isSome then 0 else 81)] ∧ Ext w0 w') := by
  refine Ca.of Try.func57 Try.ntmps57 rfl rfl ?_
  refine W.seq ?_
  refine W.region ?_
  refine WL.c rfl (o_boxB rfl ?_)
  intro w2 hC2 hx2 hs2
  obtain ⟨b2, hb2⟩ : ∃ b, b = w0.heap.size := ⟨_, rfl⟩
  rw [← hb2] at hC2 ⊢
  replace hC2 : w2.heap[b2]? = some (.cells ([dv]).toArray 25 (0, 0)) := hC2
  have hx := hx2
  replace hD := hD.ext hx2
  refine WL.c rfl (o_ash (show _ = Value.int _ _ from rfl) ?_)
  refine WL.c rfl (o_ash (show _ = Value.int _ _ from rfl) ?_)
  refine WL.nil ?_
  refine W.seq ?_
  refine W.seq ?_
  refine W.region ?_
  refine WL.c rfl (o_fa 0 TI25 rfl TI23 rfl rfl ?_)
  refine WL.c rfl (o_ld TI23 rfl rfl (cell_of hC2 rfl) ?_)
  refine WL.c rfl (o_lenR TI23 rfl hD.row ?_)
  refine WL.c rfl (o_mvh (show _ = Value.int _ _ from rfl) ?_)
  refine WL.nil ?_
  refine W.block ?_
  refine W.loop (fun e w => ∃ k : Nat, k ≤ D.length ∧ e 1 = st nm ∧ e 9 = dv ∧ e 10 = .int .i64 (D.length : Int) ∧ e 11 = .int .i64 (k : Int) ∧ DefR w D dv V ∧ (∀ j, j < k → ¬ (D.getD j df0).name = nm) ∧ Ext w0 w) (fun e w => D.length - (intOf (e 11)).toNat) ?_ ?_
  · exact ⟨0, Nat.zero_le _, rfl, rfl, rfl, rfl, hD, fun j hj => by omega, hx⟩
  rintro e w ⟨k, hk, h1, h9, h10, h11, hD, hno, hx⟩
  have hm11 := h11
  refine W.seq ?_
  refine W.region ?_
  refine WL.c rfl (o_lt h11 h10 ?_)
  refine WL.nil ?_
  refine W.seq ?_
  refine W.cond rfl (fun c12 => ?_) (fun c12 => ?_)
  · try simp only [cs8] at c12
    have hk1 : k < D.length := by omega
    obtain ⟨tb, to_, tc, rfl, htc, hty⟩ := hD.atk hk1
    refine W.skip ?_
    refine W.seq ?_
    refine W.block ?_
    refine W.seq ?_
    refine W.region ?_
    refine WL.c rfl (o_mvh h11 ?_)
    refine WL.c rfl (o_ixB TI23 TI39 h9 h11 (by omega) ?_)
    refine WL.c rfl (o_ldA TI39 rfl rfl htc rfl ?_)
    refine WL.c rfl (o_alB TI39 ?_)
    intro wa hCa hxa hsa
    refine WL.c rfl (o_ash (show _ = Value.int _ _ from rfl) ?_)
    refine WL.u (o_stA TI39 rfl (show _ = Value.agg (dcell D[k] (V k)).toArray from rfl) rfl (by simp only [dcell, List.toArray, Array.toList, List.all_cons, List.all_nil, sl_one1 hty]; rfl) hCa rfl ?_)
    intro wb7 hC7 hob hsb
    have hxb := Ext.own hxa (Nat.le_refl _) hob
    obtain ⟨b7, hb7⟩ : ∃ b, b = w.heap.size := ⟨_, rfl⟩
    rw [← hb7] at hC7 ⊢
    clear hCa hxa hsa hob hsb
    replace hx := hx.tr hxb
    replace hD := hD.ext hxb
    replace hty := hty.ext hxb
    clear hxb
    refine WL.nil ?_
    refine W.seq ?_
    refine W.region ?_
    refine WL.c rfl (o_fa 0 TI39 rfl TI9 rfl rfl ?_)
    refine WL.c rfl (o_ld TI9 rfl rfl (cell_of hC7 rfl) ?_)
    refine WL.c rfl (o_mvh h1 ?_)
    refine WL.c rfl (o_eqT rfl rfl ?_)
    refine WL.nil ?_
    refine W.cond rfl (fun c19 => ?_) (fun c19 => ?_)
    · try simp only [cs8] at c19
      refine W.seq ?_
      refine W.region ?_
      refine WL.c rfl (o_mvh (show _ = Value.int _ _ from rfl) ?_)
      refine WL.c rfl (o_ash (show _ = Value.int _ _ from rfl) ?_)
      refine WL.c rfl (o_ash (show _ = Value.int _ _ from rfl) ?_)
      refine WL.nil ?_
      refine W.ret ?_
      refine ret2v rfl (show _ = Value.int _ _ from rfl) (show _ = Value.int _ _ from rfl) ?_
      exact ⟨by rw [where_hit hk1 (by simpa using c19) hno]; rfl, hx⟩
    try simp only [cs8] at c19
    refine W.skip ?_
    refine W.region ?_
    refine WL.c rfl (o_addi h11 rfl (by omega) ?_)
    refine WL.c rfl (o_mvh (show _ = Value.int _ _ from rfl) ?_)
    refine WL.nil ?_
    refine ⟨⟨k + 1, by omega, h1, h9, h10, rfl, hD, fun j hj => ?_, hx⟩, ?_⟩
    · rcases Nat.lt_or_ge j k with h | h
      · exact hno j h
      rw [show j = k by omega, getD_at hk1]; simpa using c19
    show D.length - ((k : Int) + 1).toNat < _
    rw [hm11]; simp [intOf]; omega
  try simp only [cs8] at c12
  have hk1 : k = D.length := by omega
  refine W.exit ?_
  refine W.seq ?_
  refine W.region ?_
  refine WL.c rfl (o_ash (show _ = Value.int _ _ from rfl) ?_)
  refine WL.c rfl (o_ash (show _ = Value.int _ _ from rfl) ?_)
  refine WL.nil ?_
  refine W.ret ?_
  refine ret2v rfl (show _ = Value.int _ _ from rfl) (show _ = Value.int _ _ from rfl) ?_
  exact ⟨by rw [where_miss (fun j hj => hno j (by omega))]; rfl, hx⟩
theorem fault_spec (er at_ : Int) (w0 : World) : Ca Try.prog 80 #[.int .i64 er, .int .i64 at_] w0 (fun v w' => v = .agg #[.int .i64 er, .int .i64 at_] ∧ Ext w0 w') := by
  refine Ca.of Try.func80 Try.ntmps80 rfl rfl ?_
  refine W.seq ?_
  refine W.region ?_
  refine WL.c rfl (o_alB TI28 ?_)
  intro wa hCa hxa hsa
  obtain ⟨c4, hc4⟩ : ∃ c, c = w0.heap.size := ⟨_, rfl⟩
  rw [← hc4] at hCa ⊢
  refine WL.nil ?_
  refine W.seq ?_
  refine W.region ?_
  refine WL.c rfl (o_mvh (show _ = Value.int _ _ from rfl) ?_)
  refine WL.c rfl (o_mvh (show _ = Value.int _ _ from rfl) ?_)
  refine WL.c rfl (o_bldC (cs := [_, _]) TI28 (Sizes.cons TI26 (Sizes.cons TI3 Sizes.nil)) rfl (lcp (show _ = Value.int _ _ from rfl) (lcp (show _ = Value.int _ _ from rfl) lnp)) rfl rfl ?_)
  refine WL.u (o_stA TI28 rfl (show _ = Value.agg #[.int .i64 er, .int .i64 at_] from rfl) rfl rfl hCa rfl ?_)
  intro wb hCb hob hsb
  have hx : Ext w0 wb := hxa.trans' hob (fun _ h => h) (fun k hk he => by omega)
  refine WL.nil ?_
  refine W.ret ?_
  refine retC rfl TI28 rfl rfl (show Cells _ c4 0 [.int .i64 er, .int .i64 at_] from Cells.of hCb 0 _ (by simp)) rfl ?_
  exact ⟨rfl, hx⟩
set_option maxHeartbeats 1000000 in
theorem uses_spec (pb mb i : Nat) (D : List Df) (dv : Value) (V : Nat → Value) (w0 : World) (hB : Bk w0 pb mb D dv V) (hlim : DOk D) (hi : i < D.length) : Ca Try.prog 83 #[.pointer (some ⟨pb, 0, none⟩), .int .i64 (i : Int)] w0 (fun v w' => w'.ownsRow w0.heap.size 3 1 v (usesD D i).length ((usesD D i).map iv) ∧ Ext w0 w') := by
  have hx : Ext w0 w0 := Only.refl _ _
  have hlen := hlim.len
  have htl := hlim.ty _ (List.getElem_mem hi)
  have hnm := hlim.ex _ (List.getElem_mem hi)
  obtain ⟨gb, go, gc, hdv, hgc, hty⟩ := hB.rd.atk hi
  obtain ⟨BB, hBB⟩ : ∃ B, B = w0.heap.size := ⟨_, rfl⟩
  rw [← hBB]
  have hcl := hB.cell
  rw [hdv] at hcl
  have hB00 := hB
  have hty00 := hty
  refine Ca.of Try.func83 Try.ntmps83 rfl rfl ?_
  refine W.seq ?_
  refine W.region ?_
  refine WL.c rfl (o_ash (by first | exact (show _ = Value.slice _ _ _ from rfl) | exact rfl) ?_)
  refine WL.nil ?_
  refine W.seq ?_
  refine W.region ?_
  refine WL.c rfl (o_ash (by first | exact (show _ = Value.slice _ _ _ from rfl) | exact rfl) ?_)
  refine WL.nil ?_
  refine W.seq ?_
  refine W.seq ?_
  refine W.region ?_
  refine WL.c rfl (o_mvh (by first | exact (show _ = Value.pointer _ from rfl) | exact rfl) ?_)
  refine WL.c rfl (o_nil rfl ?_)
  refine WL.c rfl (o_fa 0 TI136 rfl TI23 rfl rfl ?_)
  refine WL.c rfl (o_ld TI23 rfl rfl (cell_of hcl rfl) ?_)
  refine WL.c rfl (o_mvh (show _ = Value.int _ _ from rfl) ?_)
  refine WL.c rfl (o_ixB (i := i) TI23 TI39 rfl rfl (by omega) ?_)
  refine WL.c rfl (o_fa 2 TI39 rfl TI37 rfl rfl ?_)
  refine WL.c rfl (o_ld TI37 rfl rfl (hgc 2 _ rfl) ?_)
  refine WL.c rfl (o_lenR TI37 rfl hty ?_)
  refine WL.c rfl (o_mvh (show _ = Value.int _ _ from rfl) ?_)
  refine WL.nil ?_
  refine W.block ?_
  refine W.loop (fun e w => ∃ (k : Nat) (out : Value), k ≤ D[i].ty.length ∧ e 0 = .pointer (some ⟨pb, 0, none⟩) ∧ e 5 = out ∧ e 15 = V i ∧ e 16 = .int .i64 (D[i].ty.length : Int) ∧ e 17 = .int .i64 (k : Int) ∧ Bk w pb mb D dv V ∧ Sl w 7 (V i) D[i].ty.length (exs D[i].ty) ∧ w.ownsRow BB 3 1 out (usesK D D[i].ty k).length ((usesK D D[i].ty k).map iv) ∧ Ext w0 w) (fun e w => D[i].ty.length - (intOf (e 17)).toNat) ?_ ?_
  · exact ⟨0, .slice none 0 0, Nat.zero_le _, rfl, rfl, rfl, rfl, rfl, hB, hty, World.ownsRow_nil _ _ _ _, hx⟩
  rintro e w ⟨k, out, hk, h0, h5, h15, h16, h17, hB, hty, hrow, hx⟩
  have hm17 := h17
  refine W.seq ?_
  refine W.region ?_
  refine WL.c rfl (o_lt h17 h16 ?_)
  refine WL.nil ?_
  refine W.seq ?_
  refine W.cond rfl (fun c18 => ?_) (fun c18 => ?_)
  · try simp only [cs8] at c18
    have hk1 : k < D[i].ty.length := by omega
    obtain ⟨ub, uo, uc, hV1, huc⟩ := Sl.exq hty hk1
    rw [hV1] at h15
    have hnk := (hnm _ (List.getElem_mem hk1)).1
    have hul := usesK_len D D[i].ty k
    refine W.skip ?_
    refine W.seq ?_
    refine W.block ?_
    refine W.seq ?_
    refine W.region ?_
    refine WL.c rfl (o_ixB TI37 TI41 h15 h17 (by omega) ?_)
    refine WL.c rfl (o_ldA TI41 rfl rfl huc rfl ?_)
    refine WL.c rfl (o_alB TI41 ?_)
    intro wa hCa hxa hsa
    refine WL.u (o_stA TI41 rfl (show _ = Value.agg (exV D[i].ty[k]).toArray from rfl) rfl rfl hCa rfl ?_)
    intro wb7 hC7 hob hsb
    have hxb := Ext.own hxa (Nat.le_refl _) hob
    obtain ⟨b7, hb7⟩ : ∃ b, b = w.heap.size := ⟨_, rfl⟩
    rw [← hb7] at hC7 ⊢
    clear hCa hxa hsa hob hsb
    replace hx := hx.tr hxb
    replace hB := hB.ext hxb
    replace hty := hty.ext hxb
    replace hrow := own_ext hrow hxb
    clear hxb
    refine WL.nil ?_
    refine W.seq ?_
    refine W.region ?_
    refine WL.c rfl (o_fa 0 TI41 rfl TI3 rfl rfl ?_)
    refine WL.c rfl (o_ld TI3 rfl rfl (cell_of hC7 rfl) ?_)
    refine WL.c rfl (o_eq rfl rfl ?_)
    refine WL.nil ?_
    refine W.cond rfl (fun c23 => ?_) (fun c23 => ?_)
    · try simp only [cs8] at c23
      have h9 : D[i].ty[k].kind = 9 := by simpa using c23
      obtain ⟨wd, hwd⟩ : ∃ wd, wd = wb7.drew := ⟨_, rfl⟩
      have hxd : Ext wb7 wd := hwd ▸ Only.drew wb7
      replace hx := hx.tr hxd
      replace hB := hB.ext hxd
      replace hty := hty.ext hxd
      replace hrow := own_ext hrow hxd
      replace hC7 := hxd.blk hC7 (fun h => h)
      have hcl6 := hB.cell
      refine W.drawT 9 (Ext) [(0, fun v _ => v = _), (5, fun v _ => v = _), (7, fun v _ => v = _), (15, fun v _ => v = _), (16, fun v _ => v = _), (17, fun v _ => v = _)] rfl (by kernel_rfl) (Only.refl No) (fun _ _ _ h k => h.trans k) ⟨Mono.eq, Mono.eq, Mono.eq, Mono.eq, Mono.eq, Mono.eq, trivial⟩ ⟨h0, h5, rfl, h15, h16, h17, trivial⟩ ?_
      refine WD.p rfl (fun e w hR hh => by obtain ⟨h5, -⟩ := hh; exact SG.n (o_mvh h5 ⟨rfl, Only.refl No _⟩)) ?_
      refine WD.p rfl (fun e w hR hh => by obtain ⟨h0, -⟩ := hh; exact SG.n (o_mvh h0 ⟨rfl, Only.refl No _⟩)) ?_
      refine WD.p rfl (fun e w hR hh => by obtain ⟨h25, -⟩ := hh; exact SG.n (o_nil h25 ⟨rfl, Only.refl No _⟩)) ?_
      refine WD.p rfl (fun e w hR hh => by obtain ⟨h26, -⟩ := hh; exact SG.n (o_fa 1 TI136 rfl TI88 rfl h26 ⟨rfl, Only.refl No _⟩)) ?_
      refine WD.p rfl (fun e w hR hh => by obtain ⟨h27, -⟩ := hh; rw [← hwd] at hR; exact SG.n (o_ld TI88 rfl h27 (cell_of (hR.blk hcl6 (fun h => h)) rfl) ⟨rfl, Only.refl No _⟩)) ?_
      refine WD.p rfl (fun e w hR hh => by obtain ⟨h7, -⟩ := hh; exact SG.n (o_fa 2 TI41 rfl TI9 rfl h7 ⟨rfl, Only.refl No _⟩)) ?_
      refine WD.p rfl (fun e w hR hh => by obtain ⟨h29, -⟩ := hh; rw [← hwd] at hR; exact SG.n (o_ld TI9 rfl h29 (cell_of (hR.blk hC7 (fun h => h)) rfl) ⟨rfl, Only.refl No _⟩)) ?_
      refine WD.p rfl (fun e w hR hh => by obtain ⟨h30, h28, -⟩ := hh; rw [← hwd] at hR; exact SG.n (o_lk MT88 h28 (hB.mp.ext hR) h30 (keyS Try.underlying9 (by rw [maxLen_eq]; omega)) ⟨rfl, Only.refl No _⟩)) ?_
      refine WD.q (fun u w => w.ownsRow wd.heap.size 3 1 u 1 [iv ((whereN D D[i].ty[k].name).getD 0)]) (fun u w w2 hR hh => own_ext hh hR) rfl (fun e w hR hh => by obtain ⟨h31, -⟩ := hh; rw [← hwd] at hR; rw [getD_cast] at h31; exact SG.n (o_bs1 TI79 TI3 h31 (by decide) (by decide) rfl ⟨own_mono (own_new1 rfl) hR.size, Only.alloc w _⟩)) ?_
      rintro e w hR ⟨h32, h31, h30, h29, h28, h27, h26, h25, h24, h0, h5, h7, h15, h16, h17, -⟩
      rw [← hwd] at hR
      replace hx := hx.tr hR
      replace hB := hB.ext hR
      replace hty := hty.ext hR
      replace hrow := own_ext hrow hR
      refine WL.c rfl (o_apO (BB) TI79 TI3 h24 rfl hrow (Sl.own h32) rfl (by decide) (fun a ha => by rw [List.mem_singleton.1 ha]; rfl) (by rw [maxLen_eq]; omega) (by omega) (by rw [hBB]; exact hx.size) ?_)
      intro v33 w33 hrow33 ho33 hb33 _
      have hrl : ∀ b, out.ownBlock = some b → BB ≤ b := fun b hb => (hrow.lt b hb).1
      have hxo : Ext w0 w33 := hx.trans' ho33 (fun _ h => h) (fun b hb he => by have := hrl b he; omega)
      replace hx := hxo
      obtain ⟨outN, hon⟩ : ∃ o, o = v33 := ⟨_, rfl⟩
      rw [← hon]
      have hrow2 : w33.ownsRow BB 3 1 outN (usesK D D[i].ty (k + 1)).length ((usesK D D[i].ty (k + 1)).map iv) := by
        rw [usesK_yes hk1 h9, List.map_append, List.length_append, hon]; exact hrow33
      replace hB := hB00.ext hx
      replace hty := hty00.ext hx
      refine WL.c rfl (o_ash (by first | exact (show _ = Value.slice _ _ _ from rfl) | exact rfl) ?_)
      refine WL.nil ?_
      refine W.region ?_
      refine WL.c rfl (o_addi h17 rfl (by omega) ?_)
      refine WL.c rfl (o_mvh (show _ = Value.int _ _ from rfl) ?_)
      refine WL.nil ?_
      refine ⟨⟨k + 1, outN, by omega, h0, by first | exact h5 | rfl, h15.trans hV1.symm, h16, rfl, hB, hty, hrow2, hx⟩, ?_⟩
      show D[i].ty.length - ((k : Int) + 1).toNat < _
      rw [hm17]; simp [intOf]; omega
    try simp only [cs8] at c23
    have h9 : ¬ D[i].ty[k].kind = 9 := by simpa using c23
    have hrow2 := hrow
    rw [← usesK_no hk1 h9] at hrow2
    obtain ⟨outN, hon⟩ : ∃ o, o = out := ⟨_, rfl⟩
    rw [← hon] at hrow2 h5
    refine W.skip ?_
    refine W.region ?_
    refine WL.c rfl (o_addi h17 rfl (by omega) ?_)
    refine WL.c rfl (o_mvh (show _ = Value.int _ _ from rfl) ?_)
    refine WL.nil ?_
    refine ⟨⟨k + 1, outN, by omega, h0, by first | exact h5 | rfl, h15.trans hV1.symm, h16, rfl, hB, hty, hrow2, hx⟩, ?_⟩
    show D[i].ty.length - ((k : Int) + 1).toNat < _
    rw [hm17]; simp [intOf]; omega
  try simp only [cs8] at c18
  have hk1 : k = D[i].ty.length := by omega
  subst hk1
  refine W.exit ?_
  refine W.seq ?_
  refine W.region ?_
  refine WL.c rfl (o_mvh h5 ?_)
  refine WL.c rfl (o_ash (by first | exact (show _ = Value.slice _ _ _ from rfl) | exact rfl) ?_)
  refine WL.nil ?_
  refine W.ret ?_
  refine ret1v rfl rfl ?_
  exact ⟨by rw [← usesK_all hi]; exact hrow, hx⟩
end Go.Proofs.Ytpbflfgigfdohaa

set_option linter.unusedSimpArgs false
set_option linter.unusedVariables false
set_option maxRecDepth 100000
namespace Go.Proofs.Ytpbflfgigfdohaa
open Go Go.Vc Go.RowKit Go.Proofs

/-- the first of the numbers below n at which f answers -/
def firstN {α : Type} (n : Nat) (f : Nat → Option α) : Option α := (List.range n).findSome? f
theorem firstN_hit {α : Type} {n k : Nat} {f : Nat → Option α} {v : α} (hk : k < n) (hv : f k = some v) (hb : ∀ j, j < k → f j = none) : firstN n f = some v := by
  unfold firstN
  induction n with
  | zero => omega
  | succ n ih =>
    rw [List.range_succ, List.findSome?_append]
    rcases Nat.lt_or_ge k n with h | h
    · rw [ih h]; rfl
    obtain rfl : k = n := by omega
    have : (List.range k).findSome? f = none := List.findSome?_eq_none_iff.2 fun j hj => hb j (List.mem_range.1 hj)
    rw [this]
    simp [hv]
theorem firstN_miss {α : Type} {n : Nat} {f : Nat → Option α} (hb : ∀ j, j < n → f j = none) : firstN n f = none :=
  List.findSome?_eq_none_iff.2 fun j hj => hb j (List.mem_range.1 hj)
theorem firstN_none {α : Type} {n : Nat} {f : Nat → Option α} (h : firstN n f = none) : ∀ j, j < n → f j = none :=
  fun j hj => List.findSome?_eq_none_iff.1 h j (List.mem_range.2 hj)
/-- is a kid's head like one ahead of it? -/
def dupB (kind : Int) (seen : List Ex) (x : Ex) : Bool := if kind = 8 then seen.any (fun y => decide (y.label = x.label)) else if kind = 7 then seen.any (fun y => decide (y.tag = x.tag)) else false
mutual
/-- the places of kids that are like one ahead of them -/
def dupT : Tr → Nat → List Nat
  | .node y ks, a => dupK y.kind ks (a + 1) []
def dupK (kind : Int) : Trs → Nat → List Ex → List Nat
  | .nil, _, _ => []
  | .cons t ts, next, seen => (if dupB kind seen t.top then [next] else []) ++ (dupT t next ++ dupK kind ts (next + t.flat.length) (seen ++ [t.top]))
end
/-- the fault at a node -/
def nodeF (D : List Df) (dup : List Nat) (L : List Ex) (j : Nat) : Option (Int × Int) :=
  if j ∈ dup then some (80, (L.getD j ex0).at_) else if (L.getD j ex0).kind = 9 ∧ whereN D (L.getD j ex0).name = none then some (81, (L.getD j ex0).at_) else none
/-- the fault of a definition -/
def defF (D : List Df) (T : Nat → Tr) (i : Nat) : Option (Int × Int) :=
  if whereN D (D.getD i df0).name = some i then firstN (tyD D i).length (nodeF D (dupT (T i) 0) (tyD D i)) else some (80, (D.getD i df0).at_)
def resF (D : List Df) (T : Nat → Tr) : Option (Int × Int) := firstN D.length (defF D T)
theorem resF_known {D : List Df} {T : Nat → Tr} (h : resF D T = none) : ∀ d ∈ D, ∀ x ∈ d.ty, x.kind = 9 → ∃ i, whereN D x.name = some i := by
  intro d hd x hx h9
  obtain ⟨i, hi, rfl⟩ := List.getElem_of_mem hd
  have h1 := firstN_none h i hi
  unfold defF at h1
  split at h1
  · obtain ⟨j, hj, rfl⟩ := List.getElem_of_mem hx
    rw [tyD_at hi] at h1
    have h2 := firstN_none h1 j hj
    unfold nodeF at h2
    split at h2
    · cases h2
    split at h2
    · cases h2
    rename_i hn
    rw [List.getD_eq_getElem?_getD, List.getElem?_eq_getElem hj, Option.getD_some] at hn
    cases hw : whereN D D[i].ty[j].name with
    | some k => exact ⟨k, rfl⟩
    | none => exact absurd ⟨h9, hw⟩ hn
  cases h1
open Classical in
noncomputable def ringF (D : List Df) : Option (Int × Int) := firstN D.length (fun i => if Relation.TransGen (Us (usesD D)) i i then some (82, (D.getD i df0).at_) else none)
theorem ringF_none {D : List Df} (h : ringF D = none) : ∀ i, i < D.length → ¬ Relation.TransGen (Us (usesD D)) i i := by
  intro i hi ht
  have h1 := firstN_none h i hi
  rw [if_pos ht] at h1
  cases h1
def ordN (D : List Df) : List Nat := orderF D.length (usesD D) D.length []
def whD (D : List Df) (nm : List UInt8) : Nat := (whereN D nm).getD 0
def depN (D : List Df) (T : Nat → Tr) : Nat → Nat := depO (whD D) T (ordN D) (fun _ => 0)
def deepF (D : List Df) (T : Nat → Tr) : Option (Int × Int) := firstN D.length (fun i => if 64 < depN D T i then some (83, (D.getD i df0).at_) else none)
end Go.Proofs.Ytpbflfgigfdohaa

set_option linter.unusedSimpArgs false
set_option linter.unusedVariables false
set_option maxRecDepth 100000
namespace Go.Proofs.Ytpbflfgigfdohaa
open Go Go.Vc Go.RowKit Go.Proofs

/-- at a node: what twice does -/
def STw (t : Tr) : Prop := ∀ (L rest : List Ex) (v : Value) (at_ mb n : Nat) (g : Int → Option Int) (a : Int) (d : Nat) (w0 : World), t.wf a d → L.drop at_ = t.flat ++ rest → Sl w0 7 v L.length (exs L) → L.length * 72 ≤ 140737488351232 →
  MapIs Try.prog 3 3 enI w0 mb n g → n + t.flat.length ≤ 4611686018427387904 →
  Ca Try.prog 94 #[v, .int .i64 (at_ : Int), .map (some mb)] w0 (fun u w' => u = .int .i64 ((at_ + t.flat.length : Nat) : Int) ∧ (∃ g' n', n' + 1 ≤ n + t.flat.length ∧ MapIs Try.prog 3 3 enI w' mb n' g' ∧ ∀ q, (g' q).isSome = true ↔ ((g q).isSome = true ∨ ∃ p ∈ dupT t at_, q = (p : Int))) ∧ Only (fun k => k = mb) w0 w')
theorem drop_at {α : Type} {L R : List α} {x : α} {i : Nat} (h : L.drop i = x :: R) : ∃ hi : i < L.length, L[i] = x ∧ L.drop (i + 1) = R := by
  have hi : i < L.length := by
    have := congrArg List.length h
    simp at this
    omega
  rw [List.drop_eq_getElem_cons hi] at h
  simp only [List.cons.injEq] at h
  exact ⟨hi, h.1, h.2⟩
theorem tr_pos (t : Tr) : 0 < t.flat.length := by cases t; exact Nat.succ_pos _
theorem top_flat (t : Tr) : ∃ r, t.flat = t.top :: r := by cases t with | node y ks => exact ⟨ks.flat, rfl⟩
theorem top_bounds {t : Tr} {a : Int} {d : Nat} (h : t.wf a d) : t.top.label.length ≤ 32 ∧ 0 ≤ t.top.tag ∧ t.top.tag ≤ 2147483647 := by
  have hr := wf_top h
  obtain ⟨-, -, hl, hg⟩ := rightB_iff hr
  refine ⟨?_, ?_⟩
  · unfold labB at hl
    split at hl
    · simp only [nameB, Bool.and_eq_true, decide_eq_true_eq] at hl; exact hl.1.1.1.2
    rw [of_decide_eq_true hl]; decide
  unfold tagB at hg
  simp only [Bool.or_eq_true, Bool.and_eq_true, decide_eq_true_eq] at hg
  omega

end Go.Proofs.Ytpbflfgigfdohaa

set_option linter.unusedSimpArgs false
set_option linter.unusedVariables false
set_option maxRecDepth 100000
namespace Go.Proofs.Ytpbflfgigfdohaa
open Go Go.Vc Go.RowKit Go.Proofs

section
open Go.Vc
theorem o_mk2 {P : Program} {e : Env} {w : World} {K : Value → World → Prop} {ty : TypeId} {x y : Operand} {t el : TypeId} {s bs s' bs' l n : Nat} {z z' : Value} {d' : TypeDesc} {kl kc : IntKind} (ht : Ty P t (.slice el) s bs z) (hel : Ty P el d' s' bs' z') (hx : ev e x = .int kl (l : Int)) (hy : ev e y = .int kc (n : Int)) (hln : l ≤ n) (hb : bs' * n ≤ 281474976710656) (h63 : n ≤ 9223372036854775807)
    (k : K (.slice (some ⟨w.heap.size, 0, none⟩) l n) (w.alloc (.cells (madeCells z'.cells (n * s')) el))) : OP P e (.makeSlice t x y) ty w K := by
  obtain ⟨i, h1, h2, h3, h4⟩ := hel.info
  subst h2 h3
  have hb' : (i.bytes : Int) * (n : Int) ≤ 281474976710656 := by
    have : ((i.bytes * n : Nat) : Int) ≤ 281474976710656 := by omega
    rwa [Int.natCast_mul] at this
  have h := run_make (P := P) w t el i z' ht.und h1 h4 kl kc l n (by omega) (by omega) hb' (by omega)
  simp only [Int.toNat_natCast] at h
  exact OP.of (by simp [execOp, hx, hy, h]) k
end
theorem own_made1 {w : World} {el : TypeId} {l n : Nat} {z : Value} (hz : z.cells = #[z]) (hln : l ≤ n) (hn : n ≤ 9223372036854775807) : (w.alloc (.cells (madeCells z.cells (n * 1)) el)).ownsRow w.heap.size el 1 (.slice (some ⟨w.heap.size, 0, none⟩) l n) l (List.replicate l z) := by
  have hc : (madeCells z.cells (n * 1)).toList = List.replicate n z := by rw [hz, Nat.mul_one, toList_madeCells_one]
  refine ⟨by simp, .inr ⟨w.heap.size, n, madeCells z.cells (n * 1), rfl, Nat.le_refl _, heap_alloc_new w _, hln, by rw [maxLen_eq]; omega, ?_, ?_⟩⟩
  · have := congrArg List.length hc; simpa using this
  rw [hc, List.take_replicate, Nat.mul_one, Nat.min_eq_left hln]
theorem Sl.at1 {w : World} {v u : Value} {n k : Nat} {xs : List Value} (h : Sl w 1 v n xs) (hk : k < n) (hx : xs[k]? = some u) : ∃ b o c, v = .slice (some ⟨b, o, none⟩) n c ∧ w.cell? ⟨b, o + k * 1, none⟩ = some u := by
  rcases h.val with ⟨hz, h0⟩ | ⟨b, o, c, rfl, hnc, hc⟩
  · omega
  exact ⟨b, o, c, rfl, by rw [Nat.mul_one]; exact hc k u hx⟩
/-- what is told, asx cells -/
def tlB (n : Nat) (out : List Nat) : List Value := (List.range n).map (fun j => Value.bool (out.contains j))
theorem tlB_at {n k : Nat} {out : List Nat} (hk : k < n) : (tlB n out)[k]? = some (.bool (out.contains k)) := by
  unfold tlB
  rw [List.getElem?_map, List.getElem?_range hk]
  rfl
theorem tlB_nil (n : Nat) : tlB n [] = List.replicate n (.bool false) := by
  unfold tlB
  rw [List.eq_replicate_iff]
  refine ⟨by simp, fun b hb => ?_⟩
  obtain ⟨j, -, rfl⟩ := List.mem_map.1 hb
  rfl
theorem tlB_set {n i : Nat} {out : List Nat} : (tlB n out).set i (.bool true) = tlB n (out ++ [i]) := by
  apply List.ext_getElem?
  intro j
  rw [List.getElem?_set]
  by_cases hj : j < n
  · rw [tlB_at hj, tlB_at hj]
    by_cases e : i = j
    · subst e
      rw [if_pos rfl, if_pos (by simpa [tlB] using hj)]
      simp
    rw [if_neg e]
    have e2 : ¬ j = i := fun h => e h.symm
    simp [e2]
  have h1 : ∀ o, (tlB n o)[j]? = none := fun o => List.getElem?_eq_none (by simp [tlB]; omega)
  rw [h1, h1]
  split
  · rw [if_neg (by simp [tlB]; omega)]
  rfl

theorem ord1_spec (k c4 n : Nat) (tv : Value) (out : List Nat) (w0 : World) (hc : w0.heap[c4]? = some (.cells #[tv] 43 (0, 0))) (hT : Sl w0 1 tv n (tlB n out)) (hk : k < n) : Ca Try.prog 84 #[.int .i64 (k : Int), .pointer (some ⟨c4, 0, none⟩)] w0 (fun v w' => v = .bool (decide (k ∉ out)) ∧ Ext w0 w') := by
  have hx : Ext w0 w0 := Only.refl _ _
  obtain ⟨tb, to_, tc, htv, hcell⟩ := Sl.at1 hT hk (tlB_at hk)
  rw [htv] at hc
  refine Ca.of Try.func84 Try.ntmps84 rfl rfl ?_
  refine W.seq ?_
  refine W.region ?_
  refine WL.c rfl (o_ash (show _ = Value.bool _ from rfl) ?_)
  refine WL.nil ?_
  refine W.seq ?_
  refine W.region ?_
  refine WL.c rfl (o_ld TI43 rfl (show _ = Value.pointer (some ⟨c4, 0, none⟩) from rfl) (cell_of hc rfl) ?_)
  refine WL.c rfl (o_mvh (show _ = Value.int _ _ from rfl) ?_)
  refine WL.c rfl (o_ixB (i := k) TI43 TI4 rfl rfl (by omega) ?_)
  refine WL.c rfl (o_ld TI4 rfl rfl hcell ?_)
  refine WL.c rfl (o_not' rfl ?_)
  refine WL.c rfl (o_ash (show _ = Value.bool _ from rfl) ?_)
  refine WL.nil ?_
  refine W.ret ?_
  refine ret1v rfl (show _ = Value.bool _ from rfl) ?_
  exact ⟨congrArg Value.bool (by simp), hx⟩
theorem ixf_spec (us : List Nat) (uv : Value) (c4 n : Nat) (tv : Value) (out : List Nat) (w0 : World) (hU : Sl w0 1 uv us.length (us.map iv)) (hc : w0.heap[c4]? = some (.cells #[tv] 43 (0, 0))) (hT : Sl w0 1 tv n (tlB n out)) (hul : ∀ k ∈ us, k < n) (hl : us.length ≤ 4611686018427387904) : Ca Try.prog 97 #[uv, (Value.func (.func 84) #[] #[.pointer (some ⟨c4, 0, none⟩)])] w0 (fun v w' => (∃ r : Int, v = .int .i64 r ∧ decide (0 ≤ r) = decide (¬ ∀ k ∈ us, k ∈ out)) ∧ Ext w0 w') := by
  have hx : Ext w0 w0 := Only.refl _ _
  refine Ca.of Try.func97 Try.ntmps97 rfl rfl ?_
  refine W.seq ?_
  refine W.region ?_
  refine WL.c rfl (o_ash (show _ = Value.int _ _ from rfl) ?_)
  refine WL.nil ?_
  refine W.seq ?_
  refine W.seq ?_
  refine W.region ?_
  refine WL.c rfl (o_mvh (by first | exact (show _ = Value.slice _ _ _ from rfl) | exact rfl) ?_)
  refine WL.c rfl (o_lenR TI79 rfl hU ?_)
  refine WL.c rfl (o_mvh (show _ = Value.int _ _ from rfl) ?_)
  refine WL.nil ?_
  refine W.block ?_
  refine W.loop (fun e w => ∃ k : Nat, k ≤ us.length ∧ e 0 = uv ∧ e 1 = (Value.func (.func 84) #[] #[.pointer (some ⟨c4, 0, none⟩)]) ∧ e 7 = .int .i64 (us.length : Int) ∧ e 8 = .int .i64 (k : Int) ∧ Sl w 1 uv us.length (us.map iv) ∧ w.heap[c4]? = some (.cells #[tv] 43 (0, 0)) ∧ Sl w 1 tv n (tlB n out) ∧ (∀ q ∈ us.take k, q ∈ out) ∧ Ext w0 w) (fun e w => us.length - (intOf (e 8)).toNat) ?_ ?_
  · exact ⟨0, Nat.zero_le _, rfl, rfl, rfl, rfl, hU, hc, hT, fun q hq => by simp at hq, hx⟩
  rintro e w ⟨k, hk, h0, h1, h7, h8, hU, hc, hT, hall, hx⟩
  have hm8 := h8
  refine W.seq ?_
  refine W.region ?_
  refine WL.c rfl (o_lt h8 h7 ?_)
  refine WL.nil ?_
  refine W.seq ?_
  refine W.cond rfl (fun c9 => ?_) (fun c9 => ?_)
  · try simp only [cs8] at c9
    have hk1 : k < us.length := by omega
    obtain ⟨ub, uo, uc, hV, hcell⟩ := Sl.at1 hU hk1 (u := iv us[k]) (by rw [List.getElem?_map, List.getElem?_eq_getElem hk1]; rfl)
    rw [hV] at h0
    refine W.skip ?_
    refine W.seq ?_
    refine W.block ?_
    refine W.seq ?_
    refine W.region ?_
    refine WL.c rfl (o_mvh h8 ?_)
    refine WL.c rfl (o_ash (show _ = Value.int _ _ from rfl) ?_)
    refine WL.nil ?_
    refine W.seq ?_
    refine W.region ?_
    refine WL.c rfl (o_mvh h1 ?_)
    refine WL.c rfl (o_mvh h0 ?_)
    refine WL.c rfl (o_mvh (show _ = Value.int _ _ from rfl) ?_)
    refine WL.c rfl (o_ixB (i := k) TI79 TI3 (show _ = Value.slice (some ⟨ub, uo, none⟩) us.length uc from rfl) rfl (by omega) ?_)
    refine WL.c rfl (o_ld TI3 rfl rfl hcell ?_)
    refine WL.c rfl (o_callC (show _ = (Value.func (.func 84) #[] #[.pointer (some ⟨c4, 0, none⟩)]) from rfl) Try.call84 (lc (show _ = Value.int .i64 (us[k] : Int) from rfl) ln) ((ord1_spec us[k] c4 n tv out _ hc hT (hul _ (List.getElem_mem hk1))).mono ?_))
    rintro v16 w16 ⟨rfl, hx16⟩
    replace hx := hx.tr hx16
    replace hU := hU.ext hx16
    replace hT := hT.ext hx16
    replace hc := hx16.blk hc (fun h => h)
    refine WL.nil ?_
    refine W.cond rfl (fun c16 => ?_) (fun c16 => ?_)
    · try simp only [cs8] at c16
      refine W.seq ?_
      refine W.region ?_
      refine WL.c rfl (o_mvh (show _ = Value.int _ _ from rfl) ?_)
      refine WL.c rfl (o_ash (show _ = Value.int _ _ from rfl) ?_)
      refine WL.nil ?_
      refine W.ret ?_
      refine ret1v rfl (show _ = Value.int _ _ from rfl) ?_
      exact ⟨⟨_, rfl, by rw [decide_eq_decide]; exact ⟨fun _ h => (by simpa using c16 : us[k] ∉ out) (h _ (List.getElem_mem hk1)), fun _ => by omega⟩⟩, hx⟩
    try simp only [cs8] at c16
    refine W.skip ?_
    refine W.region ?_
    refine WL.c rfl (o_addi h8 rfl (by omega) ?_)
    refine WL.c rfl (o_mvh (show _ = Value.int _ _ from rfl) ?_)
    refine WL.nil ?_
    refine ⟨⟨k + 1, by omega, h0.trans hV.symm, h1, h7, rfl, hU, hc, hT, fun q hq => ?_, hx⟩, ?_⟩
    · rw [List.take_succ_eq_append_getElem hk1] at hq
      rcases List.mem_append.1 hq with hq | hq
      · exact hall q hq
      rw [List.mem_singleton.1 hq]; simpa using c16
    show us.length - ((k : Int) + 1).toNat < _
    rw [hm8]; simp [intOf]; omega
  try simp only [cs8] at c9
  have hk1 : k = us.length := by omega
  rw [hk1, List.take_length] at hall
  refine W.exit ?_
  refine W.seq ?_
  refine W.region ?_
  refine WL.c rfl (o_ash (show _ = Value.int _ _ from rfl) ?_)
  refine WL.nil ?_
  refine W.ret ?_
  refine ret1v rfl (show _ = Value.int _ _ from rfl) ?_
  exact ⟨⟨_, rfl, by rw [decide_eq_decide]; exact ⟨fun h => absurd h (by decide), fun h => absurd hall h⟩⟩, hx⟩
theorem ctf_spec (us : List Nat) (uv : Value) (c4 n : Nat) (tv : Value) (out : List Nat) (w0 : World) (hU : Sl w0 1 uv us.length (us.map iv)) (hc : w0.heap[c4]? = some (.cells #[tv] 43 (0, 0))) (hT : Sl w0 1 tv n (tlB n out)) (hul : ∀ k ∈ us, k < n) (hl : us.length ≤ 4611686018427387904) : Ca Try.prog 82 #[uv, (Value.func (.func 84) #[] #[.pointer (some ⟨c4, 0, none⟩)])] w0 (fun v w' => v = .bool (decide (¬ ∀ k ∈ us, k ∈ out)) ∧ Ext w0 w') := by
  refine Ca.of Try.func82 Try.ntmps82 rfl rfl ?_
  refine W.seq ?_
  refine W.region ?_
  refine WL.c rfl (o_ash (show _ = Value.bool _ from rfl) ?_)
  refine WL.nil ?_
  refine W.seq ?_
  refine W.region ?_
  refine WL.c rfl (o_mvh (by first | exact (show _ = Value.slice _ _ _ from rfl) | exact rfl) ?_)
  refine WL.c rfl (o_mv ?_)
  refine WL.c rfl (o_call Try.call97 (lc rfl (lc rfl ln)) ((ixf_spec us uv c4 n tv out _ hU hc hT hul hl).mono ?_))
  rintro v7 w7 ⟨⟨r, rfl, hr⟩, hx⟩
  refine WL.c rfl (o_ge rfl rfl ?_)
  refine WL.c rfl (o_ash (show _ = Value.bool _ from rfl) ?_)
  refine WL.nil ?_
  refine W.ret ?_
  refine ret1v rfl (show _ = Value.bool _ from rfl) ?_
  exact ⟨congrArg Value.bool hr, hx⟩
end Go.Proofs.Ytpbflfgigfdohaa

set_option linter.unusedSimpArgs false
set_option linter.unusedVariables false
set_option maxRecDepth 100000
namespace Go.Proofs.Ytpbflfgigfdohaa
open Go Go.Vc Go.RowKit Go.Proofs
set_option maxHeartbeats 2000000 in
theorem order_spec (pb mb : Nat) (D : List Df) (dv : Value) (V : Nat → Value) (w0 : World) (hB : Bk w0 pb mb D dv V) (hlim : DOk D) (hU : ∀ i, i < D.length → ∀ j ∈ usesD D i, j < D.length) (hac : ∀ i, i < D.length → ¬ Relation.TransGen (Us (usesD D)) i i) : Ca Try.prog 56 #[.pointer (some ⟨pb, 0, none⟩)] w0 (fun v w' => w'.ownsRow w0.heap.size 3 1 v (ordN D).length ((ordN D).map iv) ∧ Ext w0 w') := by
  have hx : Ext w0 w0 := Only.refl _ _
  have hlen := hlim.len
  have hB00 := hB
  obtain ⟨BB, hBB⟩ : ∃ B, B = w0.heap.size := ⟨_, rfl⟩
  rw [← hBB]
  refine Ca.of Try.func56 Try.ntmps56 rfl rfl ?_
  refine W.seq ?_
  refine W.region ?_
  refine WL.c rfl (o_ash (by first | exact (show _ = Value.slice _ _ _ from rfl) | exact rfl) ?_)
  refine WL.nil ?_
  refine W.seq ?_
  refine W.region ?_
  refine WL.c rfl (o_mvh (by first | exact (show _ = Value.pointer _ from rfl) | exact rfl) ?_)
  refine WL.c rfl (o_nil rfl ?_)
  refine WL.c rfl (o_fa 0 TI136 rfl TI23 rfl rfl ?_)
  refine WL.c rfl (o_ld TI23 rfl rfl (cell_of hB.cell rfl) ?_)
  refine WL.c rfl (o_lenR TI23 rfl hB.rd.row ?_)
  refine WL.c rfl (o_mk2 TI79 TI3 (l := 0) (n := D.length) rfl rfl (Nat.zero_le _) (by omega) (by omega) ?_)
  have hro := own_made1 (w := w0) (el := 3) (l := 0) (n := D.length) (z := .int .i64 0) rfl (Nat.zero_le _) (by omega)
  have hxa : Ext w0 (w0.alloc (.cells (madeCells (Value.int .i64 0).cells (D.length * 1)) 3)) := Only.alloc w0 _
  generalize w0.alloc (.cells (madeCells (Value.int .i64 0).cells (D.length * 1)) 3) = wa at hro hxa ⊢
  replace hx := hxa
  replace hB := hB.ext hxa
  obtain ⟨ov, hov⟩ : ∃ o, o = Value.slice (some ⟨w0.heap.size, 0, none⟩) 0 D.length := ⟨_, rfl⟩
  rw [← hov] at hro ⊢
  rw [← hBB] at hro
  clear hxa
  refine WL.c rfl (o_ash (by first | exact (show _ = Value.slice _ _ _ from rfl) | exact rfl) ?_)
  refine WL.nil ?_
  refine W.seq ?_
  refine W.region ?_
  refine WL.c rfl (o_mvh (by first | exact (show _ = Value.pointer _ from rfl) | exact rfl) ?_)
  refine WL.c rfl (o_nil rfl ?_)
  refine WL.c rfl (o_fa 0 TI136 rfl TI23 rfl rfl ?_)
  refine WL.c rfl (o_ld TI23 rfl rfl (cell_of hB.cell rfl) ?_)
  refine WL.c rfl (o_lenR TI23 rfl hB.rd.row ?_)
  refine WL.c rfl (o_mk2 TI43 TI4 (l := D.length) (n := D.length) rfl rfl (Nat.le_refl _) (by omega) (by omega) ?_)
  have hrt := own_made1 (w := wa) (el := 4) (l := D.length) (n := D.length) (z := .bool false) rfl (Nat.le_refl _) (by omega)
  have hxb : Ext wa (wa.alloc (.cells (madeCells (Value.bool false).cells (D.length * 1)) 4)) := Only.alloc wa _
  generalize wa.alloc (.cells (madeCells (Value.bool false).cells (D.length * 1)) 4) = wt at hrt hxb ⊢
  obtain ⟨tv, htv⟩ : ∃ o, o = Value.slice (some ⟨wa.heap.size, 0, none⟩) D.length D.length := ⟨_, rfl⟩
  rw [← htv] at hrt ⊢
  rw [← tlB_nil] at hrt
  replace hrt := own_mono hrt (show BB ≤ wa.heap.size by rw [hBB]; exact hx.size)
  replace hx := hx.tr hxb
  replace hB := hB.ext hxb
  replace hro := own_ext hro hxb
  clear hxb htv hov
  refine WL.c rfl (o_alB TI43 ?_)
  have hxt := hx
  intro wb hCb hxb hsb
  replace hrt := own_ext hrt hxb
  replace hx := hx.tr hxb
  replace hB := hB.ext hxb
  replace hro := own_ext hro hxb
  obtain ⟨c4, hc4⟩ : ∃ c, c = wt.heap.size := ⟨_, rfl⟩
  rw [← hc4] at hCb ⊢
  have hzt : BB ≤ c4 := by rw [hc4, hBB]; exact hxt.size
  refine WL.u (o_stB TI43 rfl (show _ = tv from rfl) (own_one hrt) hCb (show 0 < 1 by decide) ?_)
  intro wc hC4 ho hsc
  replace hC4 : wc.heap[c4]? = some (.cells #[tv] 43 (0, 0)) := hC4
  replace hro := own_only hro ho (fun b hb he => by subst he; exact own_off hro hCb (by decide) hb)
  replace hrt := own_only hrt ho (fun b hb he => by subst he; exact own_off hrt hCb (by decide) hb)
  replace hx := hx.trans' ho (fun _ h => h) (fun b hb he => by omega)
  replace hB := hB00.ext hx
  clear hCb ho
  refine WL.nil ?_
  refine W.seq ?_
  refine W.block ?_
  refine W.loop (fun e w => ∃ (out : List Nat) (ov tv : Value), e 0 = .pointer (some ⟨pb, 0, none⟩) ∧ e 3 = ov ∧ e 4 = .pointer (some ⟨c4, 0, none⟩) ∧ out.length ≤ D.length ∧ Told D.length (usesD D) out ∧ orderF D.length (usesD D) (D.length - out.length) out = ordN D ∧ w.ownsRow BB 3 1 ov out.length (out.map iv) ∧ w.heap[c4]? = some (.cells #[tv] 43 (0, 0)) ∧ w.ownsRow BB 4 1 tv D.length (tlB D.length out) ∧ Bk w pb mb D dv V ∧ Ext w0 w) (fun e w => D.length - slen (e 3)) ?_ ?_
  · exact ⟨[], ov, tv, rfl, rfl, rfl, Nat.zero_le _, Told.nil, rfl, hro, hC4, hrt, hB, hx⟩
  rintro e w ⟨out, ov, tv, h0, h3, h4, hol, htold, hord, hro, hC4, hrt, hB, hx⟩
  have hm3 := h3
  refine W.seq ?_
  refine W.seq ?_
  refine W.region ?_
  refine WL.c rfl (o_mvh h3 ?_)
  refine WL.c rfl (o_lenR TI79 rfl (Sl.own hro) ?_)
  refine WL.c rfl (o_mvh h0 ?_)
  refine WL.c rfl (o_nil rfl ?_)
  refine WL.c rfl (o_fa 0 TI136 rfl TI23 rfl rfl ?_)
  refine WL.c rfl (o_ld TI23 rfl rfl (cell_of hB.cell rfl) ?_)
  refine WL.c rfl (o_lenR TI23 rfl hB.rd.row ?_)
  refine WL.c rfl (o_lt rfl rfl ?_)
  refine WL.nil ?_
  refine W.cond rfl (fun c25 => ?_) (fun c25 => ?_)
  · try simp only [cs8] at c25
    have hl1 : out.length < D.length := by omega
    obtain ⟨nx, hnx⟩ := nextO_none hU hac hl1
    obtain ⟨aa, cc, rfl, hcc⟩ := own_form hro
    refine W.skip ?_
    refine W.block ?_
    refine W.seq ?_
    refine W.region ?_
    refine WL.c rfl (o_mvh h0 ?_)
    refine WL.c rfl (o_nil rfl ?_)
    refine WL.c rfl (o_fa 0 TI136 rfl TI23 rfl rfl ?_)
    refine WL.c rfl (o_ld TI23 rfl rfl (cell_of hB.cell rfl) ?_)
    refine WL.c rfl (o_lenR TI23 rfl hB.rd.row ?_)
    refine WL.c rfl (o_mvh (show _ = Value.int _ _ from rfl) ?_)
    refine WL.nil ?_
    refine W.block ?_
    refine W.loop (fun e w => ∃ i : Nat, i ≤ D.length ∧ e 0 = .pointer (some ⟨pb, 0, none⟩) ∧ e 3 = (Value.slice aa out.length cc) ∧ e 4 = .pointer (some ⟨c4, 0, none⟩) ∧ e 30 = .int .i64 (D.length : Int) ∧ e 31 = .int .i64 (i : Int) ∧ (∀ j, j < i → ¬ (j ∉ out ∧ ∀ k ∈ usesD D j, k ∈ out)) ∧ w.ownsRow BB 3 1 (Value.slice aa out.length cc) out.length (out.map iv) ∧ w.heap[c4]? = some (.cells #[tv] 43 (0, 0)) ∧ w.ownsRow BB 4 1 tv D.length (tlB D.length out) ∧ Bk w pb mb D dv V ∧ Ext w0 w) (fun e w => D.length - (intOf (e 31)).toNat) ?_ ?_
    · exact ⟨0, Nat.zero_le _, h0, h3, h4, rfl, rfl, fun j hj => by omega, hro, hC4, hrt, hB, hx⟩
    rintro e w ⟨i, hi, h0, h3, h4, h30, h31, hno, hro, hC4, hrt, hB, hx⟩
    have hm31 := h31
    refine W.seq ?_
    refine W.region ?_
    refine WL.c rfl (o_lt h31 h30 ?_)
    refine WL.nil ?_
    refine W.seq ?_
    refine W.cond rfl (fun c32 => ?_) (fun c32 => ?_)
    · try simp only [cs8] at c32
      have hi1 : i < D.length := by omega
      obtain ⟨tb, tc, htv, htb⟩ := own_some hrt (by omega)
      have hrt1 := hrt
      rw [htv] at hrt1
      have hcell : w.cell? ⟨tb, 0 + i * 1, none⟩ = some (.bool (out.contains i)) := by rw [Nat.zero_add, Nat.mul_one]; exact own_cell hrt1 (tlB_at hi1)
      rw [htv] at hC4
      refine W.skip ?_
      refine W.seq ?_
      refine W.block ?_
      refine W.seq ?_
      refine W.region ?_
      refine WL.c rfl (o_mvh h31 ?_)
      refine WL.c rfl (o_ash (show _ = Value.int _ _ from rfl) ?_)
      refine WL.nil ?_
      refine W.seq ?_
      by_cases hm : i ∉ out
      by_cases ha : ∀ k ∈ usesD D i, k ∈ out
      · skip
        skip
        refine W.region ?_
        refine WL.c rfl (o_ld TI43 rfl h4 (cell_of hC4 rfl) ?_)
        refine WL.c rfl (o_mvh (show _ = Value.int _ _ from rfl) ?_)
        refine WL.c rfl (o_ixB (i := i) TI43 TI4 (show _ = Value.slice (some ⟨tb, 0, none⟩) D.length tc from rfl) rfl (by omega) ?_)
        refine WL.c rfl (o_ld TI4 rfl rfl hcell ?_)
        refine WL.c rfl (o_not' rfl ?_)
        refine WL.c rfl (o_mvh (show _ = Value.bool _ from rfl) ?_)
        refine WL.g rfl (by simp [hm]) rfl (o_mvh h0 ?_)
        refine WL.g rfl (by simp [hm]) rfl (o_mvh (show _ = Value.int _ _ from rfl) ?_)
        refine WL.g rfl (by simp [hm]) rfl (o_call Try.call83 (lc rfl (lc rfl ln)) ((uses_spec pb mb i D dv V _ hB hlim hi1).mono ?_))
        rintro v42 w42 ⟨hu42, hx42⟩
        replace hx := hx.tr hx42
        replace hB := hB.ext hx42
        replace hC4 := hx42.blk hC4 (fun h => h)
        replace hro := own_ext hro hx42
        replace hrt := own_ext hrt hx42
        refine WL.g rfl (by simp [hm]) rfl (o_mkF (lc h4 ln) ?_)
        refine WL.g rfl (by simp [hm]) rfl (o_call Try.call82 (lc rfl (lc rfl ln)) ((ctf_spec (usesD D i) v42 c4 D.length _ out _ (Sl.own hu42) hC4 (Sl.own (htv ▸ hrt)) (fun k hk => hU i hi1 k hk) (by have h1 := usesK_len D D[i].ty D[i].ty.length; rw [usesK_all hi1] at h1; have := hlim.ty _ (List.getElem_mem hi1); omega)).mono ?_))
        rintro v44 w44 ⟨rfl, hx44⟩
        replace hx := hx.tr hx44
        replace hB := hB.ext hx44
        replace hC4 := hx44.blk hC4 (fun h => h)
        replace hro := own_ext hro hx44
        replace hrt := own_ext hrt hx44
        refine WL.g rfl (by simp [hm]) rfl (o_not' rfl ?_)
        refine WL.c rfl (o_pickA rfl rfl ?_)
        refine WL.nil ?_
        refine W.condT' rfl (by simp; exact ⟨hm, ha⟩) ?_
        refine W.seq ?_
        refine W.region ?_
        refine WL.c rfl (o_ld TI43 rfl h4 (cell_of hC4 rfl) ?_)
        refine WL.c rfl (o_mvh (show _ = Value.int _ _ from rfl) ?_)
        refine WL.c rfl (o_ixB (i := i) TI43 TI4 (show _ = Value.slice (some ⟨tb, 0, none⟩) D.length tc from rfl) rfl (by omega) ?_)
        refine WL.u (o_stRj TI4 rfl (show 0 + i * 1 = i by omega) (show _ = Value.bool true from rfl) rfl (htv ▸ hrt) (show Value.ownBlock (Value.slice (some ⟨tb, 0, none⟩) D.length tc) = some tb from rfl) (by omega) ?_)
        intro w49 hrt49 ho49 hs49
        have hlo : ∀ b, tv.ownBlock = some b → BB ≤ b := fun b hb => (hrt.lt b hb).1
        rw [← htv] at hrt49 ho49 hC4
        replace hC4 := ho49.blk hC4 (fun hb => own_off hrt hC4 (by decide) hb)
        replace hro := own_only hro ho49 (own_row_off hrt hro (by decide))
        replace hx := hx.trans' ho49 (fun _ h => h) (fun b hb he => by have := hlo b he; omega)
        replace hB := hB00.ext hx
        clear hrt
        rw [tlB_set] at hrt49
        have hrt := hrt49
        clear hrt49 ho49
        refine WL.nil ?_
        refine W.seq ?_
        refine W.region ?_
        refine WL.c rfl (o_mvh h3 ?_)
        refine WL.c rfl (o_mvh (show _ = Value.int _ _ from rfl) ?_)
        refine WL.apO (BB) rfl rfl TI79 TI3 (show _ = Value.int _ _ from rfl) (show _ = Value.slice _ _ _ from rfl) hro (by decide) (by decide) rfl (one1 rfl) rfl (by rw [maxLen_eq]; omega) (by omega) (by rw [hBB]; exact hx.size) ?_
        intro ovN w53 hroN ho53 hb53 _
        have hlo : ∀ b, (Value.slice aa out.length cc).ownBlock = some b → BB ≤ b := fun b hb => (hro.lt b hb).1
        replace hC4 := ho53.blk hC4 (fun hb => own_off hro hC4 (by decide) hb)
        replace hrt := own_only hrt ho53 (own_row_off hro hrt (by decide))
        replace hx := hx.trans' ho53 (fun _ h => h) (fun b hb he => by have := hlo b he; omega)
        replace hB := hB00.ext hx
        replace hroN : w53.ownsRow BB 3 1 ovN (out.length + 1) ((out ++ [i]).map iv) := by rw [List.map_append]; exact hroN
        obtain ⟨tvN, htvN⟩ : ∃ t, t = tv := ⟨_, rfl⟩
        rw [← htvN] at hC4 hrt
        have hnxi : nextO D.length (usesD D) out = some i := by
          obtain ⟨p1, p2, p3, p4⟩ := nextO_some hnx
          have : nx = i := by
            rcases Nat.lt_trichotomy nx i with h | h | h
            · exact absurd ⟨p2, p3⟩ (hno nx h)
            · exact h
            exact absurd ⟨hm, ha⟩ (p4 i h)
          rw [← this]; exact hnx
        clear hro ho53
        refine WL.c rfl (o_ash (by first | exact (show _ = Value.slice _ _ _ from rfl) | exact rfl) ?_)
        refine WL.nil ?_
        refine W.exit ?_
        obtain ⟨a9, c9, hov9, -⟩ := own_form hroN
        refine ⟨⟨out ++ [i], ovN, tvN, h0, rfl, h4, by rw [List.length_append, List.length_singleton]; omega, htold.step hnxi, ?_, by rw [List.length_append, List.length_singleton]; exact hroN, hC4, hrt, hB, hx⟩, ?_⟩
        · rw [List.length_append, List.length_singleton, ← orderF_more hnxi, show D.length - (out.length + 1) + 1 = D.length - out.length by omega]; exact hord
        show D.length - slen ovN < _
        rw [hm3, hov9]
        show D.length - (out.length + 1) < D.length - out.length
        omega
      · skip
        have hnot : ¬ (i ∉ out ∧ ∀ k ∈ usesD D i, k ∈ out) := fun h => ha h.2
        refine W.region ?_
        refine WL.c rfl (o_ld TI43 rfl h4 (cell_of hC4 rfl) ?_)
        refine WL.c rfl (o_mvh (show _ = Value.int _ _ from rfl) ?_)
        refine WL.c rfl (o_ixB (i := i) TI43 TI4 (show _ = Value.slice (some ⟨tb, 0, none⟩) D.length tc from rfl) rfl (by omega) ?_)
        refine WL.c rfl (o_ld TI4 rfl rfl hcell ?_)
        refine WL.c rfl (o_not' rfl ?_)
        refine WL.c rfl (o_mvh (show _ = Value.bool _ from rfl) ?_)
        refine WL.g rfl (by simp [hm]) rfl (o_mvh h0 ?_)
        refine WL.g rfl (by simp [hm]) rfl (o_mvh (show _ = Value.int _ _ from rfl) ?_)
        refine WL.g rfl (by simp [hm]) rfl (o_call Try.call83 (lc rfl (lc rfl ln)) ((uses_spec pb mb i D dv V _ hB hlim hi1).mono ?_))
        rintro v42 w42 ⟨hu42, hx42⟩
        replace hx := hx.tr hx42
        replace hB := hB.ext hx42
        replace hC4 := hx42.blk hC4 (fun h => h)
        replace hro := own_ext hro hx42
        replace hrt := own_ext hrt hx42
        refine WL.g rfl (by simp [hm]) rfl (o_mkF (lc h4 ln) ?_)
        refine WL.g rfl (by simp [hm]) rfl (o_call Try.call82 (lc rfl (lc rfl ln)) ((ctf_spec (usesD D i) v42 c4 D.length _ out _ (Sl.own hu42) hC4 (Sl.own (htv ▸ hrt)) (fun k hk => hU i hi1 k hk) (by have h1 := usesK_len D D[i].ty D[i].ty.length; rw [usesK_all hi1] at h1; have := hlim.ty _ (List.getElem_mem hi1); omega)).mono ?_))
        rintro v44 w44 ⟨rfl, hx44⟩
        replace hx := hx.tr hx44
        replace hB := hB.ext hx44
        replace hC4 := hx44.blk hC4 (fun h => h)
        replace hro := own_ext hro hx44
        replace hrt := own_ext hrt hx44
        refine WL.g rfl (by simp [hm]) rfl (o_not' rfl ?_)
        refine WL.c rfl (o_pickA rfl rfl ?_)
        refine WL.nil ?_
        refine W.condF' rfl (by simp [ha]) ?_
        refine W.skip ?_
        refine W.region ?_
        refine WL.c rfl (o_addi h31 rfl (by omega) ?_)
        refine WL.c rfl (o_mvh (show _ = Value.int _ _ from rfl) ?_)
        refine WL.nil ?_
        rw [← htv] at hC4
        refine ⟨⟨i + 1, by omega, h0, h3, h4, h30, rfl, fun j hj => ?_, hro, hC4, hrt, hB, hx⟩, ?_⟩
        · rcases Nat.lt_or_ge j i with h | h
          · exact hno j h
          rw [show j = i by omega]; exact hnot
        show D.length - ((i : Int) + 1).toNat < _
        rw [hm31]; simp [intOf]; omega
      skip
      have hnot : ¬ (i ∉ out ∧ ∀ k ∈ usesD D i, k ∈ out) := fun h => hm h.1
      refine W.region ?_
      refine WL.c rfl (o_ld TI43 rfl h4 (cell_of hC4 rfl) ?_)
      refine WL.c rfl (o_mvh (show _ = Value.int _ _ from rfl) ?_)
      refine WL.c rfl (o_ixB (i := i) TI43 TI4 (show _ = Value.slice (some ⟨tb, 0, none⟩) D.length tc from rfl) rfl (by omega) ?_)
      refine WL.c rfl (o_ld TI4 rfl rfl hcell ?_)
      refine WL.c rfl (o_not' rfl ?_)
      refine WL.c rfl (o_mvh (show _ = Value.bool _ from rfl) ?_)
      refine WL.s rfl (by simpa using hm) rfl ?_
      refine WL.s rfl (by simpa using hm) rfl ?_
      refine WL.s rfl (by simpa using hm) rfl ?_
      refine WL.s rfl (by simpa using hm) rfl ?_
      refine WL.s rfl (by simpa using hm) rfl ?_
      refine WL.s rfl (by simpa using hm) rfl ?_
      refine WL.c rfl (o_pickF rfl (by simpa using hm) ?_)
      refine WL.nil ?_
      refine W.condF' rfl (by simp) ?_
      refine W.skip ?_
      refine W.region ?_
      refine WL.c rfl (o_addi h31 rfl (by omega) ?_)
      refine WL.c rfl (o_mvh (show _ = Value.int _ _ from rfl) ?_)
      refine WL.nil ?_
      rw [← htv] at hC4
      refine ⟨⟨i + 1, by omega, h0, h3, h4, h30, rfl, fun j hj => ?_, hro, hC4, hrt, hB, hx⟩, ?_⟩
      · rcases Nat.lt_or_ge j i with h | h
        · exact hno j h
        rw [show j = i by omega]; exact hnot
      show D.length - ((i : Int) + 1).toNat < _
      rw [hm31]; simp [intOf]; omega
    try simp only [cs8] at c32
    exfalso
    obtain ⟨p1, p2, p3, -⟩ := nextO_some hnx
    exact hno nx (by omega) ⟨p2, p3⟩
  try simp only [cs8] at c25
  have hl1 : out.length = D.length := by omega
  rw [hl1, Nat.sub_self] at hord
  replace hord : out = ordN D := hord
  rw [hord] at hro
  refine W.exit ?_
  refine W.seq ?_
  refine W.region ?_
  refine WL.c rfl (o_mvh h3 ?_)
  refine WL.c rfl (o_ash (by first | exact (show _ = Value.slice _ _ _ from rfl) | exact rfl) ?_)
  refine WL.nil ?_
  refine W.ret ?_
  refine ret1v rfl rfl ?_
  exact ⟨hro, hx⟩
end Go.Proofs.Ytpbflfgigfdohaa

set_option linter.unusedSimpArgs false
set_option linter.unusedVariables false
set_option maxRecDepth 100000
namespace Go.Proofs.Ytpbflfgigfdohaa
open Go Go.Vc Go.RowKit Go.Proofs

/-- how many are not seen -/
def unseen (n : Nat) (g : Int → Option Int) : Nat := (List.range n).countP (fun k : Nat => (g (k : Int)).isNone)
theorem unseen_upd {n k : Nat} {g : Int → Option Int} {v : Int} (hk : k < n) (hg : g (k : Int) = none) : unseen n (fun c => if c = (k : Int) then some v else g c) < unseen n g := by
  unfold unseen
  refine countP_lt (y := k) (fun x hx => ?_) (List.mem_range.2 hk) (by rw [hg]; rfl) (by simp)
  simp only at hx
  split at hx
  · cases hx
  exact hx
/-- what a search tells: where it found nothing, what it has newly seen is closed -/
structure Shut (n : Nat) (U : Nat → List Nat) (df : Nat) (g g' : Int → Option Int) : Prop where
  mono : ∀ q, g q ≠ none → g' q ≠ none
  new : ∀ q : Nat, g' (q : Int) ≠ none → g (q : Int) = none → df ∉ U q ∧ ∀ v ∈ U q, g' (v : Int) ≠ none
theorem Shut.refl {n : Nat} {U : Nat → List Nat} {df : Nat} {g : Int → Option Int} : Shut n U df g g := ⟨fun q h => h, fun q h1 h2 => absurd h2 h1⟩
/-- one more is marked, and searched -/
theorem Shut.step {n : Nat} {U : Nat → List Nat} {df : Nat} {g gk g' : Int → Option Int} {t : Nat} {v : Int} (h : Shut n U df g gk) (h1 : Shut n U df (fun c => if c = (t : Int) then some v else gk c) g') (h2 : df ∉ U t ∧ ∀ v ∈ U t, g' (v : Int) ≠ none) : Shut n U df g g' ∧ (∀ q, gk q ≠ none → g' q ≠ none) ∧ g' (t : Int) ≠ none := by
  have hm : ∀ q, gk q ≠ none → g' q ≠ none := fun q hq => h1.mono q (by split <;> simp_all)
  refine ⟨⟨fun q hq => hm q (h.mono q hq), fun q hq hn => ?_⟩, hm, h1.mono _ (by simp)⟩
  by_cases hk : gk (q : Int) = none
  · by_cases e : q = t
    · subst e; exact h2
    refine h1.new q hq ?_
    rw [if_neg (by omega)]; exact hk
  obtain ⟨a1, a2⟩ := h.new q hk hn
  exact ⟨a1, fun v hv => hm _ (a2 v hv)⟩
theorem map_ne {w : World} {b c : Nat} {cs : Array Value} {T : TypeId} {fr : Nat × Nat} {n : Nat} {g : Int → Option Int} (hM : MapIs Try.prog 3 3 enI w b n g) (hc : w.heap[c]? = some (.cells cs T fr)) : c ≠ b := by
  obtain ⟨Dm, ⟨es, clock, hb, -⟩, -⟩ := hM
  intro e
  rw [e, hb] at hc
  cases hc
/-- the search's cells; wB: the world before its map was made -/
structure RC (wB w : World) (c2 c3 c5 c6 pb df sb : Nat) : Prop where
  k2 : w.heap[c2]? = some (.cells #[.pointer (some ⟨pb, 0, none⟩)] 115 (0, 0))
  k3 : w.heap[c3]? = some (.cells #[.int .i64 (df : Int)] 3 (0, 0))
  k5 : w.heap[c5]? = some (.cells #[.map (some sb)] 141 (0, 0))
  k6 : w.heap[c6]? = some (.cells #[.func (.func 95) #[] #[.pointer (some ⟨c2, 0, none⟩), .pointer (some ⟨c3, 0, none⟩), .pointer (some ⟨c5, 0, none⟩), .pointer (some ⟨c6, 0, none⟩)]] 137 (0, 0))
  old : Ext wB w
theorem RC.ext {wB w w' : World} {c2 c3 c5 c6 pb df sb : Nat} (h : RC wB w c2 c3 c5 c6 pb df sb) (ho : Ext w w') : RC wB w' c2 c3 c5 c6 pb df sb :=
  ⟨ho.blk h.k2 (fun h => h), ho.blk h.k3 (fun h => h), ho.blk h.k5 (fun h => h), ho.blk h.k6 (fun h => h), h.old.tr ho⟩
theorem RC.turn {wB w w' : World} {c2 c3 c5 c6 pb df sb n : Nat} {g : Int → Option Int} (h : RC wB w c2 c3 c5 c6 pb df sb) (hM : MapIs Try.prog 3 3 enI w sb n g) (hB : wB.heap.size ≤ sb) (ho : Only (fun k => k = sb) w w') : RC wB w' c2 c3 c5 c6 pb df sb :=
  ⟨ho.blk h.k2 (map_ne hM h.k2), ho.blk h.k3 (map_ne hM h.k3), ho.blk h.k5 (map_ne hM h.k5), ho.blk h.k6 (map_ne hM h.k6), h.old.trans' ho (fun _ h => h) (fun b hb he => by omega)⟩
theorem unseen_mono {n : Nat} {g g' : Int → Option Int} (h : ∀ q, g q ≠ none → g' q ≠ none) : unseen n g' ≤ unseen n g := by
  unfold unseen
  refine List.countP_mono_left (fun x _ hx => ?_)
  cases hg : g (x : Int) with
  | none => rfl
  | some v =>
    have := h (x : Int) (by rw [hg]; simp)
    cases hg' : g' (x : Int) with
    | none => exact absurd hg' this
    | some u => rw [hg'] at hx; cases hx
/-- what the search from a definition tells -/
def LPost (wB : World) (c2 c3 c5 c6 pb df sb : Nat) (D : List Df) (g : Int → Option Int) (fr : Nat) (w0 : World) (v : Value) (w' : World) : Prop :=
  (∃ r : Bool, v = .bool r ∧ (r = true → Relation.TransGen (Us (usesD D)) fr df) ∧ (r = false → ∃ g' ns', MapIs Try.prog 3 3 enI w' sb ns' g' ∧ ns' + unseen D.length g' ≤ D.length ∧ Shut D.length (usesD D) df g g' ∧ df ∉ usesD D fr ∧ ∀ v ∈ usesD D fr, g' (v : Int) ≠ none)) ∧ RC wB w' c2 c3 c5 c6 pb df sb ∧ Only (fun k => k = sb) w0 w'
def SLd (wB : World) (c2 c3 c5 c6 pb df sb : Nat) (D : List Df) (m : Nat) : Prop := ∀ (fr ns : Nat) (g : Int → Option Int) (w0 : World), RC wB w0 c2 c3 c5 c6 pb df sb → MapIs Try.prog 3 3 enI w0 sb ns g → unseen D.length g ≤ m → ns + unseen D.length g ≤ D.length → fr < D.length →
  Ca Try.prog 95 #[.int .i64 (fr : Int), .pointer (some ⟨c2, 0, none⟩), .pointer (some ⟨c3, 0, none⟩), .pointer (some ⟨c5, 0, none⟩), .pointer (some ⟨c6, 0, none⟩)] w0 (LPost wB c2 c3 c5 c6 pb df sb D g fr w0)
end Go.Proofs.Ytpbflfgigfdohaa

set_option linter.unusedSimpArgs false
set_option linter.unusedVariables false
set_option maxRecDepth 100000
namespace Go.Proofs.Ytpbflfgigfdohaa
open Go Go.Vc Go.RowKit Go.Proofs
set_option maxHeartbeats 2000000 in
theorem leads_step (wB : World) (c2 c3 c5 c6 pb mb df sb : Nat) (D : List Df) (dv : Value) (V : Nat → Value) (hB : Bk wB pb mb D dv V) (hsB : wB.heap.size ≤ sb) (hlim : DOk D) (hU : ∀ i, i < D.length → ∀ j ∈ usesD D i, j < D.length) (m : Nat) (IH : ∀ j, j < m → SLd wB c2 c3 c5 c6 pb df sb D j) (fr ns : Nat) (g : Int → Option Int) (w0 : World) (hRC : RC wB w0 c2 c3 c5 c6 pb df sb) (hM : MapIs Try.prog 3 3 enI w0 sb ns g) (hum : unseen D.length g ≤ m) (hns : ns + unseen D.length g ≤ D.length) (hfr : fr < D.length) : Ca Try.prog 95 #[.int .i64 (fr : Int), .pointer (some ⟨c2, 0, none⟩), .pointer (some ⟨c3, 0, none⟩), .pointer (some ⟨c5, 0, none⟩), .pointer (some ⟨c6, 0, none⟩)] w0 (LPost wB c2 c3 c5 c6 pb df sb D g fr w0) := by
  have hx : Only (fun k => k = sb) w0 w0 := Only.refl _ _
  have hlen := hlim.len
  have hsb := hM.lt
  have hul : (usesD D fr).length ≤ 4611686018427387904 := by have h1 := usesK_len D D[fr].ty D[fr].ty.length; rw [usesK_all hfr] at h1; have := hlim.ty _ (List.getElem_mem hfr); omega
  refine Ca.of Try.func95 Try.ntmps95 rfl rfl ?_
  refine W.seq ?_
  refine W.region ?_
  refine WL.c rfl (o_ash (show _ = Value.bool _ from rfl) ?_)
  refine WL.nil ?_
  refine W.seq ?_
  refine W.seq ?_
  refine W.region ?_
  refine WL.c rfl (o_ld TI115 rfl (show _ = Value.pointer (some ⟨c2, 0, none⟩) from rfl) (cell_of hRC.k2 rfl) ?_)
  refine WL.c rfl (o_mvh (show _ = Value.int _ _ from rfl) ?_)
  refine WL.c rfl (o_call Try.call83 (lc rfl (lc rfl ln)) ((uses_spec pb mb fr D dv V _ (hB.ext hRC.old) hlim hfr).mono ?_))
  rintro v13 w13 ⟨hu, hx13⟩
  replace hRC := hRC.ext hx13
  replace hM := hM.ext hx13
  replace hx := hx.trans (hx13.mono (fun _ _ h => h.elim))
  refine WL.c rfl (o_lenR TI79 rfl (Sl.own hu) ?_)
  refine WL.c rfl (o_mvh (show _ = Value.int _ _ from rfl) ?_)
  refine WL.nil ?_
  refine W.block ?_
  refine W.loop (fun e w => ∃ (k nk : Nat) (gk : Int → Option Int), k ≤ (usesD D fr).length ∧ e 0 = .int .i64 (fr : Int) ∧ e 1 = .pointer (some ⟨c2, 0, none⟩) ∧ e 2 = .pointer (some ⟨c3, 0, none⟩) ∧ e 3 = .pointer (some ⟨c5, 0, none⟩) ∧ e 4 = .pointer (some ⟨c6, 0, none⟩) ∧ e 13 = v13 ∧ e 14 = .int .i64 ((usesD D fr).length : Int) ∧ e 15 = .int .i64 (k : Int) ∧ w.ownsRow w0.heap.size 3 1 v13 (usesD D fr).length ((usesD D fr).map iv) ∧ RC wB w c2 c3 c5 c6 pb df sb ∧ MapIs Try.prog 3 3 enI w sb nk gk ∧ nk + unseen D.length gk ≤ D.length ∧ Shut D.length (usesD D) df g gk ∧ (df ∉ (usesD D fr).take k) ∧ (∀ v ∈ (usesD D fr).take k, gk (v : Int) ≠ none) ∧ Only (fun k => k = sb) w0 w) (fun e w => (usesD D fr).length - (intOf (e 15)).toNat) ?_ ?_
  · exact ⟨0, ns, g, Nat.zero_le _, rfl, rfl, rfl, rfl, rfl, rfl, rfl, rfl, hu, hRC, hM, hns, Shut.refl, by simp, fun v hv => by simp at hv, hx⟩
  rintro e w ⟨k, nk, gk, hk, h0, h1, h2, h3, h4, h13, h14, h15, hu, hRC, hM, hnk, hSh, hdk, hak, hx⟩
  have hm15 := h15
  refine W.seq ?_
  refine W.region ?_
  refine WL.c rfl (o_lt h15 h14 ?_)
  refine WL.nil ?_
  refine W.seq ?_
  refine W.cond rfl (fun c16 => ?_) (fun c16 => ?_)
  · try simp only [cs8] at c16
    have hk1 : k < (usesD D fr).length := by omega
    have hto := hU fr hfr _ (List.getElem_mem hk1)
    obtain ⟨ub, uo, uc, hV, hcell⟩ := Sl.at1 (Sl.own hu) hk1 (u := iv (usesD D fr)[k]) (by rw [List.getElem?_map, List.getElem?_eq_getElem hk1]; rfl)
    rw [hV] at h13
    refine W.skip ?_
    refine W.seq ?_
    refine W.block ?_
    refine W.seq ?_
    refine W.region ?_
    refine WL.c rfl (o_ixB (i := k) TI79 TI3 h13 h15 (by omega) ?_)
    refine WL.c rfl (o_ld TI3 rfl rfl hcell ?_)
    refine WL.c rfl (o_ash (show _ = Value.int _ _ from rfl) ?_)
    refine WL.nil ?_
    refine W.seq ?_
    refine W.seq ?_
    refine W.region ?_
    refine WL.c rfl (o_mvh (show _ = Value.int _ _ from rfl) ?_)
    refine WL.c rfl (o_ld TI3 rfl h2 (cell_of hRC.k3 rfl) ?_)
    refine WL.c rfl (o_eq rfl rfl ?_)
    refine WL.nil ?_
    refine W.cond rfl (fun c21 => ?_) (fun c21 => ?_)
    · try simp only [cs8] at c21
      refine W.seq ?_
      refine W.region ?_
      refine WL.c rfl (o_ash (show _ = Value.bool _ from rfl) ?_)
      refine WL.nil ?_
      refine W.ret ?_
      refine ret1v rfl (show _ = Value.bool _ from rfl) ?_
      exact ⟨⟨true, rfl, fun _ => Relation.TransGen.single (show df ∈ usesD D fr by have h1 : (usesD D fr)[k] = df := (by have := c21; omega); rw [← h1]; exact List.getElem_mem hk1), fun h => by cases h⟩, hRC, hx⟩
    try simp only [cs8] at c21
    have hnd : ¬ (usesD D fr)[k] = df := by intro h; apply c21; rw [h]
    refine W.skip ?_
    refine W.seq ?_
    refine W.seq ?_
    refine W.region ?_
    refine WL.c rfl (o_ld TI141 rfl h3 (cell_of hRC.k5 rfl) ?_)
    refine WL.c rfl (o_mvh (show _ = Value.int _ _ from rfl) ?_)
    refine WL.c rfl (o_lkO MT141 rfl hM rfl (keyI Try.underlying3 (by omega)) ?_)
    refine WL.c rfl (o_mvh (by first | exact (show _ = Value.tuple _ from rfl) | exact rfl) ?_)
    refine WL.c rfl (o_ext rfl rfl ?_)
    refine WL.c rfl (o_ext rfl rfl ?_)
    refine WL.c rfl (o_ash (show _ = Value.int _ _ from rfl) ?_)
    refine WL.c rfl (o_ash (show _ = Value.bool _ from rfl) ?_)
    refine WL.nil ?_
    refine W.seq ?_
    refine W.region ?_
    refine WL.c rfl (o_mvh (show _ = Value.bool _ from rfl) ?_)
    refine WL.nil ?_
    refine W.cond rfl (fun c28 => ?_) (fun c28 => ?_)
    · try simp only [cs8] at c28
      have hneN : gk ((usesD D fr)[k] : Int) ≠ none := by intro h; rw [h] at c28; simp at c28
      have hMN := hM
      have hnN := hnk
      have hShN := hSh
      have hmN : ∀ q, gk q ≠ none → gk q ≠ none := fun q h => h
      refine W.exit ?_
      refine W.region ?_
      refine WL.c rfl (o_addi h15 rfl (by omega) ?_)
      refine WL.c rfl (o_mvh (show _ = Value.int _ _ from rfl) ?_)
      refine WL.nil ?_
      refine ⟨⟨k + 1, _, _, by omega, h0, h1, h2, h3, h4, h13.trans hV.symm, h14, rfl, hu, hRC, hMN, hnN, hShN, ?_, ?_, hx⟩, ?_⟩
      · rw [List.take_succ_eq_append_getElem hk1]
        intro hmem
        rcases List.mem_append.1 hmem with hmem | hmem
        · exact hdk hmem
        exact hnd (List.mem_singleton.1 hmem).symm
      · rw [List.take_succ_eq_append_getElem hk1]
        intro q hq
        rcases List.mem_append.1 hq with hq | hq
        · exact hmN _ (hak q hq)
        rw [List.mem_singleton.1 hq]; exact hneN
      show (usesD D fr).length - ((k : Int) + 1).toNat < _
      rw [hm15]; simp [intOf]; omega
    try simp only [cs8] at c28
    have hno : gk ((usesD D fr)[k] : Int) = none := by simpa using c28
    have hu1 := unseen_upd (v := (fr : Int)) hto hno
    have hu2 := unseen_mono (n := D.length) hSh.mono
    refine W.skip ?_
    refine W.seq ?_
    refine W.region ?_
    refine WL.c rfl (o_ld TI141 rfl h3 (cell_of hRC.k5 rfl) ?_)
    refine WL.c rfl (o_mvh (show _ = Value.int _ _ from rfl) ?_)
    refine WL.c rfl (o_mvh h0 ?_)
    refine WL.u (o_mu enI_inj MT141 rfl hM rfl (keyI Try.underlying3 (by omega)) rfl (wf_i64 (by omega)) (by rw [maxLen_eq]; omega) ?_)
    intro w31 hM31 ho31 hs31
    replace hRC := hRC.turn hM hsB ho31
    replace hu := own_only hu ho31 (fun b hb he => by have := (hu.lt b hb).1; omega)
    replace hx := hx.trans ho31
    refine WL.nil ?_
    refine W.seq ?_
    refine W.region ?_
    refine WL.c rfl (o_ld TI137 rfl h4 (cell_of hRC.k6 rfl) ?_)
    refine WL.c rfl (o_mvh (show _ = Value.int _ _ from rfl) ?_)
    refine WL.c rfl (o_callC (show _ = (Value.func (.func 95) #[] #[.pointer (some ⟨c2, 0, none⟩), .pointer (some ⟨c3, 0, none⟩), .pointer (some ⟨c5, 0, none⟩), .pointer (some ⟨c6, 0, none⟩)]) from rfl) Try.call95 (lc (show _ = Value.int .i64 ((usesD D fr)[k] : Int) from rfl) ln) ((IH _ (show unseen D.length _ < m by omega) (usesD D fr)[k] (nk + 1) _ _ hRC hM31 (Nat.le_refl _) (by omega) hto).mono ?_))
    rintro v34 w34 ⟨⟨r, rfl, hr1, hr2⟩, hRC34, ho34⟩
    have hRC := hRC34
    replace hu := own_only hu ho34 (fun b hb he => by have := (hu.lt b hb).1; omega)
    replace hx := hx.trans ho34
    refine WL.nil ?_
    refine W.cond rfl (fun c34 => ?_) (fun c34 => ?_)
    · try simp only [cs8] at c34
      refine W.seq ?_
      refine W.region ?_
      refine WL.c rfl (o_ash (show _ = Value.bool _ from rfl) ?_)
      refine WL.nil ?_
      refine W.ret ?_
      refine ret1v rfl (show _ = Value.bool _ from rfl) ?_
      exact ⟨⟨true, rfl, fun _ => (Relation.TransGen.single (show Us (usesD D) fr (usesD D fr)[k] from List.getElem_mem hk1)).trans (hr1 c34), fun h => by cases h⟩, hRC, hx⟩
    try simp only [cs8] at c34
    obtain ⟨g', ns', hMN, hnN, hSh2, hd2, hall2⟩ := hr2 (by simpa using c34)
    obtain ⟨hShN, hmN, hneN⟩ := hSh.step hSh2 ⟨hd2, hall2⟩
    refine W.skip ?_
    refine W.region ?_
    refine WL.c rfl (o_addi h15 rfl (by omega) ?_)
    refine WL.c rfl (o_mvh (show _ = Value.int _ _ from rfl) ?_)
    refine WL.nil ?_
    refine ⟨⟨k + 1, _, _, by omega, h0, h1, h2, h3, h4, h13.trans hV.symm, h14, rfl, hu, hRC, hMN, hnN, hShN, ?_, ?_, hx⟩, ?_⟩
    · rw [List.take_succ_eq_append_getElem hk1]
      intro hmem
      rcases List.mem_append.1 hmem with hmem | hmem
      · exact hdk hmem
      exact hnd (List.mem_singleton.1 hmem).symm
    · rw [List.take_succ_eq_append_getElem hk1]
      intro q hq
      rcases List.mem_append.1 hq with hq | hq
      · exact hmN _ (hak q hq)
      rw [List.mem_singleton.1 hq]; exact hneN
    show (usesD D fr).length - ((k : Int) + 1).toNat < _
    rw [hm15]; simp [intOf]; omega
  try simp only [cs8] at c16
  have hk1 : k = (usesD D fr).length := by omega
  rw [hk1, List.take_length] at hdk hak
  refine W.exit ?_
  refine W.seq ?_
  refine W.region ?_
  refine WL.c rfl (o_ash (show _ = Value.bool _ from rfl) ?_)
  refine WL.nil ?_
  refine W.ret ?_
  refine ret1v rfl (show _ = Value.bool _ from rfl) ?_
  exact ⟨⟨false, rfl, fun h => absurd h (by decide), fun _ => ⟨gk, nk, hM, hnk, hSh, hdk, hak⟩⟩, hRC, hx⟩
end Go.Proofs.Ytpbflfgigfdohaa

set_option linter.unusedSimpArgs false
set_option linter.unusedVariables false
set_option maxRecDepth 100000
namespace Go.Proofs.Ytpbflfgigfdohaa
open Go Go.Vc Go.RowKit Go.Proofs

theorem leads_all (wB : World) (c2 c3 c5 c6 pb mb df sb : Nat) (D : List Df) (dv : Value) (V : Nat → Value) (hB : Bk wB pb mb D dv V) (hsB : wB.heap.size ≤ sb) (hlim : DOk D) (hU : ∀ i, i < D.length → ∀ j ∈ usesD D i, j < D.length) (m : Nat) : SLd wB c2 c3 c5 c6 pb df sb D m := by
  induction m using Nat.strongRecOn with
  | _ m IH =>
    intro fr ns g w0 h1 h2 h3 h4 h5
    exact leads_step wB c2 c3 c5 c6 pb mb df sb D dv V hB hsB hlim hU m IH fr ns g w0 h1 h2 h3 h4 h5
theorem unseen_le (n : Nat) (g : Int → Option Int) : unseen n g ≤ n := by
  unfold unseen
  exact Nat.le_trans List.countP_le_length (by simp)
theorem lpost_ring {wB : World} {c2 c3 c5 c6 pb df sb : Nat} {D : List Df} {w0 w' : World} {v : Value} (h : LPost wB c2 c3 c5 c6 pb df sb D (fun _ => none) df w0 v w') : ∃ b : Bool, v = .bool b ∧ (b = true ↔ Relation.TransGen (Us (usesD D)) df df) := by
  obtain ⟨⟨r, hv, h1, h2⟩, -⟩ := h
  refine ⟨r, hv, h1, fun ht => ?_⟩
  cases r with
  | true => rfl
  | false =>
    obtain ⟨g', ns', -, -, hs, hd, ha⟩ := h2 rfl
    exact absurd ht (closed_no (S := fun k => g' (k : Int) ≠ none) ⟨hd, ha⟩ (fun k hk => hs.new k hk rfl))

set_option maxHeartbeats 1000000 in
theorem ringed_spec (pb mb i : Nat) (D : List Df) (dv : Value) (V : Nat → Value) (w0 : World) (hB : Bk w0 pb mb D dv V) (hlim : DOk D) (hU : ∀ i, i < D.length → ∀ j ∈ usesD D i, j < D.length) (hi : i < D.length) : Ca Try.prog 79 #[.pointer (some ⟨pb, 0, none⟩), .int .i64 (i : Int)] w0 (fun v w' => (∃ b : Bool, v = .bool b ∧ (b = true ↔ Relation.TransGen (Us (usesD D)) i i)) ∧ Ext w0 w') := by
  refine Ca.of Try.func79 Try.ntmps79 rfl rfl ?_
  refine W.seq ?_
  refine W.region ?_
  refine WL.c rfl (o_boxB rfl ?_)
  intro w2 hC2 hx2 hs2
  obtain ⟨b2, hb2⟩ : ∃ b, b = w0.heap.size := ⟨_, rfl⟩
  rw [← hb2] at hC2 ⊢
  replace hC2 : w2.heap[b2]? = some (.cells ([.pointer (some ⟨pb, 0, none⟩)]).toArray 115 (0, 0)) := hC2
  have hx := hx2
  refine WL.c rfl (o_boxB rfl ?_)
  intro w3 hC3 hx3 hs3
  obtain ⟨b3, hb3⟩ : ∃ b, b = w2.heap.size := ⟨_, rfl⟩
  rw [← hb3] at hC3 ⊢
  replace hC3 : w3.heap[b3]? = some (.cells ([.int .i64 (i : Int)]).toArray 3 (0, 0)) := hC3
  replace hx := hx.tr hx3
  replace hC2 := hx3.blk hC2 (fun h => h)
  have hl2 := (Array.getElem?_eq_some_iff.1 hC2).1
  have hl3 := (Array.getElem?_eq_some_iff.1 hC3).1
  refine WL.c rfl (o_ash (show _ = Value.bool _ from rfl) ?_)
  refine WL.nil ?_
  refine W.seq ?_
  refine W.region ?_
  refine WL.c rfl (o_mkM ?_)
  have hM := MapIs.made Try.prog 3 3 enI w3
  have hxm : Ext w3 (w3.alloc (.map #[] 0)) := Only.alloc w3 _
  obtain ⟨sb, hsb⟩ : ∃ b, b = w3.heap.size := ⟨_, rfl⟩
  have hsB : w0.heap.size ≤ sb := by rw [hsb]; exact hx.size
  rw [← hsb] at hM ⊢
  generalize w3.alloc (.map #[] 0) = wm at hM hxm ⊢
  replace hx := hx.tr hxm
  replace hC2 := hxm.blk hC2 (fun h => h)
  replace hC3 := hxm.blk hC3 (fun h => h)
  refine WL.c rfl (o_alB TI141 ?_)
  have hxq := hx
  intro wa hCa hxa hsa
  replace hx := hx.tr hxa
  replace hC2 := hxa.blk hC2 (fun h => h)
  replace hC3 := hxa.blk hC3 (fun h => h)
  replace hM := hM.ext hxa
  obtain ⟨c5, hc5⟩ : ∃ c, c = wm.heap.size := ⟨_, rfl⟩
  rw [← hc5] at hCa ⊢
  have hz5 := hM.lt
  have hz5b : w0.heap.size ≤ c5 := by rw [hc5]; exact hxq.size
  refine WL.u (o_stB TI141 rfl (show _ = Value.map (some sb) from rfl) rfl hCa (show 0 < 1 by decide) ?_)
  intro wc hC5 ho5 hs5
  replace hC5 : wc.heap[c5]? = some (.cells #[.map (some sb)] 141 (0, 0)) := hC5
  replace hC2 := ho5.blk hC2 (by omega)
  replace hC3 := ho5.blk hC3 (by omega)
  replace hM := hM.only ho5 (fun h => map_ne hM hCa h.symm)
  replace hx := hx.trans' ho5 (fun _ h => h) (fun b hb he => by omega)
  refine WL.nil ?_
  refine W.seq ?_
  refine W.region ?_
  refine WL.c rfl (o_alB TI137 ?_)
  have hxq6 := hx
  intro wd hCd hxd hsd
  replace hx := hx.tr hxd
  replace hC2 := hxd.blk hC2 (fun h => h)
  replace hC3 := hxd.blk hC3 (fun h => h)
  replace hC5 := hxd.blk hC5 (fun h => h)
  replace hM := hM.ext hxd
  obtain ⟨c6, hc6⟩ : ∃ c, c = wc.heap.size := ⟨_, rfl⟩
  rw [← hc6] at hCd ⊢
  have hz6 : w0.heap.size ≤ c6 := by rw [hc6]; exact hxq6.size
  refine WL.nil ?_
  refine W.seq ?_
  refine W.region ?_
  refine WL.c rfl (o_mkF (lc rfl (lc rfl (lc rfl (lc rfl ln)))) ?_)
  refine WL.u (o_stB TI137 rfl (show _ = Value.func (.func 95) #[] #[.pointer (some ⟨b2, 0, none⟩), .pointer (some ⟨b3, 0, none⟩), .pointer (some ⟨c5, 0, none⟩), .pointer (some ⟨c6, 0, none⟩)] from rfl) rfl hCd (show 0 < 1 by decide) ?_)
  intro we hC6 ho6 hs6
  have hRC : RC w0 we b2 b3 c5 c6 pb i sb := ⟨ho6.blk hC2 (by omega), ho6.blk hC3 (by omega), ho6.blk hC5 (by omega), hC6, hx.trans' ho6 (fun _ h => h) (fun b hb he => by omega)⟩
  replace hM := hM.only ho6 (fun h => map_ne hM hCd h.symm)
  replace hx := hRC.old
  refine WL.nil ?_
  refine W.seq ?_
  refine W.region ?_
  refine WL.c rfl (o_ld TI137 rfl rfl (cell_of hRC.k6 rfl) ?_)
  refine WL.c rfl (o_ld TI3 rfl rfl (cell_of hRC.k3 rfl) ?_)
  refine WL.c rfl (o_callC (show _ = Value.func (.func 95) #[] #[.pointer (some ⟨b2, 0, none⟩), .pointer (some ⟨b3, 0, none⟩), .pointer (some ⟨c5, 0, none⟩), .pointer (some ⟨c6, 0, none⟩)] from rfl) Try.call95 (lc (show _ = Value.int .i64 (i : Int) from rfl) ln) ((leads_all w0 b2 b3 c5 c6 pb mb i sb D dv V hB hsB hlim hU _ i 0 _ _ hRC hM (Nat.le_refl _) (by have := unseen_le D.length (fun _ => none); omega) hi).mono ?_))
  intro v11 w11 hP
  obtain ⟨bb, rfl, hbb⟩ := lpost_ring hP
  have hxf : Ext w0 w11 := hP.2.1.old
  refine WL.c rfl (o_ash (show _ = Value.bool _ from rfl) ?_)
  refine WL.nil ?_
  refine W.ret ?_
  refine ret1v rfl (show _ = Value.bool _ from rfl) ?_
  exact ⟨⟨bb, rfl, hbb⟩, hxf⟩
end Go.Proofs.Ytpbflfgigfdohaa

set_option linter.unusedSimpArgs false
set_option linter.unusedVariables false
set_option maxRecDepth 100000
namespace Go.Proofs.Ytpbflfgigfdohaa
open Go Go.Vc Go.RowKit Go.Proofs

section
open Go.Vc
theorem r_lk {P : Program} {e : Env} {w : World} {ty : TypeId} {α : Type} {en : α → Lit} {t kt et : TypeId} {b n : Nat} {g : α → Option Int} {x y : Operand} {key : Value} {a : α} (hT : MTy P t kt et) (hx : ev e x = .map (some b)) (hM : MapIs P kt et en w b n g) (hy : ev e y = key) (hkl : keyOf P kt key = some (en a)) : RV P e (.lookup t x y false) ty w (.int .i64 ((g a).getD 0)) := by
  obtain ⟨D, hown, hD⟩ := hM
  obtain ⟨v, ps, hrun, hv⟩ := hown.lookup hT.kd hT.ht (hT.hz w) (plainElem_int hT.he (by decide)) hkl
  obtain ⟨c, rfl, hc, -⟩ := plainElem_int_inv hT.he hv
  have hcv := MapIs.val hD (congrArg Prod.fst hc)
  subst hcv
  simp [RV, execOp, hx, hy, hrun]
end
theorem trs_len_le : ∀ ts : Trs, ts.len ≤ ts.flat.length
  | .nil => Nat.le_refl _
  | .cons t ts => by
    have h := trs_len_le ts
    have ht : 0 < t.flat.length := by cases t; exact Nat.succ_pos _
    simp only [Trs.len, Trs.flat, List.length_append]
    omega
def dps (n : Nat) (dp : Nat → Nat) : List Value := (List.range n).map (fun j => iv (dp j))
theorem dps_at {n k : Nat} {dp : Nat → Nat} (hk : k < n) : (dps n dp)[k]? = some (iv (dp k)) := by
  unfold dps
  rw [List.getElem?_map, List.getElem?_range hk]
  rfl
mutual
theorem dep_le {wh : List UInt8 → Nat} {dp : Nat → Nat} {B : Nat} (h : ∀ j, dp j ≤ B) : ∀ t : Tr, depT wh dp t ≤ B + t.flat.length
  | .node y ks => by
    unfold depT
    split
    · exact Nat.le_trans (h _) (Nat.le_add_right _ _)
    have := depK_le (wh := wh) (dp := dp) h ks 0 (Nat.zero_le _)
    show _ ≤ B + (ks.flat.length + 1)
    omega
theorem depK_le {wh : List UInt8 → Nat} {dp : Nat → Nat} {B : Nat} (h : ∀ j, dp j ≤ B) : ∀ (ts : Trs) (m : Nat), m ≤ B + ts.flat.length → depK wh dp ts m ≤ B + ts.flat.length
  | .nil, m, hm => hm
  | .cons t ts, m, hm => by
    have h1 := dep_le (wh := wh) h t
    have hl : (Trs.cons t ts).flat.length = t.flat.length + ts.flat.length := by simp [Trs.flat]
    unfold depK
    rw [hl] at hm ⊢
    have h2 := depK_le2 (wh := wh) h ts (max m (depT wh dp t)) (B + t.flat.length + ts.flat.length) (by omega) (by omega)
    omega
theorem depK_le2 {wh : List UInt8 → Nat} {dp : Nat → Nat} {B : Nat} (h : ∀ j, dp j ≤ B) : ∀ (ts : Trs) (m C : Nat), m ≤ C → B + ts.flat.length ≤ C → depK wh dp ts m ≤ C
  | .nil, m, C, hm, _ => hm
  | .cons t ts, m, C, hm, hC => by
    have h1 := dep_le (wh := wh) h t
    have hl : (Trs.cons t ts).flat.length = t.flat.length + ts.flat.length := by simp [Trs.flat]
    unfold depK
    exact depK_le2 h ts _ C (by omega) (by omega)
end
/-- the cells that a depth is reckoned with -/
structure DC (w : World) (cl co cb cf pb mb : Nat) (lv ov : Value) (L : List Ex) (dp : Nat → Nat) (D : List Df) (dv : Value) (V : Nat → Value) : Prop where
  kl : w.heap[cl]? = some (.cells #[lv] 37 (0, 0))
  sl : Sl w 7 lv L.length (exs L)
  ko : w.heap[co]? = some (.cells #[ov] 79 (0, 0))
  so : Sl w 1 ov D.length (dps D.length dp)
  kb : w.heap[cb]? = some (.cells #[.pointer (some ⟨pb, 0, none⟩)] 115 (0, 0))
  kf : w.heap[cf]? = some (.cells #[.func (.func 96) #[] #[.pointer (some ⟨cl, 0, none⟩), .pointer (some ⟨co, 0, none⟩), .pointer (some ⟨cb, 0, none⟩), .pointer (some ⟨cf, 0, none⟩)]] 155 (0, 0))
  bk : Bk w pb mb D dv V
theorem DC.ext {w w' : World} {cl co cb cf pb mb : Nat} {lv ov : Value} {L : List Ex} {dp : Nat → Nat} {D : List Df} {dv : Value} {V : Nat → Value} (h : DC w cl co cb cf pb mb lv ov L dp D dv V) (ho : Ext w w') : DC w' cl co cb cf pb mb lv ov L dp D dv V :=
  ⟨ho.blk h.kl (fun h => h), h.sl.ext ho, ho.blk h.ko (fun h => h), h.so.ext ho, ho.blk h.kb (fun h => h), ho.blk h.kf (fun h => h), h.bk.ext ho⟩
def SDp (cl co cb cf pb mb : Nat) (lv ov : Value) (L : List Ex) (dp : Nat → Nat) (D : List Df) (dv : Value) (V : Nat → Value) (t : Tr) : Prop := ∀ (at_ : Nat) (rest : List Ex) (a : Int) (d : Nat) (w0 : World), t.wf a d → L.drop at_ = t.flat ++ rest → (∀ x ∈ t.flat, x.kind = 9 → ∃ i, whereN D x.name = some i) → DC w0 cl co cb cf pb mb lv ov L dp D dv V →
  Ca Try.prog 96 #[.int .i64 (at_ : Int), .pointer (some ⟨cl, 0, none⟩), .pointer (some ⟨co, 0, none⟩), .pointer (some ⟨cb, 0, none⟩), .pointer (some ⟨cf, 0, none⟩)] w0 (fun u w' => u = .tuple #[iv (depT (whD D) dp t), iv (at_ + t.flat.length)] ∧ Ext w0 w')
set_option maxHeartbeats 2000000 in
theorem deep_step (cl co cb cf pb mb : Nat) (lv ov : Value) (L : List Ex) (dp : Nat → Nat) (D : List Df) (dv : Value) (V : Nat → Value) (hlim : DOk D) (hLl : L.length * 72 ≤ 140737488351232) (hLn : ∀ x ∈ L, x.name.length ≤ 9223372036854775807) (hdp : ∀ j, dp j ≤ 2305843009213693952) (y : Ex) (ks : Trs) (IH : ∀ t : Tr, t.flat.length < (Tr.node y ks).flat.length → SDp cl co cb cf pb mb lv ov L dp D dv V t) (at_ : Nat) (rest : List Ex) (a : Int) (d : Nat) (w0 : World) (hw : (Tr.node y ks).wf a d) (hL : L.drop at_ = (Tr.node y ks).flat ++ rest) (hkn : ∀ x ∈ (Tr.node y ks).flat, x.kind = 9 → ∃ i, whereN D x.name = some i) (hDC : DC w0 cl co cb cf pb mb lv ov L dp D dv V) : Ca Try.prog 96 #[.int .i64 (at_ : Int), .pointer (some ⟨cl, 0, none⟩), .pointer (some ⟨co, 0, none⟩), .pointer (some ⟨cb, 0, none⟩), .pointer (some ⟨cf, 0, none⟩)] w0 (fun u w' => u = .tuple #[iv (depT (whD D) dp (Tr.node y ks)), iv (at_ + (Tr.node y ks).flat.length)] ∧ Ext w0 w') := by
  have hx : Ext w0 w0 := Only.refl _ _
  obtain ⟨hat, hya, hL1⟩ := drop_at (show L.drop at_ = y :: (ks.flat ++ rest) from hL)
  obtain ⟨ub, uo, uc, hV, huc⟩ := Sl.exq hDC.sl hat
  rw [hya] at huc
  have hkl := hDC.kl
  rw [hV] at hkl
  have hkk : y.kids = (ks.len : Int) := hw.2.2.2.1.symm
  have hksl : ks.flat.length ≤ L.length := by have h1 := congrArg List.length hL1; simp at h1; omega
  have hlk := trs_len_le ks
  have hyn := hLn y (by rw [← hya]; exact List.getElem_mem hat)
  refine Ca.of Try.func96 Try.ntmps96 rfl rfl ?_
  refine W.seq ?_
  refine W.region ?_
  refine WL.c rfl (o_ash (show _ = Value.int _ _ from rfl) ?_)
  refine WL.c rfl (o_ash (show _ = Value.int _ _ from rfl) ?_)
  refine WL.nil ?_
  refine W.seq ?_
  refine W.region ?_
  refine WL.c rfl (o_ld TI37 rfl (show _ = Value.pointer (some ⟨cl, 0, none⟩) from rfl) (cell_of hkl rfl) ?_)
  refine WL.c rfl (o_mvh (show _ = Value.int _ _ from rfl) ?_)
  refine WL.c rfl (o_ixB (i := at_) TI37 TI41 rfl rfl (by omega) ?_)
  refine WL.c rfl (o_ldA TI41 rfl rfl huc rfl ?_)
  refine WL.c rfl (o_alB TI41 ?_)
  intro wa hCa hxa hsa
  refine WL.u (o_stA TI41 rfl (show _ = Value.agg (exV y).toArray from rfl) rfl rfl hCa rfl ?_)
  intro wb8 hC8 hob hsb
  have hxb := Ext.own hxa (Nat.le_refl _) hob
  obtain ⟨b8, hb8⟩ : ∃ b, b = w0.heap.size := ⟨_, rfl⟩
  rw [← hb8] at hC8 ⊢
  clear hCa hxa hsa hob hsb
  replace hx := hx.tr hxb
  replace hDC := hDC.ext hxb
  clear hxb
  refine WL.nil ?_
  refine W.seq ?_
  refine W.seq ?_
  refine W.region ?_
  refine WL.c rfl (o_fa 0 TI41 rfl TI3 rfl rfl ?_)
  refine WL.c rfl (o_ld TI3 rfl rfl (cell_of hC8 rfl) ?_)
  refine WL.c rfl (o_eq rfl rfl ?_)
  refine WL.nil ?_
  refine W.cond rfl (fun c19 => ?_) (fun c19 => ?_)
  · try simp only [cs8] at c19
    have hk9 : y.kind = 9 := by simpa using c19
    have hnil : ks = .nil := by have h1 := wf_leafy _ _ _ hw; unfold Tr.leafy at h1; exact h1.1 hk9
    subst hnil
    obtain ⟨wi, hwi⟩ := hkn y (List.mem_cons_self ..) hk9
    obtain ⟨hwl, -⟩ := whereN_some hwi
    obtain ⟨ob, oo, oc, hov, hocell⟩ := Sl.at1 hDC.so hwl (dps_at hwl)
    have hko := hDC.ko
    rw [hov] at hko
    have hlw : (((whereN D y.name).map Int.ofNat).getD 0) = (wi : Int) := by rw [hwi]; rfl
    refine W.seq ?_
    refine W.quiet rfl (by kernel_rfl) ?_
    refine WQ.c rfl ((QO.o rfl fun _ => o_ld TI79 rfl (show _ = Value.pointer (some ⟨co, 0, none⟩) from rfl) (cell_of hko rfl) ⟨rfl, rfl⟩)) ?_
    refine WQ.c rfl ((QO.o rfl fun _ => o_ld TI115 rfl (show _ = Value.pointer (some ⟨cb, 0, none⟩) from rfl) (cell_of hDC.kb rfl) ⟨rfl, rfl⟩)) ?_
    refine WQ.c rfl ((QO.r fun _ => r_nil rfl)) ?_
    refine WQ.c rfl ((QO.o rfl fun _ => o_fa 1 TI136 rfl TI88 rfl rfl ⟨rfl, rfl⟩)) ?_
    refine WQ.c rfl ((QO.o rfl fun _ => o_ld TI88 rfl rfl (cell_of hDC.bk.cell rfl) ⟨rfl, rfl⟩)) ?_
    refine WQ.c rfl ((QO.o rfl fun _ => o_fa 2 TI41 rfl TI9 rfl rfl ⟨rfl, rfl⟩)) ?_
    refine WQ.c rfl ((QO.o rfl fun _ => o_ld TI9 rfl rfl (cell_of hC8 rfl) ⟨rfl, rfl⟩)) ?_
    refine WQ.c rfl ((QO.r fun _ => r_lk MT88 rfl hDC.bk.mp rfl (keyS Try.underlying9 (by rw [maxLen_eq]; omega)))) ?_
    refine WQ.c rfl ((QO.o rfl fun _ => o_ixB (i := wi) TI79 TI3 rfl (congrArg (Value.int .i64) hlw) (by omega) ⟨rfl, rfl⟩)) ?_
    refine WQ.c rfl ((QO.o rfl fun _ => o_ld TI3 rfl rfl hocell ⟨rfl, rfl⟩)) ?_
    refine WQ.c rfl ((QO.o rfl fun _ => o_mvh (show _ = Value.int _ _ from rfl) ⟨rfl, rfl⟩)) ?_
    refine WQ.c rfl ((QO.o rfl fun _ => o_addi rfl rfl (by omega) ⟨rfl, rfl⟩)) ?_
    refine WQ.c rfl ((QO.o rfl fun _ => o_ash (show _ = Value.int _ _ from rfl) ⟨rfl, rfl⟩)) ?_
    refine WQ.c rfl ((QO.o rfl fun _ => o_ash (show _ = Value.int _ _ from rfl) ⟨rfl, rfl⟩)) ?_
    refine WQ.nil ?_
    intro nq
    replace hx := hx.tr (Only.drewN wb8 nq)
    refine W.ret ?_
    refine ret2v rfl (show _ = Value.int _ _ from rfl) (show _ = Value.int _ _ from rfl) ?_
    exact ⟨by rw [show depT (whD D) dp (Tr.node y .nil) = dp wi by unfold depT; rw [if_pos hk9, whD, hwi]; rfl]; show _ = Value.tuple #[iv (dp wi), iv (at_ + 1)]; rfl, hx⟩
  try simp only [cs8] at c19
  have hk9 : ¬ y.kind = 9 := by simpa using c19
  refine W.skip ?_
  refine W.seq ?_
  refine W.region ?_
  refine WL.c rfl (o_mvh (show _ = Value.int _ _ from rfl) ?_)
  refine WL.c rfl (o_addi rfl rfl (by omega) ?_)
  refine WL.c rfl (o_ash (show _ = Value.int _ _ from rfl) ?_)
  refine WL.c rfl (o_ash (show _ = Value.int _ _ from rfl) ?_)
  refine WL.nil ?_
  refine W.seq ?_
  refine W.seq ?_
  refine W.region ?_
  refine WL.c rfl (o_fa 5 TI41 rfl TI3 rfl rfl ?_)
  refine WL.c rfl (o_ld TI3 rfl rfl (cell_of hC8 rfl) ?_)
  refine WL.c rfl (o_mvh (show _ = Value.int _ _ from rfl) ?_)
  refine WL.nil ?_
  refine W.block ?_
  refine W.loop (fun e w => ∃ (k m next : Nat) (ts : Trs), ks.len = k + ts.len ∧ e 4 = .pointer (some ⟨cf, 0, none⟩) ∧ e 9 = iv m ∧ e 10 = iv next ∧ e 35 = .int .i64 (ks.len : Int) ∧ e 36 = .int .i64 (k : Int) ∧ DC w cl co cb cf pb mb lv ov L dp D dv V ∧ ts.wf y.kind (d + 1) ∧ L.drop next = ts.flat ++ rest ∧ next + ts.flat.length = at_ + 1 + ks.flat.length ∧ depK (whD D) dp ts m = depK (whD D) dp ks 0 ∧ ts.flat.length ≤ ks.flat.length ∧ (∀ x ∈ ts.flat, x.kind = 9 → ∃ i, whereN D x.name = some i) ∧ m ≤ 2305843009213693952 + ks.flat.length ∧ Ext w0 w) (fun e w => ks.len - (intOf (e 36)).toNat) ?_ ?_
  · exact ⟨0, 0, at_ + 1, ks, by omega, rfl, rfl, rfl, congrArg (Value.int .i64) hkk, rfl, hDC, hw.2.2.2.2, hL1, rfl, rfl, Nat.le_refl _, fun x hx => hkn x (List.mem_cons_of_mem _ hx), by omega, hx⟩
  rintro e w ⟨k, m, next, ts, hks, h4, h9, h10, h35, h36, hDC, hwt, hLn2, hnx, hdk, htl, hknt, hmb, hx⟩
  have hm36 := h36
  refine W.seq ?_
  refine W.region ?_
  refine WL.c rfl (o_lt h36 h35 ?_)
  refine WL.nil ?_
  refine W.seq ?_
  refine W.cond rfl (fun c37 => ?_) (fun c37 => ?_)
  · try simp only [cs8] at c37
    have hk1 : k < ks.len := by omega
    obtain ⟨t, ts2, rfl⟩ : ∃ t t2, ts = .cons t t2 := by
      cases ts with
      | nil => simp [Trs.len] at hks; omega
      | cons a b => exact ⟨a, b, rfl⟩
    simp only [Trs.len] at hks
    have hfl : (Trs.cons t ts2).flat.length = t.flat.length + ts2.flat.length := by simp [Trs.flat]
    rw [hfl] at hnx htl
    have hdr : L.drop next = t.flat ++ (ts2.flat ++ rest) := by rw [hLn2]; simp [Trs.flat]
    have hdr2 : L.drop (next + t.flat.length) = ts2.flat ++ rest := by rw [← List.drop_drop, hdr, List.drop_left]
    have hdl := dep_le (wh := whD D) hdp t
    have hyl : (Tr.node y ks).flat.length = ks.flat.length + 1 := rfl
    refine W.skip ?_
    refine W.seq ?_
    refine W.block ?_
    refine W.seq ?_
    refine W.region ?_
    refine WL.c rfl (o_ld TI155 rfl h4 (cell_of hDC.kf rfl) ?_)
    refine WL.c rfl (o_mvh h10 ?_)
    refine WL.c rfl (o_callC (show _ = (Value.func (.func 96) #[] #[.pointer (some ⟨cl, 0, none⟩), .pointer (some ⟨co, 0, none⟩), .pointer (some ⟨cb, 0, none⟩), .pointer (some ⟨cf, 0, none⟩)]) from rfl) Try.call96 (lc (show _ = Value.int .i64 (next : Int) from rfl) ln) ((IH t (by omega) next (ts2.flat ++ rest) _ _ _ hwt.1 hdr (fun x hx => hknt x (List.mem_append_left _ hx)) hDC).mono ?_))
    rintro v41 w41 ⟨rfl, hx41⟩
    rw [iv, iv]
    replace hx := hx.tr hx41
    replace hDC := hDC.ext hx41
    refine WL.c rfl (o_mvh (by first | exact (show _ = Value.tuple _ from rfl) | exact rfl) ?_)
    refine WL.c rfl (o_ext rfl rfl ?_)
    refine WL.c rfl (o_ext rfl rfl ?_)
    refine WL.c rfl (o_ash (show _ = Value.int _ _ from rfl) ?_)
    refine WL.c rfl (o_ash (show _ = Value.int _ _ from rfl) ?_)
    refine WL.nil ?_
    refine W.region ?_
    refine WL.c rfl (o_mvh h9 ?_)
    refine WL.c rfl (o_mvh (show _ = Value.int _ _ from rfl) ?_)
    refine WL.c rfl (n_max (a := m) (b := depT (whD D) dp t) rfl rfl ?_)
    refine WL.c rfl (o_mvh (show _ = Value.int _ _ from rfl) ?_)
    refine WL.c rfl (o_ash (show _ = Value.int _ _ from rfl) ?_)
    refine WL.c rfl (o_ash (show _ = Value.int _ _ from rfl) ?_)
    refine WL.nil ?_
    refine W.region ?_
    refine WL.c rfl (o_addi h36 rfl (by omega) ?_)
    refine WL.c rfl (o_mvh (show _ = Value.int _ _ from rfl) ?_)
    refine WL.nil ?_
    refine ⟨⟨k + 1, max m (depT (whD D) dp t), next + t.flat.length, ts2, by omega, h4, rfl, rfl, h35, rfl, hDC, hwt.2, hdr2, by omega, hdk, by omega, fun x hx => hknt x (List.mem_append_right _ hx), by omega, hx⟩, ?_⟩
    show ks.len - ((k : Int) + 1).toNat < _
    rw [hm36]; simp [intOf]; omega
  try simp only [cs8] at c37
  have hk1 : k = ks.len := by omega
  have hnil : ts = .nil := by
    cases ts with
    | nil => rfl
    | cons a b => simp [Trs.len] at hks; omega
  subst hnil
  replace hdk : m = depK (whD D) dp ks 0 := hdk
  replace hnx : next = at_ + 1 + ks.flat.length := hnx
  refine W.exit ?_
  refine W.seq ?_
  refine W.region ?_
  refine WL.c rfl (o_mvh h9 ?_)
  refine WL.c rfl (o_addi (show _ = Value.int .i64 (m : Int) from rfl) rfl (by omega) ?_)
  refine WL.c rfl (o_mvh h10 ?_)
  refine WL.c rfl (o_ash (show _ = Value.int _ _ from rfl) ?_)
  refine WL.c rfl (o_ash (show _ = Value.int _ _ from rfl) ?_)
  refine WL.nil ?_
  refine W.ret ?_
  refine ret2v rfl (show _ = Value.int _ _ from rfl) (show _ = Value.int _ _ from rfl) ?_
  exact ⟨by rw [show depT (whD D) dp (Tr.node y ks) = m + 1 by unfold depT; rw [if_neg hk9, ← hdk], hnx]; show _ = Value.tuple #[iv (m + 1), iv (at_ + (ks.flat.length + 1))]; rw [show at_ + (ks.flat.length + 1) = at_ + 1 + ks.flat.length by omega]; rfl, hx⟩
end Go.Proofs.Ytpbflfgigfdohaa

set_option linter.unusedSimpArgs false
set_option linter.unusedVariables false
set_option maxRecDepth 100000
namespace Go.Proofs.Ytpbflfgigfdohaa
open Go Go.Vc Go.RowKit Go.Proofs

theorem deep_all (cl co cb cf pb mb : Nat) (lv ov : Value) (L : List Ex) (dp : Nat → Nat) (D : List Df) (dv : Value) (V : Nat → Value) (hlim : DOk D) (hLl : L.length * 72 ≤ 140737488351232) (hLn : ∀ x ∈ L, x.name.length ≤ 9223372036854775807) (hdp : ∀ j, dp j ≤ 2305843009213693952) : ∀ (m : Nat) (t : Tr), t.flat.length ≤ m → SDp cl co cb cf pb mb lv ov L dp D dv V t
  | 0, .node y ks, h => by simp [Tr.flat] at h
  | m + 1, .node y ks, h => fun at_ rest a d w0 hw hL hkn hDC =>
    deep_step cl co cb cf pb mb lv ov L dp D dv V hlim hLl hLn hdp y ks (fun t ht => deep_all cl co cb cf pb mb lv ov L dp D dv V hlim hLl hLn hdp m t (by omega)) at_ rest a d w0 hw hL hkn hDC
theorem dps_set {n i v : Nat} {dp : Nat → Nat} : (dps n dp).set i (iv v) = dps n (updN dp i v) := by
  apply List.ext_getElem?
  intro j
  rw [List.getElem?_set]
  by_cases hj : j < n
  · rw [dps_at hj, dps_at hj]
    unfold updN
    by_cases e : i = j
    · subst e
      rw [if_pos rfl, if_pos (by simpa [dps] using hj), if_pos rfl]
    rw [if_neg e, if_neg (fun h => e h.symm)]
  have h1 : ∀ o, (dps n o)[j]? = none := fun o => List.getElem?_eq_none (by simp [dps]; omega)
  rw [h1, h1]
  split
  · rw [if_neg (by simp [dps]; omega)]
  rfl
theorem dps_zero (n : Nat) : dps n (fun _ => 0) = List.replicate n (iv 0) := by
  unfold dps
  rw [List.eq_replicate_iff]
  refine ⟨by simp, fun b hb => ?_⟩
  obtain ⟨j, -, rfl⟩ := List.mem_map.1 hb
  rfl

end Go.Proofs.Ytpbflfgigfdohaa

set_option linter.unusedSimpArgs false
set_option linter.unusedVariables false
namespace Go.Vc
open Go Go.RowKit
variable {D : List Deferred}
abbrev StTab := List (List Bool × List (Nat × Nat))
section
variable {P : Program} {l : List Oper} {Q : Exit → Env → World → Prop} {n : Nat} {I : Nat → Env → World → Prop}
def StR (P : Program) (l : List Oper) (Q : Exit → Env → World → Prop) (n : Nat) (I : Nat → Env → World → Prop) : List (Nat × Nat) → Env → World → Prop
  | [], _, _ => True
  | x :: r, e, w => WO P l Q n x.1 (I x.2) e w ∧ StR P l Q n I r e w
def StP (P : Program) (l : List Oper) (Q : Exit → Env → World → Prop) (n : Nat) (I : Nat → Env → World → Prop) : StTab → Nat → Prop
  | [], _ => True
  | x :: S, k => (∀ e w, I k e w → match x.2 with | [] => Q .normal e w | r => StR P l Q n I r e w) ∧ StP P l Q n I S (k + 1)
def stOkB (l : List Oper) (S : StTab) : Bool :=
  S.all (fun x => (Region.ready .any l.toArray x.1.toArray == x.2.map Prod.fst) && x.1.length == l.length && x.2.all (fun y => x.1[y.1]? == some false && (S[y.2]?).map Prod.fst == some (x.1.set y.1 true)))
theorem StR.get {e : Env} {w : World} : ∀ {r : List (Nat × Nat)}, StR P l Q n I r e w → ∀ x ∈ r, WO P l Q n x.1 (I x.2) e w
  | [], _, x, hx => by cases hx
  | y :: r, h, x, hx => by
    rcases List.mem_cons.1 hx with rfl | hx
    · exact h.1
    exact StR.get h.2 x hx
theorem StP.get : ∀ {S : StTab} {k : Nat}, StP P l Q n I S k → ∀ j x, S[j]? = some x → ∀ e w, I (k + j) e w → (x.2 = [] → Q .normal e w) ∧ ∀ y ∈ x.2, WO P l Q n y.1 (I y.2) e w
  | [], k, _, j, x, hx => by simp at hx
  | s :: S, k, h, 0, x, hx => fun e w hI => by
    simp only [List.getElem?_cons_zero, Option.some.injEq] at hx
    subst hx
    have h1 := h.1 e w hI
    cases hr : s.2 with
    | nil => rw [hr] at h1; exact ⟨fun _ => h1, fun y hy => by cases hy⟩
    | cons a b => rw [hr] at h1; exact ⟨fun h => (by cases h), fun y hy => StR.get h1 y hy⟩
  | s :: S, k, h, j + 1, x, hx => fun e w hI => by
    simp only [List.getElem?_cons_succ] at hx
    exact StP.get h.2 j x hx e w (by rw [show k + 1 + j = k + (j + 1) by omega]; exact hI)
theorem cnt_set : ∀ {ls : List Bool} {i : Nat}, ls[i]? = some false → (ls.set i true).count true = ls.count true + 1
  | [], i, h => by simp at h
  | b :: ls, 0, h => by simp at h; subst h; simp
  | b :: ls, i + 1, h => by
    simp only [List.getElem?_cons_succ] at h
    rw [List.set_cons_succ, List.count_cons, List.count_cons, cnt_set h]
    omega
theorem WA.states {S : StTab} (hok : stOkB l S = true) (hS : StP P l Q n I S 0) : ∀ (fuel k : Nat) (x : List Bool × List (Nat × Nat)) (e : Env) (w : World), S[k]? = some x → l.length ≤ fuel + x.1.count true → I k e w → WA P l Q n fuel x.1 e w := by
  have hok' := hok
  unfold stOkB at hok'
  rw [List.all_eq_true] at hok'
  intro fuel
  induction fuel with
  | zero =>
    intro k x e w hx hf hI
    have h1 := hok' x (List.mem_of_getElem? hx)
    simp only [Bool.and_eq_true, beq_iff_eq, List.all_eq_true] at h1
    obtain ⟨⟨hr, hl⟩, hn⟩ := h1
    have h2 := hS.get k x hx e w (by rw [Nat.zero_add]; exact hI)
    have h3 : x.2 = [] := by
      cases hq : x.2 with
      | nil => rfl
      | cons y r =>
        exfalso
        have := (hn y (by rw [hq]; exact List.mem_cons_self ..)).1
        have h4 := cnt_set this
        have h5 := List.count_le_length (a := true) (l := x.1.set y.1 true)
        rw [List.length_set] at h5
        omega
    exact WA.done (by rw [hr, h3]; rfl) (h2.1 h3)
  | succ fuel ih =>
    intro k x e w hx hf hI
    have h1 := hok' x (List.mem_of_getElem? hx)
    simp only [Bool.and_eq_true, beq_iff_eq, List.all_eq_true] at h1
    obtain ⟨⟨hr, hl⟩, hn⟩ := h1
    have h2 := hS.get k x hx e w (by rw [Nat.zero_add]; exact hI)
    cases hq : x.2 with
    | nil => exact WA.done (by rw [hr, hq]; rfl) (h2.1 hq)
    | cons y r =>
      refine WA.step hr (by rw [hq]; simp) (fun i hi => ?_)
      obtain ⟨y, hy, rfl⟩ := List.mem_map.1 hi
      obtain ⟨h3, h4⟩ := hn y hy
      have h5 := h2.2 y hy
      cases hz : S[y.2]? with
      | none => rw [hz] at h4; simp at h4
      | some z =>
        rw [hz] at h4
        simp only [Option.map_some, Option.some.injEq] at h4
        intro D a ha K' hK
        refine h5 D a ha K' (fun a' e' w' hr' hI' => hK a' e' w' hr' ?_)
        have h6 := ih y.2 z e' w' hz (by rw [h4, cnt_set h3]; omega) hI'
        rw [h4] at h6
        exact h6
theorem W.states {id : Nat} {e : Env} {w : World} (I : Nat → Env → World → Prop) (S : StTab) (hm : P.follows .mixedOrders = true) (hok : stOkB l S = true) (h0 : (S[0]?).map Prod.fst = some (List.replicate l.length false)) (hI : I 0 e w.drew) (hS : StP P l Q n I S 0) : W P (.region id l.toArray true) Q n e w := by
  cases hz : S[0]? with
  | none => rw [hz] at h0; simp at h0
  | some z =>
    rw [hz] at h0
    simp only [Option.map_some, Option.some.injEq] at h0
    refine W.enum hm ?_
    rw [← h0]
    exact WA.states hok hS l.length 0 z e w.drew hz (by omega) hI
end
end Go.Vc
