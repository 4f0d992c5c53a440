/-
  Walks. Written by program out of specs of mine.
-/
import Derived.Test.YtcljkkfpcomdcaaT
import Derived.Test.YtcljkkfpcomdcaaK
set_option linter.unusedSimpArgs false
set_option linter.unusedVariables false
set_option maxRecDepth 100000
namespace Go.Proofs.Ytcljkkfpcomdcaa
open Go Go.Vc Go.RowKit Go.Proofs

theorem bind_bad {α β : Type} {r : Pr α} {f : α → Nat → Pr β} {e j : Nat} (h : r.bind f = .bad e j) : r = .bad e j ∨ ∃ a i, r = .ok a i ∧ f a i = .bad e j := by
  cases r with
  | ok a i => exact .inr ⟨a, i, rfl, h⟩
  | bad e i => injection h with h1 h2; exact .inl (by rw [h1, h2])
theorem wantT_bad {T : List Tk} {i k e j : Nat} {s : List UInt8} (h : wantT T i k s = .bad e j) : e = 60 ∧ j = i ∧ isT (tkA T i) k s = false := by
  unfold wantT at h
  split at h
  · cases h
  · rename_i h1; cases h; exact ⟨rfl, rfl, by simpa using h1⟩
theorem numT_bad {T : List Tk} {i e j : Nat} (h : numT T i = .bad e j) : e = 60 ∧ j = i ∧ ¬ (tkA T i).kind = 2 := by
  unfold numT at h
  split at h
  · cases h
  · rename_i h1; cases h; exact ⟨rfl, rfl, h1⟩
theorem nameT_bad {T : List Tk} {i e j : Nat} (h : nameT T i = .bad e j) : e = 60 ∧ j = i ∧ nmT (tkA T i) = false := by
  unfold nameT at h
  split at h
  · cases h
  · rename_i h1; cases h; exact ⟨rfl, rfl, by simpa using h1⟩


theorem leafE_ok {s : List UInt8} {kn : Int × Int} (h : leafE s = some kn) : kn = (1, 1) ∨ kn = (1, 2) ∨ kn = (1, 4) ∨ kn = (1, 8) ∨ kn = (2, 0) ∨ kn = (3, 0) := by
  unfold leafE at h
  repeat' split at h
  all_goals first | (cases h; simp; done) | cases h
theorem bgn_name {t : Tk} (hb : bgnT t = true) (hl : leafE t.text = none) (hv : ¬ (t.text = [118, 101, 99, 116, 111, 114] ∨ t.text = [108, 105, 115, 116])) (ho : ¬ t.text = [111, 112, 116, 105, 111, 110]) (hu : ¬ t.text = [117, 110, 105, 111, 110]) (hs : ¬ t.text = [115, 116, 114, 117, 99, 116]) : t.kind = 1 ∧ nameB t.text = true := by
  rw [not_or] at hv
  unfold bgnT at hb
  rw [hl, decide_eq_false hv.1, decide_eq_false hv.2, decide_eq_false ho, decide_eq_false hu, decide_eq_false hs] at hb
  simpa using hb
theorem bgn_kind {t : Tk} (hb : bgnT t = true) : t.kind = 1 := by
  unfold bgnT at hb
  rw [Bool.and_eq_true, decide_eq_true_eq] at hb
  exact hb.1
/-! ### Check takes what is parsed -/
def Base (x : Ex) : Prop := x.n = 0 ∧ x.kids = 0 ∧ x.name = []
def ChkM (r : Option (Bool × Nat)) (deep : Nat) (x : Ex) (N : List Ex) (n : Nat) : Prop := match r with
  | none => ∀ (o : Opn) (S : List Opn) (k : Nat) (rest : List Ex), o.deep = (deep : Int) → 0 < o.left → Base x → labB x o.kind = true → tagB x o.kind = true → chkE (o :: S) k (N ++ rest) = chkE ({ o with left := o.left - 1 } :: S) (k + N.length) rest
  | some (u, q) => q < n ∧ n ≤ 64 ∧ ∀ (o : Opn) (S : List Opn) (k : Nat) (rest : List Ex), o.deep = ((deep + 1 : Nat) : Int) → o.kind = (if u then 7 else 8) → o.left = (n : Int) - q → chkE (o :: S) k (N ++ rest) = chkE ({ o with left := 0 } :: S) (k + N.length) rest
theorem atE_lab {i : Nat} {x : Ex} {a : Int} : labB (atE i x) a = labB x a := by unfold atE; split <;> rfl
theorem atE_tag {i : Nat} {x : Ex} {a : Int} : tagB (atE i x) a = tagB x a := by unfold atE; split <;> rfl
theorem atE_base {i : Nat} {x : Ex} (h : Base x) : Base (atE i x) := by unfold atE; split <;> exact h
theorem chk_node {o : Opn} {S : List Opn} {k deep : Nat} {y : Ex} {rest : List Ex} (hd : o.deep = (deep : Int)) (hl : 0 < o.left) (hdeep : deep ≤ 16) (hm : manyB y = false) (hr : rightB y o.kind = true) :
    chkE (o :: S) k (y :: rest) = chkE (⟨y.kind, y.kids, ((deep + 1 : Nat) : Int)⟩ :: { o with left := o.left - 1 } :: S) (k + 1) rest := by
  rw [chkE_o (popZ_n (show ¬ o.left = 0 by omega)), if_neg (by omega), if_neg (by simp [hm]), if_neg (by simp [hr]), show o.deep + 1 = ((deep + 1 : Nat) : Int) by omega]
theorem chkE_pz0 {a b : Int} {S : List Opn} {i : Nat} {l : List Ex} : chkE (⟨a, 0, b⟩ :: S) i l = chkE S i l := by
  cases l with
  | nil => rfl
  | cons x xs => rw [chkE_cons, chkE_cons, popZ_z rfl]
theorem pop_idx {S : List Opn} {a b : Nat} {l : List Ex} (h : a = b) : chkE S a l = chkE S b l := by rw [h]
theorem px_chk {T : List Tk} (hT : ∀ i, (tkA T i).n ≤ 2147483647) {r : Option (Bool × Nat)} {deep i : Nat} {x : Ex} {N : List Ex} {n j : Nat} (h : PX T r deep i x N n j) : ChkM r deep x N n := by
  induction h with
  | @leaf deep i x kn hb hd hl =>
    intro o S k rest ho hp hx h1 h2
    have hk := leafE_ok hl
    obtain ⟨b1, b2, b3⟩ := atE_base (i := i) hx
    show chkE (o :: S) k (_ :: rest) = _
    rw [chk_node ho hp hd (by rcases hk with rfl | rfl | rfl | rfl | rfl | rfl <;> simp [manyB, Ex.lf]) ?_]
    · show chkE (⟨_, (atE i x).kids, _⟩ :: _) _ _ = _
      rw [b2, chkE_pz0]; rfl
    · simp only [rightB, Bool.and_eq_true]
      refine ⟨⟨⟨?_, ?_⟩, ?_⟩, ?_⟩
      · rcases hk with rfl | rfl | rfl | rfl | rfl | rfl <;> simp [okB, Ex.lf, b2]
      · rcases hk with rfl | rfl | rfl | rfl | rfl | rfl <;> simp [namB, Ex.lf, b3]
      · exact atE_lab.trans h1
      · exact atE_tag.trans h2
  | @nm deep i x hb hd hl hv ho_ hu hs =>
    intro o S k rest ho hp hx h1 h2
    have hnm := (bgn_name hb hl hv ho_ hu hs).2
    obtain ⟨b1, b2, b3⟩ := atE_base (i := i) hx
    show chkE (o :: S) k (_ :: rest) = _
    rw [chk_node ho hp hd (by simp [manyB, Ex.nm]) ?_]
    · show chkE (⟨_, (atE i x).kids, _⟩ :: _) _ _ = _
      rw [b2, chkE_pz0]; rfl
    · simp only [rightB, Bool.and_eq_true]
      refine ⟨⟨⟨?_, ?_⟩, ?_⟩, ?_⟩
      · simp [okB, Ex.nm, b1, b2]
      · simp [namB, Ex.nm, hnm]
      · exact atE_lab.trans h1
      · exact atE_tag.trans h2
  | @vec deep i x N j hb hd hl hv h1 hN h2 h3 h4 ih =>
    intro o S k rest ho hp hx g1 g2
    obtain ⟨b1, b2, b3⟩ := atE_base (i := i) hx
    have hn := hT (j + 1)
    show chkE (o :: S) k (_ :: (N ++ rest)) = _
    rw [chk_node ho hp hd (by simp only [manyB, Ex.vec]; split <;> simp) ?_]
    · refine (ih _ _ _ _ rfl (show (0 : Int) < 1 by decide) ⟨rfl, rfl, rfl⟩ ?_ ?_).trans ?_
      · simp only [labB, Ex.vec]; split <;> first | rfl | (rename_i hh; split at hh <;> cases hh)
      · rfl
      · show chkE (⟨_, (1 : Int) - 1, _⟩ :: _) _ _ = _
        rw [show (1 : Int) - 1 = 0 from rfl, chkE_pz0]
        exact pop_idx (by rw [List.length_cons]; omega)
    · simp only [rightB, Bool.and_eq_true]
      refine ⟨⟨⟨?_, ?_⟩, ?_⟩, ?_⟩
      · (generalize decide ((tkA T i).text = [108, 105, 115, 116]) = b; cases b <;> simp [okB, Ex.vec] <;> omega)
      · simp only [namB, Ex.vec]; split <;> simp [b3]
      · exact atE_lab.trans g1
      · exact atE_tag.trans g2
  | @opt deep i x N j hb hd hl ho_ h1 hN h2 ih =>
    intro o S k rest ho hp hx g1 g2
    obtain ⟨b1, b2, b3⟩ := atE_base (i := i) hx
    show chkE (o :: S) k (_ :: (N ++ rest)) = _
    rw [chk_node ho hp hd (by simp [manyB, Ex.opt]) ?_]
    · refine (ih _ _ _ _ rfl (show (0 : Int) < 1 by decide) ⟨rfl, rfl, rfl⟩ rfl rfl).trans ?_
      show chkE (⟨_, (1 : Int) - 1, _⟩ :: _) _ _ = _
      rw [show (1 : Int) - 1 = 0 from rfl, chkE_pz0]
      exact pop_idx (by rw [List.length_cons]; omega)
    · simp only [rightB, Bool.and_eq_true]
      refine ⟨⟨⟨?_, ?_⟩, ?_⟩, ?_⟩
      · simp [okB, Ex.opt, b1]
      · simp [namB, Ex.opt, b3]
      · exact atE_lab.trans g1
      · exact atE_tag.trans g2
  | @br deep i x u M n j hb hd hl hw h1 hM ih =>
    intro o S k rest ho hp hx g1 g2
    obtain ⟨q1, q2, q3⟩ := ih
    obtain ⟨b1, b2, b3⟩ := atE_base (i := i) hx
    show chkE (o :: S) k (_ :: (M ++ rest)) = _
    rw [chk_node ho hp hd (by cases u <;> simp [manyB, Ex.br] <;> omega) ?_]
    · refine (q3 ⟨_, _, _⟩ _ _ _ rfl rfl (by show ((n : Nat) : Int) = _; omega)).trans ?_
      rw [chkE_pz0]
      exact pop_idx (by rw [List.length_cons]; omega)
    · simp only [rightB, Bool.and_eq_true]
      refine ⟨⟨⟨?_, ?_⟩, ?_⟩, ?_⟩
      · cases u <;> simp [okB, Ex.br, b1] <;> omega
      · cases u <;> simp [namB, Ex.br, b3]
      · exact atE_lab.trans g1
      · exact atE_tag.trans g2
  | @last deep i u k N j hk hh hc hN hm hr ih =>
    refine ⟨by omega, by omega, fun o S k' rest ho hkd hl => ?_⟩
    have hl1 : o.left = 1 := by omega
    refine (ih o S k' rest ho (by omega) ?_ ?_ ?_).trans ?_
    · cases u <;> exact ⟨rfl, rfl, rfl⟩
    · cases u
      · have : nameB (tkA T i).text = true := by simp only [hdOk, nmT] at hh; simp at hh; exact hh.2
        simp [labB, hkd, hdE, this]
      · simp [labB, hkd, hdE, ex0]
    · cases u
      · simp [tagB, hdE, ex0]
      · have := hT i
        simp [tagB, hkd, hdE, ex0]; omega
    · rw [hl1]; rfl
  | @more deep i u k N M j n e hk hh hc hN hm hR ih1 ih2 =>
    obtain ⟨q1, q2, q3⟩ := ih2
    refine ⟨by omega, q2, fun o S k' rest ho hkd hl => ?_⟩
    rw [List.append_assoc]
    refine (ih1 o S k' _ ho (by omega) ?_ ?_ ?_).trans ?_
    · cases u <;> exact ⟨rfl, rfl, rfl⟩
    · cases u
      · have : nameB (tkA T i).text = true := by simp only [hdOk, nmT] at hh; simp at hh; exact hh.2
        simp [labB, hkd, hdE, this]
      · simp [labB, hkd, hdE, ex0]
    · cases u
      · simp [tagB, hdE, ex0]
      · have := hT i
        simp [tagB, hkd, hdE, ex0]; omega
    · refine (q3 { o with left := o.left - 1 } S _ rest ho hkd (by show o.left - 1 = _; omega)).trans ?_
      exact pop_idx (by rw [List.length_append]; omega)
theorem rightB_pl {T : List Tk} {x : Ex} {a : Int} : rightB (plE T x) a = rightB x a := by unfold plE; split <;> rfl
theorem manyB_pl {T : List Tk} {x : Ex} : manyB (plE T x) = manyB x := by unfold plE; split <;> rfl
theorem kind_pl {T : List Tk} {x : Ex} : (plE T x).kind = x.kind := by unfold plE; split <;> rfl
theorem kids_pl {T : List Tk} {x : Ex} : (plE T x).kids = x.kids := by unfold plE; split <;> rfl
theorem name_pl {T : List Tk} {x : Ex} : (plE T x).name = x.name := by unfold plE; split <;> rfl
theorem label_pl {T : List Tk} {x : Ex} : (plE T x).label = x.label := by unfold plE; split <;> rfl
theorem chkE_pl {T : List Tk} : ∀ (N : List Ex) (S : List Opn) (k : Nat), chkE S k (N.map (plE T)) = chkE S k N
  | [], S, k => rfl
  | x :: xs, S, k => by
    rw [List.map_cons, chkE_cons, chkE_cons]
    cases popZ S with
    | nil => rfl
    | cons o S' => simp only [rightB_pl, manyB_pl, kind_pl, kids_pl, chkE_pl xs]
theorem px_chkT {T : List Tk} (hT : ∀ i, (tkA T i).n ≤ 2147483647) {i j : Nat} {N : List Ex} (h : PX T none 0 i exM N 0 j) : chkT (N.map (plE T)) = (0, 0) := by
  have := px_chk hT h ⟨0, 1, 0⟩ [] 0 [] rfl (by decide) ⟨rfl, rfl, rfl⟩ rfl rfl
  rw [List.append_nil] at this
  rw [chkT, chkE_pl, this]
  rfl
/-! ### definitions -/
inductive PD (T : List Tk) : Nat → Nat → List Df → Prop
  | nil {i k : Nat} (h : T.length ≤ i) (hk : k ≤ 256) : PD T i k []
  | cons {i k j : Nat} {N : List Ex} {D : List Df} (hk : k < 256) (h0 : isT (tkA T i) 1 [116, 121, 112, 101] = true) (h1 : nmT (tkA T (i + 1)) = true) (h2 : isT (tkA T (i + 2)) 3 [61] = true) (hN : PX T none 0 (i + 3) exM N 0 j) (h3 : isT (tkA T j) 3 [59] = true) (hD : PD T (j + 1) (k + 1) D) : PD T i k (⟨(tkA T (i + 1)).text, ((i + 1 : Nat) : Int), N⟩ :: D)
theorem defs_pd {T : List Tk} : ∀ (g i k : Nat) (D : List Df) (e : Nat), k ≤ 256 → defsT T g i k = .ok D e → PD T i k D
  | 0, i, k, D, e, hk, h => by cases h
  | g + 1, i, k, D, e, hk, h => by
    rw [defsT_s] at h
    split at h
    · rename_i hi; cases h; exact .nil hi hk
    · split at h
      · cases h
      · rename_i hi hnm
        obtain ⟨_, i1, h1, h⟩ := bind_ok h
        obtain ⟨g1, rfl⟩ := wantT_ok h1
        obtain ⟨s, i2, h2, h⟩ := bind_ok h
        obtain ⟨g2, rfl, rfl⟩ := nameT_ok h2
        obtain ⟨_, i3, h3, h⟩ := bind_ok h
        obtain ⟨g3, rfl⟩ := wantT_ok h3
        obtain ⟨N, j, h4, h⟩ := bind_ok h
        obtain ⟨_, i5, h5, h⟩ := bind_ok h
        obtain ⟨g5, rfl⟩ := wantT_ok h5
        obtain ⟨D', e', h6, h⟩ := bind_ok h
        cases h
        have hk2 : k < 256 := by
          rcases Nat.lt_or_ge k 256 with h7 | h7
          · exact h7
          · exact absurd ⟨by omega, g1⟩ hnm
        exact .cons hk2 g1 g2 g3 (expr_px _ _ _ _ _ _ h4) g5 (defs_pd g _ _ _ _ (by omega) h6)
theorem pd_chk {T : List Tk} (hT : ∀ i, (tkA T i).n ≤ 2147483647) {i k : Nat} {D : List Df} (h : PD T i k D) : (∀ m, chkA m (D.map (plD T)) = (0, 0, 0)) ∧ k + D.length ≤ 256 := by
  induction h with
  | nil h hk => exact ⟨fun m => rfl, hk⟩
  | @cons i k j N D hk h0 h1 h2 hN h3 hD ih =>
    refine ⟨fun m => ?_, by rw [List.length_cons]; omega⟩
    rw [List.map_cons, chkA_cons, if_neg ?_, if_pos ?_, ih.1]
    · show (chkT (N.map (plE T))).2 = 0
      rw [px_chkT hT hN]
    · show ¬ nameB (tkA T (i + 1)).text = false
      simp only [nmT, Bool.and_eq_true] at h1
      simp [h1.2]
theorem cut_small (xs : List UInt8) (i : Nat) : (tkA (cutA xs).1 i).n ≤ 2147483647 := by
  by_cases h : i < (cutA xs).1.length
  · exact (cut_in h).small
  · rw [tkA_ge (by omega)]; exact Nat.zero_le _


/-! ### places rise -/
def Rise (lo : Int) : List Ex → Int → Prop
  | [], hi => lo ≤ hi
  | y :: l, hi => lo ≤ y.at_ ∧ Rise (y.at_ + 1) l hi
theorem Rise.app : ∀ {L M : List Ex} {a b c : Int}, Rise a L b → Rise b M c → Rise a (L ++ M) c
  | [], M, a, b, c, h1, h2 => by
    show Rise a M c
    cases M with
    | nil => exact Int.le_trans h1 h2
    | cons y l => exact ⟨Int.le_trans h1 h2.1, h2.2⟩
  | y :: l, M, a, b, c, h1, h2 => ⟨h1.1, h1.2.app h2⟩
theorem Rise.ge {L : List Ex} : ∀ {a b : Int}, Rise a L b → a ≤ b := by
  induction L with
  | nil => intro a b h; exact h
  | cons y l ih => intro a b h; have := ih h.2; have := h.1; omega
theorem Rise.lo {L : List Ex} {a a' b : Int} (h : Rise a L b) (ha : a' ≤ a) : Rise a' L b := by
  cases L with
  | nil => exact Int.le_trans ha h
  | cons y l => exact ⟨Int.le_trans ha h.1, h.2⟩
theorem Rise.hi {L : List Ex} : ∀ {a b b' : Int}, Rise a L b → b ≤ b' → Rise a L b' := by
  induction L with
  | nil => intro a b b' h hb; exact Int.le_trans h hb
  | cons y l ih => intro a b b' h hb; exact ⟨h.1, ih h.2 hb⟩
def NdOk (T : List Tk) (y : Ex) : Prop := 0 ≤ y.at_ ∧ (y.label ≠ [] → (tkA T y.at_.toNat).text = y.label) ∧ (y.label = [] → y.kind = 9 → (tkA T y.at_.toNat).kind = 1 → (tkA T y.at_.toNat).text = y.name)
def RiM (T : List Tk) (r : Option (Bool × Nat)) (i : Nat) (x : Ex) (N : List Ex) (j : Nat) : Prop := i < j ∧ j ≤ T.length ∧ match r with
  | none => ((x.at_ < 0 ∧ x.label = []) ∨ (0 ≤ x.at_ ∧ x.at_ < i ∧ (x.label ≠ [] → (tkA T x.at_.toNat).text = x.label) ∧ (x.label = [] → ¬ (tkA T x.at_.toNat).kind = 1))) → Rise (if x.at_ < 0 then i else x.at_) N j ∧ ∀ y ∈ N, NdOk T y
  | some (u, q) => Rise i N j ∧ ∀ y ∈ N, NdOk T y
theorem atE_at {i : Nat} {x : Ex} : (atE i x).at_ = if x.at_ < 0 then (i : Int) else x.at_ := by unfold atE; split <;> rfl
theorem atE_label {i : Nat} {x : Ex} : (atE i x).label = x.label := by unfold atE; split <;> rfl
theorem nd_at {T : List Tk} {i : Nat} {x y : Ex} (hx : (x.at_ < 0 ∧ x.label = []) ∨ (0 ≤ x.at_ ∧ x.at_ < i ∧ (x.label ≠ [] → (tkA T x.at_.toNat).text = x.label) ∧ (x.label = [] → ¬ (tkA T x.at_.toNat).kind = 1))) (ha : y.at_ = (atE i x).at_) (hl : y.label = x.label) (hk : y.kind = 9 → (tkA T i).text = y.name) :
    (if x.at_ < 0 then (i : Int) else x.at_) = y.at_ ∧ y.at_ ≤ (i : Int) ∧ NdOk T y := by
  rw [atE_at] at ha
  rcases hx with ⟨h1, h2⟩ | ⟨h1, h2, h3, h4⟩
  · rw [if_pos h1] at ha ⊢
    refine ⟨ha.symm, by omega, by omega, fun h => absurd (hl.trans h2) h, fun _ h5 _ => ?_⟩
    rw [ha]; exact hk h5
  · rw [if_neg (by omega)] at ha ⊢
    refine ⟨ha.symm, by omega, by omega, fun h => ?_, fun h5 _ h7 => ?_⟩
    · rw [ha, hl]; exact h3 (by rw [← hl]; exact h)
    · rw [ha] at h7; exact absurd h7 (h4 (by rw [← hl]; exact h5))
theorem nm_ne {s : List UInt8} (h : nameB s = true) : s ≠ [] := fun he => by rw [he] at h; cases h
theorem px_rise {T : List Tk} {r : Option (Bool × Nat)} {deep i : Nat} {x : Ex} {N : List Ex} {n j : Nat} (h : PX T r deep i x N n j) : RiM T r i x N j := by
  have hbT : ∀ {i}, bgnT (tkA T i) = true → i < T.length := fun hb => tkA_kind (by decide) (bgn_kind hb)
  have hd0 : ∀ {u i}, hdOk T u i → i < T.length ∧ ((hdE T u i).at_ = (i : Int) ∧ ((hdE T u i).label ≠ [] → (tkA T i).text = (hdE T u i).label) ∧ ((hdE T u i).label = [] → ¬ (tkA T i).kind = 1)) := by
    intro u i hh
    cases u
    · have hh' : nmT (tkA T i) = true := hh
      simp only [nmT, Bool.and_eq_true, decide_eq_true_eq] at hh'
      exact ⟨tkA_kind (by decide) hh'.1, rfl, fun _ => rfl, fun hl => absurd hl (nm_ne hh'.2)⟩
    · have hh' : (tkA T i).kind = 2 := hh
      exact ⟨tkA_kind (by decide) hh', rfl, fun hl => absurd rfl hl, fun _ => by omega⟩
  induction h with
  | @leaf deep i x kn hb hd hl =>
    refine ⟨by omega, hbT hb, fun hx => ?_⟩
    have hk := leafE_ok hl
    obtain ⟨h1, h2, h3⟩ := nd_at (y := (atE i x).lf kn.1 kn.2) hx rfl atE_label (fun h => by rcases hk with rfl | rfl | rfl | rfl | rfl | rfl <;> cases h)
    refine ⟨⟨by omega, by show _ + 1 ≤ _; omega⟩, fun y hy => ?_⟩
    rw [List.mem_singleton] at hy; rw [hy]; exact h3
  | @nm deep i x hb hd hl hv ho hu hs =>
    refine ⟨by omega, hbT hb, fun hx => ?_⟩
    obtain ⟨h1, h2, h3⟩ := nd_at (y := (atE i x).nm (tkA T i).text) hx rfl atE_label (fun h => rfl)
    refine ⟨⟨by omega, by show _ + 1 ≤ _; omega⟩, fun y hy => ?_⟩
    rw [List.mem_singleton] at hy; rw [hy]; exact h3
  | @vec deep i x N j hb hd hl hv h1 hN h2 h3 h4 ih =>
    obtain ⟨q1, q2, q3⟩ := ih
    refine ⟨by omega, isT_lt (by decide) h4, fun hx => ?_⟩
    obtain ⟨g1, g2, g3⟩ := nd_at (y := (atE i x).vec (decide ((tkA T i).text = [108, 105, 115, 116])) (tkA T (j + 1)).n) hx rfl atE_label (fun h => by simp only [Ex.vec] at h; split at h <;> cases h)
    obtain ⟨r1, r2⟩ := q3 (.inl ⟨by decide, rfl⟩)
    rw [if_pos (by decide)] at r1
    refine ⟨⟨by omega, (r1.lo (by omega)).hi (by omega)⟩, fun y hy => ?_⟩
    rcases List.mem_cons.1 hy with rfl | hy
    · exact g3
    · exact r2 y hy
  | @opt deep i x N j hb hd hl ho h1 hN h2 ih =>
    obtain ⟨q1, q2, q3⟩ := ih
    refine ⟨by omega, isT_lt (by decide) h2, fun hx => ?_⟩
    obtain ⟨g1, g2, g3⟩ := nd_at (y := (atE i x).opt) hx rfl atE_label (fun h => by cases h)
    obtain ⟨r1, r2⟩ := q3 (.inl ⟨by decide, rfl⟩)
    rw [if_pos (by decide)] at r1
    refine ⟨⟨by omega, (r1.lo (by omega)).hi (by omega)⟩, fun y hy => ?_⟩
    rcases List.mem_cons.1 hy with rfl | hy
    · exact g3
    · exact r2 y hy
  | @br deep i x u M n j hb hd hl hw h1 hM ih =>
    obtain ⟨q1, q2, r1, r2⟩ := ih
    refine ⟨by omega, q2, fun hx => ?_⟩
    obtain ⟨g1, g2, g3⟩ := nd_at (y := (atE i x).br u (n : Nat)) hx rfl atE_label (fun h => by cases u <;> cases h)
    refine ⟨⟨by omega, r1.lo (by omega)⟩, fun y hy => ?_⟩
    rcases List.mem_cons.1 hy with rfl | hy
    · exact g3
    · exact r2 y hy
  | @last deep i u k N j hk hh hc hN hm hr ih =>
    obtain ⟨q1, q2, q3⟩ := ih
    obtain ⟨p1, p2, p3, p4⟩ := hd0 hh
    obtain ⟨r1, r2⟩ := q3 (.inr ⟨by omega, by omega, fun h => by rw [p2]; exact p3 h, fun h => by rw [p2]; exact p4 h⟩)
    rw [if_neg (by omega), p2] at r1
    exact ⟨by omega, isT_lt (by decide) hr, r1.hi (by omega), r2⟩
  | @more deep i u k N M j n e hk hh hc hN hm hR ih1 ih2 =>
    obtain ⟨q1, q2, q3⟩ := ih1
    obtain ⟨s1, s2, s3, s4⟩ := ih2
    obtain ⟨p1, p2, p3, p4⟩ := hd0 hh
    obtain ⟨r1, r2⟩ := q3 (.inr ⟨by omega, by omega, fun h => by rw [p2]; exact p3 h, fun h => by rw [p2]; exact p4 h⟩)
    rw [if_neg (by omega), p2] at r1
    refine ⟨by omega, s2, (r1.hi (by omega)).app s3, fun y hy => ?_⟩
    rcases List.mem_append.1 hy with hy | hy
    · exact r2 y hy
    · exact s4 y hy
theorem expr_lt {T : List Tk} {f i : Nat} {x : Ex} {deep : Nat} {N : List Ex} {j : Nat} (h : exprT T f i x deep = .ok N j) : i < j ∧ j ≤ T.length := ⟨(px_rise (expr_px _ _ _ _ _ _ h)).1, (px_rise (expr_px _ _ _ _ _ _ h)).2.1⟩
/-! ### faults -/
def Bd (e : Nat) : Prop := e = 5 ∨ e = 60 ∨ e = 61
theorem wantT_le {T : List Tk} {i k j : Nat} {s : List UInt8} {a : Unit} (hk : 1 ≤ k) (h : wantT T i k s = .ok a j) : j = i + 1 ∧ i < T.length := ⟨(wantT_ok h).2, isT_lt hk (wantT_ok h).1⟩
theorem headT_bd {T : List Tk} {u full : Bool} {i j e : Nat} {x : Ex} (h : headT T u full i x = .bad e j) : Bd e ∧ j = i := by
  cases u
  · rw [headT_s] at h
    split at h
    · cases h; exact ⟨.inl rfl, rfl⟩
    · rcases bind_bad h with h | ⟨_, _, _, h⟩
      · obtain ⟨rfl, rfl, -⟩ := nameT_bad h; exact ⟨.inr (.inl rfl), rfl⟩
      · cases h
  · rw [headT_u] at h
    split at h
    · cases h; exact ⟨.inl rfl, rfl⟩
    · rcases bind_bad h with h | ⟨_, _, _, h⟩
      · obtain ⟨rfl, rfl, -⟩ := numT_bad h; exact ⟨.inr (.inl rfl), rfl⟩
      · cases h
theorem headT_le {T : List Tk} {u full : Bool} {i j : Nat} {y : Ex} (h : headT T u full i { ex0 with at_ := i } = .ok y j) : j = i + 1 ∧ i < T.length := by
  obtain ⟨hh, -, rfl, -⟩ := headT_ok h
  refine ⟨rfl, ?_⟩
  cases u
  · have hh' : nmT (tkA T i) = true := hh
    simp only [nmT, Bool.and_eq_true, decide_eq_true_eq] at hh'
    exact tkA_kind (by decide) hh'.1
  · exact tkA_kind (k := 2) (by decide) hh
theorem rows_bad {T : List Tk} {E : Nat → Ex → Pr (List Ex)} {u : Bool} {i0 : Nat} (hE : ∀ i x e j, i0 ≤ i → i ≤ T.length → E i x = .bad e j → Bd e ∧ i ≤ j ∧ j ≤ T.length) (hEo : ∀ i x N j, E i x = .ok N j → i < j ∧ j ≤ T.length) :
    ∀ (g i k e j : Nat), i0 ≤ i → i ≤ T.length → T.length + 2 ≤ g + i → rowsT E T u g i k = .bad e j → Bd e ∧ i ≤ j ∧ j ≤ T.length
  | 0, i, k, e, j, h0, hi, hg, h => by omega
  | g + 1, i, k, e, j, h0, hi, hg, h => by
    rw [rowsT_s] at h
    rcases bind_bad h with h | ⟨y, i1, h1, h⟩
    · obtain ⟨g1, rfl⟩ := headT_bd h; exact ⟨g1, Nat.le_refl _, hi⟩
    · obtain ⟨rfl, hi1⟩ := headT_le h1
      rcases bind_bad h with h | ⟨_, i2, h2, h⟩
      · obtain ⟨rfl, rfl, -⟩ := wantT_bad h; exact ⟨.inr (.inl rfl), by omega, by omega⟩
      · obtain ⟨rfl, hi2⟩ := wantT_le (by decide) h2
        rcases bind_bad h with h | ⟨N, i3, h3, h⟩
        · obtain ⟨a1, a2, a3⟩ := hE _ _ _ _ (by omega) (by omega) h; exact ⟨a1, by omega, a3⟩
        · obtain ⟨b1, b2⟩ := hEo _ _ _ _ h3
          split at h
          · rename_i hm
            have hm2 := isT_lt (by decide) hm
            rcases bind_bad h with h | ⟨r, i4, h4, h⟩
            · obtain ⟨a1, a2, a3⟩ := rows_bad hE hEo g (i3 + 1) (k + 1) e j (by omega) (by omega) (by omega) h
              exact ⟨a1, by omega, a3⟩
            · cases h
          · rcases bind_bad h with h | ⟨r, i4, h4, h⟩
            · obtain ⟨rfl, rfl, -⟩ := wantT_bad h; exact ⟨.inr (.inl rfl), by omega, by omega⟩
            · cases h
theorem expr_bad {T : List Tk} : ∀ (f i : Nat) (x : Ex) (deep e j : Nat), i ≤ T.length → T.length + 2 ≤ f + i → exprT T f i x deep = .bad e j → Bd e ∧ i ≤ j ∧ j ≤ T.length
  | 0, i, x, deep, e, j, hi, hf, h => by omega
  | f + 1, i, x, deep, e, j, hi, hf, h => by
    rw [exprT_s] at h
    split at h
    · cases h; exact ⟨.inr (.inl rfl), Nat.le_refl _, hi⟩
    · rename_i hb
      have hil : i < T.length := tkA_kind (by decide) (bgn_kind (by simpa using hb))
      split at h
      · cases h; exact ⟨.inr (.inr rfl), Nat.le_refl _, hi⟩
      · split at h
        · cases h
        · split at h
          · rcases bind_bad h with h | ⟨_, i1, h1, h⟩
            · obtain ⟨rfl, rfl, -⟩ := wantT_bad h; exact ⟨.inr (.inl rfl), by omega, by omega⟩
            · obtain ⟨rfl, hi1⟩ := wantT_le (by decide) h1
              rcases bind_bad h with h | ⟨N, i2, h2, h⟩
              · obtain ⟨a1, a2, a3⟩ := expr_bad f _ _ _ _ _ (by omega) (by omega) h; exact ⟨a1, by omega, a3⟩
              · obtain ⟨b1, b2⟩ := expr_lt h2
                rcases bind_bad h with h | ⟨_, i3, h3, h⟩
                · obtain ⟨rfl, rfl, -⟩ := wantT_bad h; exact ⟨.inr (.inl rfl), by omega, by omega⟩
                · obtain ⟨rfl, hi3⟩ := wantT_le (by decide) h3
                  rcases bind_bad h with h | ⟨n, i4, h4, h⟩
                  · obtain ⟨rfl, rfl, -⟩ := numT_bad h; exact ⟨.inr (.inl rfl), by omega, by omega⟩
                  · obtain ⟨g4, -, rfl⟩ := numT_ok h4
                    have hi4 := tkA_kind (by decide) g4
                    rcases bind_bad h with h | ⟨_, i5, h5, h⟩
                    · obtain ⟨rfl, rfl, -⟩ := wantT_bad h; exact ⟨.inr (.inl rfl), by omega, by omega⟩
                    · cases h
          · split at h
            · rcases bind_bad h with h | ⟨_, i1, h1, h⟩
              · obtain ⟨rfl, rfl, -⟩ := wantT_bad h; exact ⟨.inr (.inl rfl), by omega, by omega⟩
              · obtain ⟨rfl, hi1⟩ := wantT_le (by decide) h1
                rcases bind_bad h with h | ⟨N, i2, h2, h⟩
                · obtain ⟨a1, a2, a3⟩ := expr_bad f _ _ _ _ _ (by omega) (by omega) h; exact ⟨a1, by omega, a3⟩
                · obtain ⟨b1, b2⟩ := expr_lt h2
                  rcases bind_bad h with h | ⟨_, i3, h3, h⟩
                  · obtain ⟨rfl, rfl, -⟩ := wantT_bad h; exact ⟨.inr (.inl rfl), by omega, by omega⟩
                  · cases h
            · have hrow : ∀ (u : Bool), (((wantT T (i + 1) 3 [123]).bind fun _ j => rowsT (fun i x => exprT T f i x (deep + 1)) T u f j 0).bind fun r j => (.ok ((atE i x).br u (r.2 : Nat) :: r.1) j : Pr (List Ex))) = .bad e j → Bd e ∧ i ≤ j ∧ j ≤ T.length := by
                intro u h
                rcases bind_bad h with h | ⟨_, _, _, h⟩
                · rcases bind_bad h with h | ⟨_, i1, h1, h⟩
                  · obtain ⟨rfl, rfl, -⟩ := wantT_bad h; exact ⟨.inr (.inl rfl), by omega, by omega⟩
                  · obtain ⟨rfl, hi1⟩ := wantT_le (by decide) h1
                    obtain ⟨a1, a2, a3⟩ := rows_bad (i0 := i + 1 + 1) (fun i x e j h0 hi hh => expr_bad f i x _ e j hi (by omega) hh) (fun i x N j hh => expr_lt hh) f _ _ _ _ (Nat.le_refl _) (by omega) (by omega) h
                    exact ⟨a1, by omega, a3⟩
                · cases h
              split at h
              · exact hrow true h
              · split at h
                · exact hrow false h
                · cases h
theorem defs_bad {T : List Tk} : ∀ (g i k e j : Nat), i ≤ T.length → T.length + 2 ≤ g + i → defsT T g i k = .bad e j → Bd e ∧ i ≤ j ∧ j ≤ T.length
  | 0, i, k, e, j, hi, hg, h => by omega
  | g + 1, i, k, e, j, hi, hg, h => by
    rw [defsT_s] at h
    split at h
    · cases h
    · rename_i hil
      split at h
      · cases h; exact ⟨.inl rfl, Nat.le_refl _, hi⟩
      · rcases bind_bad h with h | ⟨_, i1, h1, h⟩
        · obtain ⟨rfl, rfl, -⟩ := wantT_bad h; exact ⟨.inr (.inl rfl), by omega, by omega⟩
        · obtain ⟨rfl, hi1⟩ := wantT_le (by decide) h1
          rcases bind_bad h with h | ⟨s, i2, h2, h⟩
          · obtain ⟨rfl, rfl, -⟩ := nameT_bad h; exact ⟨.inr (.inl rfl), by omega, by omega⟩
          · obtain ⟨g2, -, rfl⟩ := nameT_ok h2
            have hi2 : i + 1 < T.length := by simp only [nmT, Bool.and_eq_true, decide_eq_true_eq] at g2; exact tkA_kind (by decide) g2.1
            rcases bind_bad h with h | ⟨_, i3, h3, h⟩
            · obtain ⟨rfl, rfl, -⟩ := wantT_bad h; exact ⟨.inr (.inl rfl), by omega, by omega⟩
            · obtain ⟨rfl, hi3⟩ := wantT_le (by decide) h3
              rcases bind_bad h with h | ⟨N, i4, h4, h⟩
              · obtain ⟨a1, a2, a3⟩ := expr_bad _ _ _ _ _ _ (by omega) (by omega) h; exact ⟨a1, by omega, a3⟩
              · obtain ⟨b1, b2⟩ := expr_lt h4
                rcases bind_bad h with h | ⟨_, i5, h5, h⟩
                · obtain ⟨rfl, rfl, -⟩ := wantT_bad h; exact ⟨.inr (.inl rfl), by omega, by omega⟩
                · obtain ⟨rfl, hi5⟩ := wantT_le (by decide) h5
                  rcases bind_bad h with h | ⟨D, i6, h6, h⟩
                  · obtain ⟨a1, a2, a3⟩ := defs_bad g _ _ _ _ (by omega) (by omega) h; exact ⟨a1, by omega, a3⟩
                  · cases h


theorem parse_cases (xs : List UInt8) : ((parseA xs).2.1 ≠ 0 ∧ (parseA xs).1 = []) ∨ ((cutA xs).2 = (0, 0) ∧ ∃ D, PD (cutA xs).1 0 0 D ∧ parseA xs = (D.map (plD (cutA xs).1), 0, 0)) := by
  by_cases h0 : (parseA xs).2.1 = 0
  · right
    unfold parseA at h0 ⊢
    split at h0
    · rename_i h1
      split at h0
      · rename_i D j h2
        rw [if_pos h1]
        refine ⟨Prod.ext h1 (cutA_ok h1), D, defs_pd _ _ _ _ _ (by omega) h2, ?_⟩
        first | rfl | rw [h2]
      · rename_i e i h2
        have := (defs_bad _ _ _ _ _ (Nat.zero_le _) (by omega) h2).1; rcases this with rfl | rfl | rfl <;> cases h0
    · rename_i h1; exact absurd h0 h1
  · exact .inl ⟨h0, parseA_bad h0⟩

end Go.Proofs.Ytcljkkfpcomdcaa
