/-
  Walks. Written by program out of specs of mine.
-/
import Derived.Test.YtdiaeafjjffjmaaK
set_option linter.unusedSimpArgs false
set_option linter.unusedVariables false
set_option maxRecDepth 100000
namespace Go.Proofs.Ytdiaeafjjffjmaa
open Go Go.Vc Go.RowKit Go.Proofs
theorem vsize_up : ∀ (n : Nat), n < 128 ^ vsize n := by
  intro n
  induction n using Nat.strongRecOn with
  | _ n ih =>
    by_cases h : n < 128
    · rw [vsize_lt h]; simpa using h
    · rw [vsize_ge h, Nat.pow_succ]
      have := ih (n / 128) (by omega)
      omega
theorem vsize_dn : ∀ (n : Nat), vsize n = 1 ∨ 128 ^ (vsize n - 1) ≤ n := by
  intro n
  induction n using Nat.strongRecOn with
  | _ n ih =>
    by_cases h : n < 128
    · exact .inl (vsize_lt h)
    · right
      have hp := vsize_pos (n / 128)
      rw [vsize_ge h, Nat.add_sub_cancel]
      rcases ih (n / 128) (by omega) with h1 | h1
      · rw [h1]; omega
      · obtain ⟨k, hk⟩ : ∃ k, vsize (n / 128) = k + 1 := ⟨vsize (n / 128) - 1, by omega⟩
        rw [hk] at h1 ⊢
        rw [Nat.add_sub_cancel] at h1
        rw [Nat.pow_succ]; omega
theorem mod_succ (n j : Nat) : n % 128 ^ (j + 1) = n % 128 ^ j + dig n j * 128 ^ j := by
  rw [Nat.pow_succ, Nat.mod_mul]; unfold dig; rw [Nat.mul_comm (128 ^ j)]
theorem vput_get {n j : Nat} (h : j < vsize n) : (vput n)[j]? = some (vbyte n (vsize n) j) := by simp [vput, h]
theorem dig_lt (n j : Nat) : dig n j < 128 := Nat.mod_lt _ (by decide)
theorem vbyte_nat (n s j : Nat) : (vbyte n s j).toNat = if j + 1 < s then dig n j + 128 else dig n j := by
  have := vbyte_lt n s j
  unfold vbyte
  rw [UInt8.toNat_ofNat']
  exact Nat.mod_eq_of_lt this
theorem vbyte_fine {n j : Nat} (hn : n < 2 ^ 64) (h : j < vsize n) : vfault (vbyte n (vsize n) j) j = false := by
  have h10 := vsize_10 hn
  have hd := dig_lt n j
  simp only [vfault, Bool.or_eq_false_iff, Bool.and_eq_false_iff, decide_eq_false_iff_not, vbyte_nat]
  refine ⟨?_, ?_⟩
  · by_cases hj : 0 < j
    · right
      split
      · omega
      · have hl : j = vsize n - 1 := by omega
        have h1 := (vsize_dn n).resolve_left (by omega)
        rw [← hl] at h1
        have h2 := vsize_up n
        rw [show vsize n = j + 1 by omega, Nat.pow_succ] at h2
        have h3 : n / 128 ^ j < 128 := Nat.div_lt_of_lt_mul (by rw [Nat.mul_comm]; rw [Nat.mul_comm] at h2; exact h2)
        have h4 : 0 < n / 128 ^ j := Nat.div_pos h1 (Nat.pow_pos (by decide))
        unfold dig
        rw [Nat.mod_eq_of_lt h3]; omega
    · left; omega
  · by_cases hj : j = 9
    · right
      subst hj
      rw [if_neg (by omega)]
      have : n / 128 ^ 9 < 2 := Nat.div_lt_of_lt_mul (Nat.lt_of_lt_of_le hn (by decide))
      unfold dig
      omega
    · left; exact hj
theorem drop_cons {α : Type} {l : List α} {j : Nat} {x : α} (h : l[j]? = some x) : l.drop j = x :: l.drop (j + 1) := by
  obtain ⟨hj, rfl⟩ := List.getElem?_eq_some_iff.1 h
  rw [List.getElem_cons_drop]
theorem vget_run {n : Nat} (hn : n < 2 ^ 64) (ys : List UInt8) : ∀ j, j < vsize n → vget 0 0 (vput n ++ ys) = vget j (n % 128 ^ j) ((vput n).drop j ++ ys) := by
  intro j
  induction j with
  | zero => intro _; simp [Nat.mod_one]
  | succ j ih =>
    intro h
    rw [ih (by omega), drop_cons (vput_get (show j < vsize n by omega)), List.cons_append, vget, vbyte_fine hn (by omega)]
    have hd := dig_lt n j
    simp only [Bool.false_eq_true, if_false, vbyte_nat, if_pos h]
    rw [if_neg (by omega), mod_succ, show (dig n j + 128) % 128 = dig n j by omega]
theorem vget_put {n : Nat} (hn : n < 2 ^ 64) (ys : List UInt8) : vget 0 0 (vput n ++ ys) = (n, vsize n, 0) := by
  have hp := vsize_pos n
  have hd := dig_lt n (vsize n - 1)
  rw [vget_run hn ys (vsize n - 1) (by omega), drop_cons (vput_get (show vsize n - 1 < vsize n by omega)), List.cons_append, vget, vbyte_fine hn (by omega)]
  simp only [Bool.false_eq_true, if_false, vbyte_nat, if_neg (show ¬ vsize n - 1 + 1 < vsize n by omega)]
  rw [if_pos (by omega), Nat.mod_eq_of_lt hd, ← mod_succ, show vsize n - 1 + 1 = vsize n by omega, Nat.mod_eq_of_lt (vsize_up n)]
theorem vget_cut {n : Nat} (hn : n < 2 ^ 64) {i : Nat} (hi : i < vsize n) : vget 0 0 ((vput n).take i) = (0, i, 20) := by
  have key : ∀ j, j ≤ i → vget 0 0 ((vput n).take i) = vget j (n % 128 ^ j) (((vput n).take i).drop j) := by
    intro j
    induction j with
    | zero => intro _; simp [Nat.mod_one]
    | succ j ih =>
      intro h
      have hg : ((vput n).take i)[j]? = some (vbyte n (vsize n) j) := by rw [List.getElem?_take, if_pos (by omega)]; exact vput_get (by omega)
      have hd := dig_lt n j
      rw [ih (by omega), drop_cons hg, vget, vbyte_fine hn (by omega)]
      simp only [Bool.false_eq_true, if_false, vbyte_nat, if_pos (show j + 1 < vsize n by omega)]
      rw [if_neg (by omega), mod_succ, show (dig n j + 128) % 128 = dig n j by omega]
  rw [key i (Nat.le_refl _), List.drop_eq_nil_of_le (by simp; omega)]
  rfl
theorem vget_inv : ∀ (xs : List UInt8) (k m : Nat), m < 128 ^ k → k ≤ 9 → (vget k m xs).2.2 = 0 → ∃ f, f < xs.length ∧ (vget k m xs).2.1 = k + f + 1 ∧ (vget k m xs).1 % 128 ^ k = m ∧ (vget k m xs).1 < 2 ^ 64 ∧
    (vget k m xs).1 < 128 ^ (k + f + 1) ∧ (∀ j (h : j < xs.length), j ≤ f → dig (vget k m xs).1 (k + j) = (xs[j]).toNat % 128) ∧ (∀ j (h : j < xs.length), j < f → 128 ≤ (xs[j]).toNat) ∧ (∀ h : f < xs.length, (xs[f]).toNat < 128 ∧ (0 < k + f → (xs[f]).toNat ≠ 0))
  | [], k, m, _, _, h => by simp [vget] at h
  | c :: cs, k, m, hm, hk, h => by
    have hc8 : c.toNat < 256 := UInt8.toNat_lt _
    have hdig : ∀ a, a % 128 ^ (k + 1) = m + c.toNat % 128 * 128 ^ k → dig a k = c.toNat % 128 ∧ a % 128 ^ k = m := by
      intro a ha
      rw [mod_succ] at ha
      have h1 : a % 128 ^ k < 128 ^ k := Nat.mod_lt _ (Nat.pow_pos (by decide))
      have h2 : (a % 128 ^ k + dig a k * 128 ^ k) / 128 ^ k = dig a k := by rw [Nat.add_mul_div_right _ _ (Nat.pow_pos (by decide)), Nat.div_eq_of_lt h1]; omega
      have h3 : (m + c.toNat % 128 * 128 ^ k) / 128 ^ k = c.toNat % 128 := by rw [Nat.add_mul_div_right _ _ (Nat.pow_pos (by decide)), Nat.div_eq_of_lt hm]; omega
      rw [ha, h3] at h2
      refine ⟨h2.symm, ?_⟩
      rw [← h2] at ha; omega
    unfold vget at h ⊢
    cases hf : vfault c k with
    | true => rw [hf] at h; simp at h
    | false =>
      rw [hf] at h
      simp only [Bool.false_eq_true, if_false] at h ⊢
      have hv := vfault9 hf
      have hgr := grp hk hm hc8 hv.1
      by_cases hlt : c.toNat < 128
      · rw [if_pos hlt] at h ⊢
        have hb : m + c.toNat % 128 * 128 ^ k < 128 ^ (k + 0 + 1) := by
          have : c.toNat % 128 * 128 ^ k ≤ 127 * 128 ^ k := Nat.mul_le_mul_right _ (by omega)
          rw [Nat.add_zero, Nat.pow_succ]; omega
        have hd := hdig (m + c.toNat % 128 * 128 ^ k) (Nat.mod_eq_of_lt hb)
        refine ⟨0, by simp, rfl, hd.2, hgr.2.1, hb, ?_, fun j _ hj => absurd hj (Nat.not_lt_zero _), fun _ => ⟨hlt, fun h => hv.2 (by omega)⟩⟩
        intro j hj hj0
        obtain rfl : j = 0 := by omega
        exact hd.1
      · rw [if_neg hlt] at h ⊢
        have hk9 : k < 9 := by have := hv.1; omega
        obtain ⟨f, h1, h2, h3, h4, h5, h6, h7, h8⟩ := vget_inv cs (k + 1) _ (hgr.2.2 hk9) (by omega) h
        have hd := hdig _ h3
        refine ⟨f + 1, by simp; omega, by omega, hd.2, h4, by rw [show k + (f + 1) + 1 = k + 1 + f + 1 by omega]; exact h5, ?_, ?_, ?_⟩
        · intro j hj hjf
          cases j with
          | zero => exact hd.1
          | succ j => have := h6 j (by simp at hj; omega) (by omega); rw [show k + (j + 1) = k + 1 + j by omega]; simpa using this
        · intro j hj hjf
          cases j with
          | zero => simp; omega
          | succ j => have := h7 j (by simp at hj; omega) (by omega); simpa using this
        · intro hff
          have := h8 (by simp at hff; omega)
          simp only [List.getElem_cons_succ]
          exact ⟨this.1, fun _ => this.2 (by omega)⟩
theorem vget_back (xs : List UInt8) (h : (vget 0 0 xs).2.2 = 0) : (vget 0 0 xs).1 < 2 ^ 64 ∧ vput (vget 0 0 xs).1 = xs.take (vget 0 0 xs).2.1 ∧ vsize (vget 0 0 xs).1 = (vget 0 0 xs).2.1 := by
  obtain ⟨f, h1, h2, h3, h4, h5, h6, h7, h8⟩ := vget_inv xs 0 0 (by decide) (by decide) h
  simp only [Nat.zero_add] at h2 h5 h6
  have h8 := h8 h1
  have hs : vsize (vget 0 0 xs).1 = f + 1 := by
    have a1 := vsize_pow f _ h5
    by_cases hf : f = 0
    · have := vsize_pos (vget 0 0 xs).1; omega
    · have hd := h6 f h1 (Nat.le_refl _)
      have hne := h8.2 (by omega)
      rcases Nat.lt_or_ge (vsize (vget 0 0 xs).1) (f + 1) with hlt | hge
      · exfalso
        have : (vget 0 0 xs).1 < 128 ^ f := Nat.lt_of_lt_of_le (vsize_up _) (Nat.pow_le_pow_right (by decide) (by omega))
        unfold dig at hd
        rw [Nat.div_eq_of_lt this] at hd
        omega
      · omega
  refine ⟨h4, ?_, by rw [hs, h2]⟩
  rw [h2]
  apply List.ext_getElem?
  intro j
  by_cases hj : j < f + 1
  · rw [vput_get (by omega), List.getElem?_take, if_pos hj, List.getElem?_eq_getElem (by omega)]
    congr 1
    apply UInt8.toNat_inj.1
    rw [vbyte_nat, hs, h6 j (by omega) (by omega)]
    split
    · have := h7 j (by omega) (by omega)
      have := UInt8.toNat_lt (xs[j])
      omega
    · have : j = f := by omega
      subst this
      omega
  · rw [List.getElem?_eq_none (by rw [vput_len]; omega), List.getElem?_take, if_neg hj]
theorem vput_lt {n : Nat} (h : n < 128) : vput n = [UInt8.ofNat n] := by
  have h1 : n % 128 = n := Nat.mod_eq_of_lt h
  simp [vput, vsize_lt h, vbyte, dig, h1]
theorem vput_ge {n : Nat} (h : ¬ n < 128) : vput n = UInt8.ofNat (n % 128 + 128) :: vput (n / 128) := by
  unfold vput
  rw [vsize_ge h, List.range_succ_eq_map, List.map_cons, List.map_map]
  have hp := vsize_pos (n / 128)
  congr 1
  · unfold vbyte dig
    rw [if_pos (by omega)]; simp
  · refine List.map_congr_left fun j _ => ?_
    have hd : dig n (j + 1) = dig (n / 128) j := by unfold dig; rw [Nat.pow_succ, Nat.mul_comm, ← Nat.div_div_eq_div_mul]
    show vbyte n (vsize (n / 128) + 1) (j + 1) = vbyte (n / 128) (vsize (n / 128)) j
    unfold vbyte
    rw [hd]
    by_cases hj : j + 1 < vsize (n / 128)
    · rw [if_pos hj, if_pos (by omega)]
    · rw [if_neg hj, if_neg (by omega)]
/-- what is read, of any front -/
def Cut {α : Type} (R : List UInt8 → Rd α) (xs : List UInt8) (a0 : Nat) (x : α) (a1 : Nat) : Prop := a0 ≤ a1 ∧ ∀ k, a0 ≤ k → R (xs.take k) = if k < a1 then .bad 20 k else .ok x a1
theorem Cut.bind {α β : Type} {R1 : List UInt8 → Rd α} {R2 : List UInt8 → α → Nat → Rd β} {xs : List UInt8} {a0 a1 a2 : Nat} {x : α} {y : β} (h1 : Cut R1 xs a0 x a1) (h2 : Cut (fun ys => R2 ys x a1) xs a1 y a2) : Cut (fun ys => (R1 ys).bind (R2 ys)) xs a0 y a2 := by
  refine ⟨Nat.le_trans h1.1 h2.1, fun k hk => ?_⟩
  show (R1 (xs.take k)).bind (R2 (xs.take k)) = _
  rw [h1.2 k hk]
  by_cases e : k < a1
  · have := h2.1
    rw [if_pos e, if_pos (by omega)]; rfl
  · rw [if_neg e]
    exact h2.2 k (by omega)
theorem Cut.num {xs ys : List UInt8} {a0 : Nat} {n lo hi : Int} (hd : xs.drop a0 = vI n ++ ys) (hok : numOk n) (hlo : lo ≤ n) (hhi : n ≤ hi) : Cut (fun ys => rdN ys a0 lo hi) xs a0 n.toNat (a0 + (vI n).length) := by
  refine ⟨Nat.le_add_right _ _, fun k hk => ?_⟩
  have e : (xs.take k).drop a0 = (vI n ++ ys).take (k - a0) := by rw [List.drop_take, hd]
  have hlen : (vI n).length = vsize n.toNat := vput_len _
  by_cases h : k < a0 + (vI n).length
  · rw [if_pos h]
    have e2 : (xs.take k).drop a0 = (vput n.toNat).take (k - a0) := by rw [e, List.take_append_of_le_length (by omega)]; rfl
    show rdN (xs.take k) a0 lo hi = _
    rw [rdN, e2, vget_cut (numOk_lt hok) (by omega)]
    show Rd.bad 20 (a0 + (k - a0)) = _
    rw [Nat.add_sub_cancel' hk]
  · rw [if_neg h]
    have e2 : (xs.take k).drop a0 = vput n.toNat ++ ys.take (k - a0 - (vI n).length) := by rw [e, List.take_append, List.take_of_length_le (by omega)]; rfl
    show rdN (xs.take k) a0 lo hi = _
    have h0 := hok.1
    rw [rdN, e2, vget_put (numOk_lt hok)]
    simp only [if_true]
    rw [if_neg (by omega), hlen]
theorem Cut.pure {α : Type} {xs : List UInt8} {a : Nat} {x : α} : Cut (fun _ => Rd.ok x a) xs a x a := ⟨Nat.le_refl _, fun k hk => by rw [if_neg (by omega)]⟩
theorem drop_more {xs ys zs : List UInt8} {a : Nat} (h : xs.drop a = ys ++ zs) : xs.drop (a + ys.length) = zs := by rw [← List.drop_drop, h, List.drop_left]
theorem Cut.many {xs : List UInt8} : ∀ (t acc : List Int) (a0 : Nat) (ys : List UInt8), xs.drop a0 = t.flatMap vI ++ ys → (∀ n ∈ t, 0 ≤ n ∧ n ≤ Huge) → Cut (fun zs => rdMany zs t.length a0 acc) xs a0 (acc ++ t) (a0 + (t.flatMap vI).length)
  | [], acc, a0, ys, h, _ => by simpa [rdMany] using Cut.pure
  | n :: t, acc, a0, ys, h, ho => by
    have hn := ho n (List.mem_cons_self ..)
    rw [List.flatMap_cons, List.append_assoc] at h
    have h1 := Cut.num (lo := 0) (hi := Huge) h ⟨hn.1, by have := hn.2; simp only [Huge] at this; omega⟩ hn.1 hn.2
    have h2 := Cut.many t (acc ++ [n]) _ ys (drop_more h) (fun m hm => ho m (List.mem_cons_of_mem _ hm))
    have e : ((n.toNat : Nat) : Int) = n := by omega
    rw [List.flatMap_cons, List.length_append, ← Nat.add_assoc, show acc ++ n :: t = acc ++ [n] ++ t by simp]
    refine Cut.bind (R1 := fun zs => rdN zs a0 0 Huge) (R2 := fun zs n a => rdMany zs t.length a (acc ++ [(n : Int)])) h1 ?_
    rw [e]
    exact h2
theorem Cut.frame {xs : List UInt8} {f : Fr} {a0 : Nat} {ys : List UInt8} (h : xs.drop a0 = fbytes f ++ ys) (hf : fwhole f = true) : Cut (fun zs => rdF zs a0) xs a0 f (a0 + (fbytes f).length) := by
  have ht := fwhole_tab hf
  have hto : ∀ n ∈ f.tab, 0 ≤ n ∧ n ≤ Huge := fun n hn => by
    simp only [fwhole, tright, Bool.and_eq_true, List.all_eq_true] at hf
    exact inb_iff.1 (hf.2.2 n hn)
  simp only [fwhole, fright, Bool.and_eq_true, inb_iff, Huge] at hf
  obtain ⟨⟨⟨⟨⟨⟨g1, g2⟩, g3⟩, g6⟩, g4⟩, g5⟩, -⟩ := hf
  simp only [fbytes, fnums, List.flatMap_cons, List.flatMap_nil, List.append_nil, List.append_assoc] at h
  have c1 := Cut.num (lo := 0) (hi := Huge) h ⟨g1.1, by omega⟩ g1.1 g1.2
  replace h := drop_more h
  have c2 := Cut.num (lo := 0) (hi := Huge) h ⟨g2.1, by omega⟩ g2.1 g2.2
  replace h := drop_more h
  have c3 := Cut.num (lo := 0) (hi := Huge) h ⟨g3.1, by omega⟩ g3.1 g3.2
  replace h := drop_more h
  have c4 := Cut.num (lo := 0) (hi := 4611686018427387905) h ⟨by omega, by omega⟩ (by omega) (by omega)
  replace h := drop_more h
  have c5 := Cut.num (lo := 0) (hi := 4611686018427387905) h ⟨by omega, by omega⟩ (by omega) (by omega)
  replace h := drop_more h
  have c6 := Cut.num (lo := 0) (hi := Huge) h ⟨g6.1, by omega⟩ g6.1 g6.2
  replace h := drop_more h
  have c7 := Cut.num (lo := 0) (hi := 1048576) h ⟨by omega, by omega⟩ (by omega) (by omega)
  replace h := drop_more h
  have c8 := Cut.many f.tab [] _ _ h hto
  have ef : (⟨(f.rt.toNat : Int), f.pl.toNat, f.bs.toNat, ((f.en + 1).toNat : Int) - 1, ((f.nd + 1).toNat : Int) - 1, f.nx.toNat, f.tab⟩ : Fr) = f := by
    cases f
    simp only [Fr.mk.injEq]
    refine ⟨?_, ?_, ?_, ?_, ?_, ?_, trivial⟩ <;> simp only at * <;> omega
  have el : (fbytes f).length = (vI f.rt).length + ((vI f.pl).length + ((vI f.bs).length + ((vI (f.en + 1)).length + ((vI (f.nd + 1)).length + ((vI f.nx).length + ((vI f.tab.length).length + (f.tab.flatMap vI).length)))))) := by
    simp only [fbytes, fnums, List.flatMap_cons, List.flatMap_nil, List.append_nil, List.length_append]
    omega
  rw [el, ← Nat.add_assoc, ← Nat.add_assoc, ← Nat.add_assoc, ← Nat.add_assoc, ← Nat.add_assoc, ← Nat.add_assoc, ← Nat.add_assoc]
  unfold rdF
  refine Cut.bind c1 (Cut.bind c2 (Cut.bind c3 (Cut.bind c4 (Cut.bind c5 (Cut.bind c6 (Cut.bind c7 (Cut.bind (x := f.tab) (by rw [List.nil_append] at c8; exact c8) ?_)))))))
  rw [ef]
  exact Cut.pure
theorem Cut.list {xs : List UInt8} : ∀ (L acc : List Fr) (a0 : Nat) (ys : List UInt8), xs.drop a0 = L.flatMap fbytes ++ ys → (∀ f ∈ L, fwhole f = true) → Cut (fun zs => rdL zs L.length a0 acc) xs a0 (acc ++ L) (a0 + (L.flatMap fbytes).length)
  | [], acc, a0, ys, h, _ => by simpa [rdL] using Cut.pure
  | f :: L, acc, a0, ys, h, ho => by
    rw [List.flatMap_cons, List.append_assoc] at h
    have h1 := Cut.frame h (ho f (List.mem_cons_self ..))
    have h2 := Cut.list L (acc ++ [f]) _ ys (drop_more h) (fun m hm => ho m (List.mem_cons_of_mem _ hm))
    rw [List.flatMap_cons, List.length_append, ← Nat.add_assoc, show acc ++ f :: L = acc ++ [f] ++ L by simp]
    exact Cut.bind (R1 := fun zs => rdF zs a0) (R2 := fun zs f a => rdL zs L.length a (acc ++ [f])) h1 h2
/-- all but the last question -/
def rdS2 (xs : List UInt8) : Rd SSt := (rdN xs 1 1 1048576).bind fun most a => (rdN xs a 0 most).bind fun n a => (rdN xs a n most).bind fun high a => (rdL xs n a []).bind fun L a => .ok ⟨most, high, L⟩ a
theorem Rd.bind_assoc {α β γ : Type} (r : Rd α) (f : α → Nat → Rd β) (g : β → Nat → Rd γ) : (r.bind f).bind g = r.bind fun x a => (f x a).bind g := by cases r <;> rfl
theorem rdS1_eq (xs : List UInt8) : rdS1 xs = (rdS2 xs).bind fun s a => if a < xs.length then .bad 124 a else .ok s a := by
  unfold rdS1 rdS2
  simp only [Rd.bind_assoc]
  rfl
theorem Cut.stack {most high : Nat} {L : List Fr} {xs ys : List UInt8} (hx : xs = saved most high L ++ ys) (hm : 1 ≤ most) (hm2 : most ≤ 1048576) (hl : L.length ≤ high) (hh : high ≤ most) (hw : ∀ f ∈ L, fwhole f = true) : Cut rdS2 xs 1 ⟨most, high, L⟩ (saved most high L).length := by
  have h : xs.drop 1 = vI most ++ (vI L.length ++ (vI high ++ (L.flatMap fbytes ++ ys))) := by
    rw [hx, saved]
    simp [List.flatMap_cons]
  have c1 := Cut.num (lo := 1) (hi := 1048576) h ⟨by omega, by omega⟩ (by omega) (by omega)
  replace h := drop_more h
  have c2 := Cut.num (lo := 0) (hi := most) h ⟨by omega, by omega⟩ (by omega) (by omega)
  replace h := drop_more h
  have c3 := Cut.num (lo := L.length) (hi := most) h ⟨by omega, by omega⟩ (by omega) (by omega)
  replace h := drop_more h
  have c4 := Cut.list L [] _ _ h hw
  have el : (saved most high L).length = 1 + (vI most).length + (vI L.length).length + (vI high).length + (L.flatMap fbytes).length := by
    rw [saved]
    simp only [List.flatMap_cons, List.flatMap_nil, List.length_cons, List.length_append, List.length_nil]
    omega
  rw [el]
  unfold rdS2
  refine Cut.bind c1 (Cut.bind (x := L.length) (by simpa using c2) (Cut.bind (x := high) (by simpa using c3) (Cut.bind (x := L) (by rw [List.nil_append] at c4; exact c4) Cut.pure)))
theorem saved_head (most high : Nat) (L : List Fr) : (saved most high L).head? = some 102 := rfl
theorem saved_pos (most high : Nat) (L : List Fr) : 0 < (saved most high L).length := by simp [saved]
theorem rdS_saved {most high : Nat} {L : List Fr} (hm : 1 ≤ most) (hm2 : most ≤ 1048576) (hl : L.length ≤ high) (hh : high ≤ most) (hw : ∀ f ∈ L, fwhole f = true) : rdS (saved most high L) = .ok ⟨most, high, L⟩ (saved most high L).length := by
  have h := (Cut.stack (xs := saved most high L) (ys := []) (by simp) hm hm2 hl hh hw).2 (saved most high L).length (saved_pos _ _ _)
  rw [List.take_length, if_neg (Nat.lt_irrefl _)] at h
  have := saved_pos most high L
  rw [rdS, if_neg (by omega), if_pos (saved_head _ _ _), rdS1_eq, h]
  show (if _ then _ else _) = _
  rw [if_neg (Nat.lt_irrefl _)]
theorem rdS_more {most high : Nat} {L : List Fr} {ys : List UInt8} (hy : ys ≠ []) (hm : 1 ≤ most) (hm2 : most ≤ 1048576) (hl : L.length ≤ high) (hh : high ≤ most) (hw : ∀ f ∈ L, fwhole f = true) : rdS (saved most high L ++ ys) = .bad 124 (saved most high L).length := by
  have h := (Cut.stack (xs := saved most high L ++ ys) (ys := ys) rfl hm hm2 hl hh hw).2 (saved most high L ++ ys).length (by have := saved_pos most high L; rw [List.length_append]; omega)
  have hyl := List.length_pos_iff.2 hy
  have hp := saved_pos most high L
  rw [List.take_length, if_neg (by rw [List.length_append]; omega)] at h
  rw [rdS, if_neg (by rw [List.length_append]; omega), if_pos (by simp [saved]), rdS1_eq, h]
  show (if _ then _ else _) = _
  rw [if_pos (by rw [List.length_append]; omega)]
theorem rdS_cut {most high : Nat} {L : List Fr} {k : Nat} (hk : k < (saved most high L).length) (hm : 1 ≤ most) (hm2 : most ≤ 1048576) (hl : L.length ≤ high) (hh : high ≤ most) (hw : ∀ f ∈ L, fwhole f = true) : rdS ((saved most high L).take k) = .bad 20 k := by
  by_cases h0 : k = 0
  · subst h0; rfl
  · have h := (Cut.stack (xs := saved most high L) (ys := []) (by simp) hm hm2 hl hh hw).2 k (by omega)
    rw [if_pos hk] at h
    obtain ⟨k', rfl⟩ : ∃ k', k = k' + 1 := ⟨k - 1, by omega⟩
    rw [rdS, if_neg (by rw [List.length_take]; omega), if_pos (by simp [saved]), rdS1_eq, h]
    rfl
theorem rdN_back {xs : List UInt8} {a0 n a : Nat} {lo hi : Int} (h : rdN xs a0 lo hi = .ok n a) : a0 ≤ a ∧ xs.drop a0 = vI (n : Int) ++ xs.drop a := by
  unfold rdN at h
  split at h
  · rename_i h0
    split at h
    · cases h
    · simp only [Rd.ok.injEq] at h
      obtain ⟨rfl, rfl⟩ := h
      have hb := vget_back (xs.drop a0) h0
      refine ⟨Nat.le_add_right _ _, ?_⟩
      show _ = vput (Int.toNat _) ++ _
      rw [Int.toNat_natCast, hb.2.1, ← List.drop_drop, List.take_append_drop]
  · cases h
theorem rdMany_back {xs : List UInt8} : ∀ {m a0 : Nat} {acc t : List Int} {a : Nat}, rdMany xs m a0 acc = .ok t a → a0 ≤ a ∧ ∃ t', t = acc ++ t' ∧ t'.length = m ∧ xs.drop a0 = t'.flatMap vI ++ xs.drop a
  | 0, a0, acc, t, a, h => by simp only [rdMany, Rd.ok.injEq] at h; obtain ⟨rfl, rfl⟩ := h; exact ⟨Nat.le_refl _, [], by simp, rfl, by simp⟩
  | m + 1, a0, acc, t, a, h => by
    rw [rdMany] at h
    obtain ⟨n, a2, h1, h2⟩ := Rd.bind_ok h
    obtain ⟨g1, g2⟩ := rdN_back h1
    obtain ⟨g3, t', rfl, g4, g5⟩ := rdMany_back h2
    exact ⟨by omega, (n : Int) :: t', by simp, by simp [g4], by rw [g2, g5, List.flatMap_cons, List.append_assoc]⟩
theorem rdF_back {xs : List UInt8} {a0 a : Nat} {f : Fr} (h : rdF xs a0 = .ok f a) : a0 ≤ a ∧ xs.drop a0 = fbytes f ++ xs.drop a := by
  rw [rdF] at h
  obtain ⟨n1, a1, h1, h⟩ := Rd.bind_ok h
  obtain ⟨n2, a2, h2, h⟩ := Rd.bind_ok h
  obtain ⟨n3, a3, h3, h⟩ := Rd.bind_ok h
  obtain ⟨n4, a4, h4, h⟩ := Rd.bind_ok h
  obtain ⟨n5, a5, h5, h⟩ := Rd.bind_ok h
  obtain ⟨n6, a6, h6, h⟩ := Rd.bind_ok h
  obtain ⟨m, a7, h7, h⟩ := Rd.bind_ok h
  obtain ⟨t, a8, h8, h⟩ := Rd.bind_ok h
  simp only [Rd.ok.injEq] at h
  obtain ⟨rfl, rfl⟩ := h
  obtain ⟨b1, g1⟩ := rdN_back h1
  obtain ⟨b2, g2⟩ := rdN_back h2
  obtain ⟨b3, g3⟩ := rdN_back h3
  obtain ⟨b4, g4⟩ := rdN_back h4
  obtain ⟨b5, g5⟩ := rdN_back h5
  obtain ⟨b6, g6⟩ := rdN_back h6
  obtain ⟨b7, g7⟩ := rdN_back h7
  obtain ⟨b8, t', ht, hl, g8⟩ := rdMany_back h8
  simp only [List.nil_append] at ht
  subst ht
  refine ⟨by omega, ?_⟩
  simp only [fbytes, fnums, List.flatMap_cons, List.flatMap_nil, List.append_nil, List.append_assoc, Int.sub_add_cancel, hl]
  rw [g1, g2, g3, g4, g5, g6, g7, g8]
theorem rdL_back {xs : List UInt8} : ∀ {m a0 : Nat} {acc L : List Fr} {a : Nat}, rdL xs m a0 acc = .ok L a → a0 ≤ a ∧ ∃ L', L = acc ++ L' ∧ L'.length = m ∧ xs.drop a0 = L'.flatMap fbytes ++ xs.drop a ∧ ∀ f ∈ L', fwhole f = true
  | 0, a0, acc, t, a, h => by simp only [rdL, Rd.ok.injEq] at h; obtain ⟨rfl, rfl⟩ := h; exact ⟨Nat.le_refl _, [], by simp, rfl, by simp, by simp⟩
  | m + 1, a0, acc, t, a, h => by
    rw [rdL] at h
    obtain ⟨f, a2, h1, h2⟩ := Rd.bind_ok h
    obtain ⟨g1, g2⟩ := rdF_back h1
    obtain ⟨g3, L', rfl, g4, g5, g6⟩ := rdL_back h2
    exact ⟨by omega, f :: L', by simp, by simp [g4], by rw [g2, g5, List.flatMap_cons, List.append_assoc], fun x hx => by rcases List.mem_cons.1 hx with rfl | hx; exact rdF_whole h1; exact g6 x hx⟩
theorem rdS_back {xs : List UInt8} {s : SSt} {a : Nat} (h : rdS xs = .ok s a) : saved s.most s.high s.L = xs ∧ 1 ≤ s.most ∧ s.most ≤ 1048576 ∧ s.L.length ≤ s.high ∧ s.high ≤ s.most ∧ ∀ f ∈ s.L, fwhole f = true := by
  unfold rdS at h
  split at h
  · cases h
  · split at h
    · rename_i h0 hh
      rw [rdS1] at h
      obtain ⟨most, a1, h1, h⟩ := Rd.bind_ok h
      obtain ⟨n, a2, h2, h⟩ := Rd.bind_ok h
      obtain ⟨high, a3, h3, h⟩ := Rd.bind_ok h
      obtain ⟨L, a4, h4, h⟩ := Rd.bind_ok h
      split at h
      · cases h
      · rename_i hlt
        simp only [Rd.ok.injEq] at h
        obtain ⟨rfl, rfl⟩ := h
        obtain ⟨b1, g1⟩ := rdN_back h1
        obtain ⟨b2, g2⟩ := rdN_back h2
        obtain ⟨b3, g3⟩ := rdN_back h3
        obtain ⟨b4, L', hL, hl, g4, g5⟩ := rdL_back h4
        simp only [List.nil_append] at hL
        subst hL
        have r1 := rdN_ok h1
        have r2 := rdN_ok h2
        have r3 := rdN_ok h3
        refine ⟨?_, by show 1 ≤ most; omega, by show most ≤ _; omega, by show L.length ≤ high; omega, by show high ≤ most; omega, g5⟩
        have hx : xs = 102 :: xs.drop 1 := by
          cases xs with
          | nil => cases hh
          | cons c cs => simp only [List.head?_cons, Option.some.injEq] at hh; subst hh; rfl
        rw [hx, g1, g2, g3, g4, List.drop_eq_nil_of_le (by omega)]
        simp [saved, hl]
    · cases h

end Go.Proofs.Ytdiaeafjjffjmaa
