/-
  Walks. Written by program out of specs of mine.
-/
import Derived.Test.YtieldjpbempkcaaO
set_option linter.unusedSimpArgs false
set_option linter.unusedVariables false
namespace Go.Proofs.Ytieldjpbempkcaa
open Go Go.Vc Go.RowKit Go.Proofs

theorem mod_succ (n j : Nat) : n % 128 ^ (j + 1) = n % 128 ^ j + dig n j * 128 ^ j := by
  rw [Nat.pow_succ, Nat.mod_mul]; unfold dig; rw [Nat.mul_comm (128 ^ j)]
theorem vput_get {n j : Nat} (h : j < vsize n) : (vput n)[j]? = some (vbyte n (vsize n) j) := by simp [vput, h]
theorem dig_lt (n j : Nat) : dig n j < 128 := Nat.mod_lt _ (by decide)
theorem vbyte_nat (n s j : Nat) : (vbyte n s j).toNat = if j + 1 < s then dig n j + 128 else dig n j := by
  have := vbyte_lt n s j
  unfold vbyte
  rw [UInt8.toNat_ofNat']
  exact Nat.mod_eq_of_lt this
theorem vbyte_fine {n j : Nat} (hn : n < 2 ^ 64) (h : j < vsize n) : vfault (vbyte n (vsize n) j) j = false := by
  have h10 := vsize_10 hn
  have hd := dig_lt n j
  simp only [vfault, Bool.or_eq_false_iff, Bool.and_eq_false_iff, decide_eq_false_iff_not, vbyte_nat]
  refine ⟨?_, ?_⟩
  · by_cases hj : 0 < j
    · right
      split
      · omega
      · have hl : j = vsize n - 1 := by omega
        have h1 := (vsize_dn n).resolve_left (by omega)
        rw [← hl] at h1
        have h2 := vsize_up n
        rw [show vsize n = j + 1 by omega, Nat.pow_succ] at h2
        have h3 : n / 128 ^ j < 128 := Nat.div_lt_of_lt_mul (by rw [Nat.mul_comm]; rw [Nat.mul_comm] at h2; exact h2)
        have h4 : 0 < n / 128 ^ j := Nat.div_pos h1 (Nat.pow_pos (by decide))
        unfold dig
        rw [Nat.mod_eq_of_lt h3]; omega
    · left; omega
  · by_cases hj : j = 9
    · right
      subst hj
      rw [if_neg (by omega)]
      have : n / 128 ^ 9 < 2 := Nat.div_lt_of_lt_mul (Nat.lt_of_lt_of_le hn (by decide))
      unfold dig
      omega
    · left; exact hj
theorem drop_cons {α : Type} {l : List α} {j : Nat} {x : α} (h : l[j]? = some x) : l.drop j = x :: l.drop (j + 1) := by
  obtain ⟨hj, rfl⟩ := List.getElem?_eq_some_iff.1 h
  rw [List.getElem_cons_drop]
theorem vget_run {n : Nat} (hn : n < 2 ^ 64) (ys : List UInt8) : ∀ j, j < vsize n → vget 0 0 (vput n ++ ys) = vget j (n % 128 ^ j) ((vput n).drop j ++ ys) := by
  intro j
  induction j with
  | zero => intro _; simp [Nat.mod_one]
  | succ j ih =>
    intro h
    rw [ih (by omega), drop_cons (vput_get (show j < vsize n by omega)), List.cons_append, vget, vbyte_fine hn (by omega)]
    have hd := dig_lt n j
    simp only [Bool.false_eq_true, if_false, vbyte_nat, if_pos h]
    rw [if_neg (by omega), mod_succ, show (dig n j + 128) % 128 = dig n j by omega]
theorem vget_put {n : Nat} (hn : n < 2 ^ 64) (ys : List UInt8) : vget 0 0 (vput n ++ ys) = (n, vsize n, 0) := by
  have hp := vsize_pos n
  have hd := dig_lt n (vsize n - 1)
  rw [vget_run hn ys (vsize n - 1) (by omega), drop_cons (vput_get (show vsize n - 1 < vsize n by omega)), List.cons_append, vget, vbyte_fine hn (by omega)]
  simp only [Bool.false_eq_true, if_false, vbyte_nat, if_neg (show ¬ vsize n - 1 + 1 < vsize n by omega)]
  rw [if_pos (by omega), Nat.mod_eq_of_lt hd, ← mod_succ, show vsize n - 1 + 1 = vsize n by omega, Nat.mod_eq_of_lt (vsize_up n)]
theorem vget_cut {n : Nat} (hn : n < 2 ^ 64) {i : Nat} (hi : i < vsize n) : vget 0 0 ((vput n).take i) = (0, i, 20) := by
  have key : ∀ j, j ≤ i → vget 0 0 ((vput n).take i) = vget j (n % 128 ^ j) (((vput n).take i).drop j) := by
    intro j
    induction j with
    | zero => intro _; simp [Nat.mod_one]
    | succ j ih =>
      intro h
      have hg : ((vput n).take i)[j]? = some (vbyte n (vsize n) j) := by rw [List.getElem?_take, if_pos (by omega)]; exact vput_get (by omega)
      have hd := dig_lt n j
      rw [ih (by omega), drop_cons hg, vget, vbyte_fine hn (by omega)]
      simp only [Bool.false_eq_true, if_false, vbyte_nat, if_pos (show j + 1 < vsize n by omega)]
      rw [if_neg (by omega), mod_succ, show (dig n j + 128) % 128 = dig n j by omega]
  rw [key i (Nat.le_refl _), List.drop_eq_nil_of_le (by simp; omega)]
  rfl
theorem vget_far : ∀ (xs : List UInt8) (k m : Nat), k ≤ (vget k m xs).2.1 ∧ (vget k m xs).2.1 ≤ k + xs.length ∧ ((vget k m xs).2.2 ≠ 0 → (vget k m xs).1 = 0) ∧ ((vget k m xs).2.2 = 0 → k < (vget k m xs).2.1)
  | [], k, m => by simp [vget]
  | c :: cs, k, m => by
    unfold vget
    split
    · simp
    · split
      · simp
      · have := vget_far cs (k + 1) (m + c.toNat % 128 * 128 ^ k)
        simp only [List.length_cons]
        refine ⟨by omega, by omega, this.2.2.1, fun h => by have := this.2.2.2 h; omega⟩
/-- what a number's bytes are, when they are got -/
theorem vget_inv : ∀ (xs : List UInt8) (k m : Nat), m < 128 ^ k → k ≤ 9 → (vget k m xs).2.2 = 0 → ∃ f, f < xs.length ∧ (vget k m xs).2.1 = k + f + 1 ∧ (vget k m xs).1 % 128 ^ k = m ∧ (vget k m xs).1 < 2 ^ 64 ∧
    (vget k m xs).1 < 128 ^ (k + f + 1) ∧ (∀ j (h : j < xs.length), j ≤ f → dig (vget k m xs).1 (k + j) = (xs[j]).toNat % 128) ∧ (∀ j (h : j < xs.length), j < f → 128 ≤ (xs[j]).toNat) ∧ (∀ h : f < xs.length, (xs[f]).toNat < 128 ∧ (0 < k + f → (xs[f]).toNat ≠ 0))
  | [], k, m, _, _, h => by simp [vget] at h
  | c :: cs, k, m, hm, hk, h => by
    have hc8 : c.toNat < 256 := UInt8.toNat_lt _
    have hdig : ∀ a, a % 128 ^ (k + 1) = m + c.toNat % 128 * 128 ^ k → dig a k = c.toNat % 128 ∧ a % 128 ^ k = m := by
      intro a ha
      rw [mod_succ] at ha
      have h1 : a % 128 ^ k < 128 ^ k := Nat.mod_lt _ (Nat.pow_pos (by decide))
      have h2 : (a % 128 ^ k + dig a k * 128 ^ k) / 128 ^ k = dig a k := by rw [Nat.add_mul_div_right _ _ (Nat.pow_pos (by decide)), Nat.div_eq_of_lt h1]; omega
      have h3 : (m + c.toNat % 128 * 128 ^ k) / 128 ^ k = c.toNat % 128 := by rw [Nat.add_mul_div_right _ _ (Nat.pow_pos (by decide)), Nat.div_eq_of_lt hm]; omega
      rw [ha, h3] at h2
      refine ⟨h2.symm, ?_⟩
      rw [← h2] at ha; omega
    unfold vget at h ⊢
    cases hf : vfault c k with
    | true => rw [hf] at h; simp at h
    | false =>
      rw [hf] at h
      simp only [Bool.false_eq_true, if_false] at h ⊢
      have hv := vfault9 hf
      have hgr := grp hk hm hc8 hv.1
      by_cases hlt : c.toNat < 128
      · rw [if_pos hlt] at h ⊢
        have hb : m + c.toNat % 128 * 128 ^ k < 128 ^ (k + 0 + 1) := by
          have : c.toNat % 128 * 128 ^ k ≤ 127 * 128 ^ k := Nat.mul_le_mul_right _ (by omega)
          rw [Nat.add_zero, Nat.pow_succ]; omega
        have hd := hdig (m + c.toNat % 128 * 128 ^ k) (Nat.mod_eq_of_lt hb)
        refine ⟨0, by simp, rfl, hd.2, hgr.2.1, hb, ?_, fun j _ hj => absurd hj (Nat.not_lt_zero _), fun _ => ⟨hlt, fun h => hv.2 (by omega)⟩⟩
        intro j hj hj0
        obtain rfl : j = 0 := by omega
        exact hd.1
      · rw [if_neg hlt] at h ⊢
        have hk9 : k < 9 := by have := hv.1; omega
        obtain ⟨f, h1, h2, h3, h4, h5, h6, h7, h8⟩ := vget_inv cs (k + 1) _ (hgr.2.2 hk9) (by omega) h
        have hd := hdig _ h3
        refine ⟨f + 1, by simp; omega, by omega, hd.2, h4, by rw [show k + (f + 1) + 1 = k + 1 + f + 1 by omega]; exact h5, ?_, ?_, ?_⟩
        · intro j hj hjf
          cases j with
          | zero => exact hd.1
          | succ j => have := h6 j (by simp at hj; omega) (by omega); rw [show k + (j + 1) = k + 1 + j by omega]; simpa using this
        · intro j hj hjf
          cases j with
          | zero => simp; omega
          | succ j => have := h7 j (by simp at hj; omega) (by omega); simpa using this
        · intro hff
          have := h8 (by simp at hff; omega)
          simp only [List.getElem_cons_succ]
          exact ⟨this.1, fun _ => this.2 (by omega)⟩
theorem vget_back (xs : List UInt8) (h : (vget 0 0 xs).2.2 = 0) : (vget 0 0 xs).1 < 2 ^ 64 ∧ vput (vget 0 0 xs).1 = xs.take (vget 0 0 xs).2.1 ∧ vsize (vget 0 0 xs).1 = (vget 0 0 xs).2.1 := by
  obtain ⟨f, h1, h2, h3, h4, h5, h6, h7, h8⟩ := vget_inv xs 0 0 (by decide) (by decide) h
  simp only [Nat.zero_add] at h2 h5 h6
  have h8 := h8 h1
  have hs : vsize (vget 0 0 xs).1 = f + 1 := by
    have a1 := vsize_pow f _ h5
    by_cases hf : f = 0
    · have := vsize_pos (vget 0 0 xs).1; omega
    · have hd := h6 f h1 (Nat.le_refl _)
      have hne := h8.2 (by omega)
      rcases Nat.lt_or_ge (vsize (vget 0 0 xs).1) (f + 1) with hlt | hge
      · exfalso
        have : (vget 0 0 xs).1 < 128 ^ f := Nat.lt_of_lt_of_le (vsize_up _) (Nat.pow_le_pow_right (by decide) (by omega))
        unfold dig at hd
        rw [Nat.div_eq_of_lt this] at hd
        omega
      · omega
  refine ⟨h4, ?_, by rw [hs, h2]⟩
  rw [h2]
  apply List.ext_getElem?
  intro j
  by_cases hj : j < f + 1
  · rw [vput_get (by omega), List.getElem?_take, if_pos hj, List.getElem?_eq_getElem (by omega)]
    congr 1
    apply UInt8.toNat_inj.1
    rw [vbyte_nat, hs, h6 j (by omega) (by omega)]
    split
    · have := h7 j (by omega) (by omega)
      have := UInt8.toNat_lt (xs[j])
      omega
    · have : j = f := by omega
      subst this
      omega
  · rw [List.getElem?_eq_none (by rw [vput_len]; omega), List.getElem?_take, if_neg hj]


theorem vput_getbv {n k : Nat} (h : k < vsize n) : ((vput n).map bv)[k]? = some (bv (vbyte n (vsize n) k)) := by simp [List.getElem?_map, vput_get h]
theorem by_take {w : World} {v : Value} {k : Nat} {xs : List UInt8} (hk : k ≤ xs.length) (h : Sl w 1 v k (List.take k (xs.map bv))) : By w v (xs.take k) := by
  have e : (xs.take k).length = k := by simp; omega
  show Sl w 1 v (xs.take k).length _
  rw [e, List.map_take]; exact h
theorem by_own {w : World} {base m : Nat} {v : Value} {ys : List Value} (xs : List UInt8) (h : w.ownsRow base 5 1 v m ys) (hy : ys = xs.map bv) : By w v xs := by
  have hm : m = xs.length := by have := h.1; rw [hy] at this; simpa using this.symm
  subst hm; rw [hy] at h
  exact Sl.own h
theorem Only.new {w0 w w' : World} {v : Value} (hx : Ext w0 w) (hv : ∀ k, v.ownBlock = some k → w0.heap.size ≤ k) (hg : w.grownBy w' v.ownBlock) : Ext w0 w' :=
  hx.trans' (Only.grown hg) (fun _ h => h) (fun k hk he => by have := hv k he.symm; omega)
theorem own_lo {w : World} {base m : Nat} {v : Value} {ys : List Value} {T s : Nat} (h : w.ownsRow base T s v m ys) : ∀ k, v.ownBlock = some k → base ≤ k := fun k hk => (h.lt k hk).1

theorem back_walk (w0 : World) (n : Nat) (hn : n < 18446744073709551616) (v : Value) (xs : List UInt8) (hlen : xs.length ≤ 140737488351232) (hB : By w0 v xs) : Ca Try.prog 4 #[.int .u64 (n : Int), v] w0 (fun v w' => v = .bool true ∧ Ext w0 w') := by
  have hn' : n < 2 ^ 64 := hn
  have hs10 := vsize_10 hn'
  have hp1 := vsize_pos n
  have hl := vput_len n
  have hfar := vget_far xs 0 0
  refine Ca.of Try.func4 Try.ntmps4 rfl rfl ?_
  refine W.seq ?_
  refine W.region ?_
  refine WL.c rfl (o_as ?_)
  refine WL.nil ?_
  refine W.seq ?_
  refine W.seq ?_
  refine W.region ?_
  refine WL.c rfl (o_call Try.call8 ln ((awake_spec _).mono ?_))
  rintro v16 w16 ⟨rfl, hx16⟩
  refine WL.c rfl (o_not' rfl ?_)
  refine WL.nil ?_
  refine W.condF' rfl (rfl) ?_
  refine W.skip ?_
  refine W.seq ?_
  refine W.region ?_
  refine WL.c rfl (o_mv ?_)
  refine WL.c rfl (o_call Try.call13 (lc rfl ln) ((put_spec n hn' _).mono ?_))
  rintro v19 w19 ⟨b19, hv19, hb19, hh19, hx19⟩
  subst hv19
  have hf19 := put_fresh hb19 hh19 hn' hx19
  have hx := hx16.tr hx19
  have hp19 : Sl w19 1 (.slice (some ⟨b19, 0, none⟩) (vsize n) (vsize n)) (vsize n) ((vput n).map bv) := by
    have h : Sl _ 1 _ (vput n).length _ := hf19.by
    rw [hl] at h
    exact h
  refine WL.c rfl (o_as ?_)
  refine WL.nil ?_
  refine W.seq ?_
  refine W.seq ?_
  refine W.region ?_
  refine WL.c rfl (o_mv ?_)
  refine WL.c rfl (o_len TI32 rfl ?_)
  refine WL.c rfl (o_mv ?_)
  refine WL.c rfl (o_call Try.call14 (lc rfl ln) ((size_spec n hn' _).mono ?_))
  rintro v23 w23 ⟨rfl, rfl⟩
  refine WL.c rfl (o_ne rfl rfl ?_)
  refine WL.c rfl (o_mv ?_)
  refine WL.g rfl (by simp) rfl (o_mv ?_)
  refine WL.g rfl (by simp) rfl (o_len TI32 rfl ?_)
  refine WL.g rfl (by simp) rfl (o_lt rfl rfl ?_)
  refine WL.c rfl (o_pickO rfl rfl ?_)
  refine WL.c rfl (o_mv ?_)
  refine WL.g rfl (by simp; omega) rfl (o_mv ?_)
  refine WL.g rfl (by simp; omega) rfl (o_len TI32 rfl ?_)
  refine WL.g rfl (by simp; omega) rfl (o_gt rfl rfl ?_)
  refine WL.c rfl (o_pickO rfl rfl ?_)
  refine WL.nil ?_
  refine W.condF' rfl (by simp; omega) ?_
  refine W.skip ?_
  refine W.seq ?_
  refine W.region ?_
  refine WL.c rfl (o_mv ?_)
  refine WL.c rfl (o_ap (base := w23.heap.size) TI32 TI5 (show _ = Value.slice _ _ _ from rfl) rfl (World.ownsRow_nil w23 w23.heap.size 5 1) hp19 rfl (by decide) one_bv (by rw [maxLen_eq]; omega) (by omega) (Nat.le_refl _) ?_)
  intro v37 w37 hown37 hg37
  have hy37 := Only.new (Only.refl No w23) (v := .slice none 0 0) (fun k hk => by cases hk) hg37
  have hx37 := hx.tr hy37
  refine WL.c rfl (o_mv ?_)
  refine WL.c rfl (o_ap (base := w23.heap.size) TI32 TI5 (show _ = v37 from rfl) rfl hown37 (hB.ext hx37) rfl (by decide) one_bv (by rw [maxLen_eq]; omega) (by omega) hy37.size ?_)
  intro v39 w39 hown39 hg39
  have hy39 := Only.new hy37 (own_lo hown37) hg39
  have hx39 := hx.tr hy39
  have hB39 := by_own (vput n ++ xs) hown39 (by simp)
  have hp39 : By w39 (.slice (some ⟨b19, 0, none⟩) (vsize n) (vsize n)) (vput n) := hf19.by.ext hy39
  have hp40 := hp19.ext hy39
  refine WL.c rfl (o_call Try.call15 (lc rfl ln) ((get_spec (vput n ++ xs) _ _ hB39 (by rw [maxLen_eq]; simp; omega)).mono ?_))
  rw [vget_put hn']
  rintro v40 w40 ⟨rfl, rfl⟩
  refine WL.c rfl (o_mv ?_)
  refine WL.c rfl (o_ext rfl rfl ?_)
  refine WL.c rfl (o_ext rfl rfl ?_)
  refine WL.c rfl (o_ext rfl rfl ?_)
  refine WL.c rfl (o_as ?_)
  refine WL.c rfl (o_as ?_)
  refine WL.c rfl (o_as ?_)
  refine WL.nil ?_
  refine W.seq ?_
  refine W.seq ?_
  refine W.region ?_
  refine WL.c rfl (o_mv ?_)
  refine WL.c rfl (o_mv ?_)
  refine WL.c rfl (o_ne rfl rfl ?_)
  refine WL.c rfl (o_mv ?_)
  refine WL.g rfl (by simp) rfl (o_mv ?_)
  refine WL.g rfl (by simp) rfl (o_mv ?_)
  refine WL.g rfl (by simp) rfl (o_len TI32 rfl ?_)
  refine WL.g rfl (by simp) rfl (o_ne rfl rfl ?_)
  refine WL.c rfl (o_pickO rfl rfl ?_)
  refine WL.c rfl (o_mv ?_)
  refine WL.g rfl (by simp) rfl (o_mv ?_)
  refine WL.g rfl (by simp) rfl (o_call Try.call16 (lc rfl ln) ((num_spec _ _).mono ?_))
  rintro v55 w55 ⟨rfl, rfl⟩
  refine WL.g rfl (by simp) rfl (o_ne rfl rfl ?_)
  refine WL.c rfl (o_pickO rfl rfl ?_)
  refine WL.nil ?_
  refine W.condF' rfl (by simp) ?_
  refine W.skip ?_
  refine W.seq ?_
  refine W.seq ?_
  refine W.region ?_
  refine WL.c rfl (o_as ?_)
  refine WL.nil ?_
  refine W.block ?_
  refine W.loop (fun e w => ∃ k : Nat, k ≤ vsize n ∧ e 1 = v ∧ e 5 = .slice (some ⟨b19, 0, none⟩) (vsize n) (vsize n) ∧ e 9 = .int .i64 (k : Int) ∧ w = w55) (fun e w => vsize n - (intOf (e 9)).toNat) ?_ ?_
  · exact ⟨0, Nat.zero_le _, rfl, rfl, rfl, rfl⟩
  rintro e w ⟨k, hk, h1, h5, h9, rfl⟩
  refine W.seq ?_
  refine W.seq ?_
  refine W.region ?_
  refine WL.c rfl (o_mvh h9 ?_)
  refine WL.c rfl (o_mvh h5 ?_)
  refine WL.c rfl (o_len TI32 rfl ?_)
  refine WL.c rfl (o_lt rfl rfl ?_)
  refine WL.nil ?_
  refine W.cond rfl (fun c61 => ?_) (fun c61 => ?_)
  · try simp only [decide_eq_true_eq, decide_eq_false_iff_not, Bool.not_eq_true', Bool.not_eq_false', Bool.and_eq_true, Bool.or_eq_true, Bool.and_eq_false_iff, Bool.or_eq_false_iff] at c61
    refine W.skip ?_
    refine W.seq ?_
    refine W.block ?_
    refine W.seq ?_
    have hk1 : k < vsize n := by omega
    have hS : Sl w 1 (.slice (some ⟨b19, 0, none⟩) (vsize n) (vsize n)) (vsize n) ((vput n).map bv) := hp40
    refine W.region ?_
    refine WL.c rfl (o_mvh h5 ?_)
    refine WL.c rfl (o_mvh h9 ?_)
    refine WL.c rfl (o_sl TI32 TI5 rfl hS Lo.n (Hi.s rfl) (by omega) (by omega) ?_)
    intro v67 hv67 hS67
    have hb67 : By w v67 ((vput n).take k) := by
      have := hS67
      simp at this
      exact by_take (by omega) this
    refine WL.c rfl (o_call Try.call15 (lc rfl ln) ((get_spec ((vput n).take k) v67 w hb67 (by rw [maxLen_eq]; simp; omega)).mono ?_))
    rw [vget_cut hn' hk1]
    rintro v68 w68 ⟨rfl, rfl⟩
    refine WL.c rfl (o_mv ?_)
    refine WL.c rfl (o_ext rfl rfl ?_)
    refine WL.c rfl (o_ext rfl rfl ?_)
    refine WL.c rfl (o_ext rfl rfl ?_)
    refine WL.c rfl (o_as ?_)
    refine WL.c rfl (o_as ?_)
    refine WL.c rfl (o_as ?_)
    refine WL.nil ?_
    refine W.seq ?_
    refine W.region ?_
    refine WL.c rfl (o_mv ?_)
    refine WL.c rfl (o_call Try.call16 (lc rfl ln) ((num_spec _ _).mono ?_))
    rintro v73 w73 ⟨rfl, rfl⟩
    refine WL.c rfl (o_ne rfl rfl ?_)
    refine WL.c rfl (o_mv ?_)
    refine WL.g rfl (by simp) rfl (o_mv ?_)
    refine WL.g rfl (by simp) rfl (o_mvh h9 ?_)
    refine WL.g rfl (by simp) rfl (o_ne rfl rfl ?_)
    refine WL.c rfl (o_pickO rfl rfl ?_)
    refine WL.c rfl (o_mv ?_)
    refine WL.g rfl (by simp) rfl (o_mvh h5 ?_)
    refine WL.g rfl (by simp) rfl (o_mvh h9 ?_)
    refine WL.g rfl (by simp) rfl (o_ix1 TI32 TI5 rfl rfl hS (by omega) ?_)
    intro b83 o83 hc83 hb83
    refine WL.g rfl (by simp) rfl (o_ld TI5 rfl rfl (hc83.trans (vput_getbv hk1)) ?_)
    refine WL.g rfl (by simp) rfl (o_ge rfl rfl ?_)
    refine WL.g rfl (by simp) rfl (o_mvh h9 ?_)
    refine WL.g rfl (by simp) rfl (o_addi rfl rfl (by omega) ?_)
    refine WL.g rfl (by simp) rfl (o_mvh h5 ?_)
    refine WL.g rfl (by simp) rfl (o_len TI32 rfl ?_)
    refine WL.g rfl (by simp) rfl (o_lt rfl rfl ?_)
    refine WL.g rfl (by simp) rfl (o_neB TI4 rfl rfl ?_)
    refine WL.c rfl (o_pickO rfl rfl ?_)
    refine WL.nil ?_
    refine W.condF' rfl (by
      have hd := dig_lt n k
      simp [vbyte_nat]
      split <;> omega) ?_
    refine W.skip ?_
    refine W.region ?_
    refine WL.c rfl (o_mvh h9 ?_)
    refine WL.c rfl (o_addi rfl rfl (by omega) ?_)
    refine WL.c rfl (o_as ?_)
    refine WL.nil ?_
    refine ⟨⟨k + 1, by omega, h1, h5, rfl, rfl⟩, ?_⟩
    show vsize n - ((k : Int) + 1).toNat < _
    rw [h9]; simp [intOf]; omega
  · try simp only [decide_eq_true_eq, decide_eq_false_iff_not, Bool.not_eq_true', Bool.not_eq_false', Bool.and_eq_true, Bool.or_eq_true, Bool.and_eq_false_iff, Bool.or_eq_false_iff] at c61
    refine W.exit ?_
    refine W.seq ?_
    refine W.region ?_
    refine WL.c rfl (o_mvh h1 ?_)
    refine WL.c rfl (o_call Try.call15 (lc rfl ln) ((get_spec xs _ _ (hB.ext hx39) (by rw [maxLen_eq]; omega)).mono ?_))
    rintro v95 w95 ⟨rfl, rfl⟩
    refine WL.c rfl (o_mv ?_)
    refine WL.c rfl (o_ext rfl rfl ?_)
    refine WL.c rfl (o_ext rfl rfl ?_)
    refine WL.c rfl (o_ext rfl rfl ?_)
    refine WL.c rfl (o_as ?_)
    refine WL.c rfl (o_as ?_)
    refine WL.c rfl (o_as ?_)
    refine WL.nil ?_
    refine W.seq ?_
    refine W.seq ?_
    refine W.region ?_
    refine WL.c rfl (o_mv ?_)
    refine WL.c rfl (o_call Try.call16 (lc rfl ln) ((num_spec _ _).mono ?_))
    rintro v100 w100 ⟨rfl, rfl⟩
    refine WL.c rfl (o_ne rfl rfl ?_)
    refine WL.nil ?_
    refine W.cond rfl (fun c101 => ?_) (fun c101 => ?_)
    · try simp only [decide_eq_true_eq, decide_eq_false_iff_not, Bool.not_eq_true', Bool.not_eq_false', Bool.and_eq_true, Bool.or_eq_true, Bool.and_eq_false_iff, Bool.or_eq_false_iff] at c101
      refine W.seq ?_
      refine W.region ?_
      refine WL.c rfl (o_mv ?_)
      refine WL.c rfl (o_eq rfl rfl ?_)
      refine WL.c rfl (o_mv ?_)
      refine WL.g rfl (by have := hfar.2.2.1 (by omega); simp [this]) rfl (o_mv ?_)
      refine WL.g rfl (by have := hfar.2.2.1 (by omega); simp [this]) rfl (o_mvh h1 ?_)
      refine WL.g rfl (by have := hfar.2.2.1 (by omega); simp [this]) rfl (o_lenR TI32 rfl (hB.ext hx39) ?_)
      refine WL.g rfl (by have := hfar.2.2.1 (by omega); simp [this]) rfl (o_le rfl rfl ?_)
      refine WL.c rfl (o_pickA rfl rfl ?_)
      refine WL.c rfl (o_as ?_)
      refine WL.nil ?_
      refine W.ret ?_
      refine ret1v rfl (show _ = Value.bool _ from rfl) ?_
      refine ⟨congrArg Value.bool ?_, hx39⟩
      have := hfar.2.2.1 (by omega)
      simp [this]; omega
    · try simp only [decide_eq_true_eq, decide_eq_false_iff_not, Bool.not_eq_true', Bool.not_eq_false', Bool.and_eq_true, Bool.or_eq_true, Bool.and_eq_false_iff, Bool.or_eq_false_iff] at c101
      refine W.skip ?_
      refine W.seq ?_
      have he0 : (vget 0 0 xs).2.2 = 0 := by omega
      have hbk := vget_back xs he0
      have hpos := hfar.2.2.2 he0
      have hBd := hB.ext (hx39.tr (Only.drew _))
      refine W.draw (Ext) [(1, fun v _ => v = _), (13, fun v _ => v = _), (14, fun v _ => v = _)] rfl (by kernel_rfl) (Only.refl No) (fun _ _ _ h k => h.trans k) ⟨Mono.eq, Mono.eq, Mono.eq, trivial⟩ ⟨h1, rfl, rfl, trivial⟩ ?_
      refine WD.p rfl (fun e w hR hh => by obtain ⟨h14, -⟩ := hh; exact SG.n (o_mvh h14 ⟨rfl, Only.refl No _⟩)) ?_
      refine WD.p rfl (fun e w hR hh => by obtain ⟨h110, -⟩ := hh; exact SG.n (o_ge h110 rfl ⟨rfl, Only.refl No _⟩)) ?_
      refine WD.p rfl (fun e w hR hh => by obtain ⟨h111, -⟩ := hh; exact SG.n (o_mvh h111 ⟨rfl, Only.refl No _⟩)) ?_
      refine WD.p rfl (fun e w hR hh => by obtain ⟨h112, h14, -⟩ := hh; exact SG.g h112 (by simp; omega) (o_mvh h14 ⟨rfl, Only.refl No _⟩)) ?_
      refine WD.p rfl (fun e w hR hh => by obtain ⟨h112, h1, -⟩ := hh; exact SG.g h112 (by simp; omega) (o_mvh h1 ⟨rfl, Only.refl No _⟩)) ?_
      refine WD.p rfl (fun e w hR hh => by obtain ⟨h114, h112, -⟩ := hh; exact SG.g h112 (by simp; omega) (o_lenR TI32 h114 (hBd.ext hR) ⟨rfl, Only.refl No _⟩)) ?_
      refine WD.p rfl (fun e w hR hh => by obtain ⟨h115, h113, h112, -⟩ := hh; exact SG.g h112 (by simp; omega) (o_le h113 h115 ⟨rfl, Only.refl No _⟩)) ?_
      refine WD.p rfl (fun e w hR hh => by obtain ⟨h116, h112, -⟩ := hh; exact SG.n (o_pickA h112 h116 ⟨rfl, Only.refl No _⟩)) ?_
      refine WD.p rfl (fun e w hR hh => by obtain ⟨h117, -⟩ := hh; exact SG.n (o_mvh h117 ⟨rfl, Only.refl No _⟩)) ?_
      refine WD.p rfl (fun e w hR hh => by obtain ⟨h118, h13, -⟩ := hh; exact SG.g h118 (by simp; omega) (o_mvh h13 ⟨rfl, Only.refl No _⟩)) ?_
      refine WD.q (fun u w => By w u (vput (vget 0 0 xs).1)) (fun _ _ _ hR h => h.ext hR) rfl (fun e w hR hh => by obtain ⟨h119, h118, -⟩ := hh; exact SG.g h118 (by simp; omega) (o_call Try.call13 (lc h119 ln) ((put_spec _ hbk.1 _).mono (fun v w' ⟨b, hv, hb, hh, hx⟩ => ⟨by subst hv; exact (put_fresh hb hh hbk.1 hx).by, hx⟩)))) ?_
      refine WD.p rfl (fun e w hR hh => by obtain ⟨h118, h1, -⟩ := hh; exact SG.g h118 (by simp; omega) (o_mvh h1 ⟨rfl, Only.refl No _⟩)) ?_
      refine WD.p rfl (fun e w hR hh => by obtain ⟨h118, h14, -⟩ := hh; exact SG.g h118 (by simp; omega) (o_mvh h14 ⟨rfl, Only.refl No _⟩)) ?_
      refine WD.q (fun u w => By w u (xs.take (vget 0 0 xs).2.1)) (fun _ _ _ hR h => h.ext hR) rfl (fun e w hR hh => by obtain ⟨h122, h121, h118, -⟩ := hh; exact SG.g h118 (by simp; omega) (o_sl TI32 TI5 h121 (hBd.ext hR) Lo.n (Hi.s h122) (by omega) (by omega) (fun v123 hv123 hS123 => ⟨by have := hS123; simp only [Nat.zero_mul, List.drop_zero, Nat.sub_zero, Nat.mul_one] at this; exact by_take (by omega) this, Only.refl No _⟩))) ?_
      refine WD.p rfl (fun e w hR hh => by obtain ⟨h123, h120, h118, -⟩ := hh; exact SG.g h118 (by simp; omega) (o_call Try.call17 (lc rfl (lc rfl ln)) ((same_spec _ _ _ _ _ h120 h123).mono (fun v w' ⟨h1, h2⟩ => ⟨h1, by rw [h2]; exact Only.refl No _⟩)))) ?_
      refine WD.p rfl (fun e w hR hh => by obtain ⟨h124, h118, -⟩ := hh; exact SG.n (o_pickA h118 h124 ⟨rfl, Only.refl No _⟩)) ?_
      refine WD.p rfl (fun e w hR hh => by obtain ⟨h125, -⟩ := hh; exact SG.n (o_ash h125 ⟨rfl, Only.refl No _⟩)) ?_
      rintro e w hR ⟨h4, h125, h124, h123, h122, h121, h120, h119, h118, h117, h116, h115, h114, h113, h112, h111, h110, h1, h13, h14, -⟩
      refine W.ret ?_
      refine ret1v rfl h4 ?_
      refine ⟨congrArg Value.bool ?_, (hx39.tr (Only.drew _)).tr hR⟩
      simp [hbk.2.1]; omega
end Go.Proofs.Ytieldjpbempkcaa
