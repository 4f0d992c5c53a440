/-
  Walks. Written by program out of specs of mine.
-/
import Derived.Test.YtiabjbaegdgmmaaN
set_option linter.unusedSimpArgs false
set_option linter.unusedVariables false
namespace Go.Proofs.Ytiabjbaegdgmmaa
open Go Go.Vc Go.RowKit Go.Proofs

/-- blanks and remarks; does a remark stand open at the end? -/
def gapS : Bool → List UInt8 → Option Bool
  | rm, [] => some rm
  | true, c :: cs => gapS (!decide (c.toNat = 10)) cs
  | false, c :: cs => if c.toNat = 35 then gapS true cs else if blankB c then gapS false cs else none
def gapB (xs : List UInt8) (last : Bool) : Bool := match gapS false xs with | none => false | some rm => !rm || last
theorem gapS_app : ∀ (xs ys : List UInt8) (rm : Bool), gapS rm (xs ++ ys) = (gapS rm xs).bind fun r => gapS r ys
  | [], ys, rm => rfl
  | c :: cs, ys, true => by rw [List.cons_append, gapS, gapS, gapS_app cs ys]
  | c :: cs, ys, false => by
    rw [List.cons_append, gapS, gapS]
    split
    · exact gapS_app cs ys true
    · split
      · exact gapS_app cs ys false
      · rfl
/-- a remark goes on to the line's end -/
theorem gapS_run (xs : List UInt8) (k : Nat) (hk : k ≤ xs.length) : gapS true (xs.drop k) = if runL nnlB xs k = xs.length then some true else gapS false (xs.drop (runL nnlB xs k)) := by
  rcases runL_cases nnlB xs k hk with ⟨h1, h2⟩ | ⟨h1, h2⟩ | h1
  · rw [runL_go h1 h2, ← gapS_run xs (k + 1) (by omega), ← List.getElem_cons_drop h1, gapS]
    simp [nnlB] at h2
    simp [h2]
  · rw [runL_stop h1 h2, if_neg (by omega), ← List.getElem_cons_drop h1, gapS, gapS]
    simp [nnlB] at h2
    simp [h2, blankB]
  · rw [runL_end (by omega), if_pos h1, h1, List.drop_length]; rfl
termination_by xs.length - k
/-- the next token, or the end -/
theorem cutL_next (xs : List UInt8) (k : Nat) (hk : k ≤ xs.length) (ts : List Tk) (hc : cutL xs k = (ts, 0, 0)) :
    (ts = [] ∧ ∃ rm, gapS false (xs.drop k) = some rm) ∨ ∃ (t : Tk) (us : List Tk) (h : t.at_ < xs.length), ts = t :: us ∧ k ≤ t.at_ ∧ gapS false ((xs.take t.at_).drop k) = some false ∧ oneL xs t.at_ h = (0, t) ∧ cutL xs t.fin = (us, 0, 0) ∧ t.at_ < t.fin ∧ t.fin ≤ xs.length ∧ blankB xs[t.at_] = false ∧ ¬ xs[t.at_].toNat = 35 := by
  have hc1 := cutL_eq xs k
  by_cases hl : k < xs.length
  · rw [dif_pos hl, hc] at hc1
    have hd : xs.drop k = xs[k] :: xs.drop (k + 1) := by rw [List.getElem_cons_drop]
    have hdt : ∀ a, k < a → a ≤ xs.length → (xs.take a).drop k = xs[k] :: (xs.take a).drop (k + 1) := fun a h1 h2 => by
      have h3 : k < (xs.take a).length := by simp; omega
      rw [← List.getElem_cons_drop h3]; simp
    by_cases h1 : (xs[k]).toNat = 35
    · rw [if_pos h1] at hc1
      have hle := runL_le (p := nnlB) (k := k + 1) (xs := xs) (by omega)
      rcases cutL_next xs _ hle.2 ts hc1.symm with ⟨rfl, rm, hrm⟩ | ⟨t, us, h, rfl, h2, h3, h4, h5, h6, h7, h8, h9⟩
      · refine .inl ⟨rfl, ?_⟩
        rw [hd, gapS, if_pos h1, gapS_run xs (k + 1) (by omega)]
        split
        · exact ⟨true, rfl⟩
        · exact ⟨rm, hrm⟩
      · have hne : runL nnlB xs (k + 1) ≠ t.at_ := by
          intro h
          have hst := runL_stopped (p := nnlB) (xs := xs) (k + 1) (by omega) (by omega)
          have : nnlB xs[t.at_] = false := by simpa [h] using hst
          simp [nnlB] at this
          simp [blankB, this] at h8
        have hr := runL_front (p := nnlB) (xs := xs) (zs := xs.take t.at_) (a := t.at_) (by rw [List.take_take, Nat.min_self]) (by omega) (by simp; omega) (k + 1) (by omega) (by omega) (.inr (.inr (by omega)))
        refine .inr ⟨t, us, h, rfl, by omega, ?_, h4, h5, h6, h7, h8, h9⟩
        rw [hdt t.at_ (by omega) (by omega), gapS, if_pos h1, gapS_run _ (k + 1) (by simp; omega), hr, if_neg (by simp; omega)]
        exact h3
    · rw [if_neg h1] at hc1
      by_cases h2 : blankB xs[k] = true
      · rw [if_pos h2] at hc1
        rcases cutL_next xs (k + 1) (by omega) ts hc1.symm with ⟨rfl, rm, hrm⟩ | ⟨t, us, h, rfl, h2', h3, h4, h5, h6, h7, h8, h9⟩
        · refine .inl ⟨rfl, rm, ?_⟩
          rw [hd, gapS, if_neg h1, if_pos h2]; exact hrm
        · refine .inr ⟨t, us, h, rfl, by omega, ?_, h4, h5, h6, h7, h8, h9⟩
          rw [hdt t.at_ (by omega) (by omega), gapS, if_neg h1, if_pos h2]; exact h3
      · rw [if_neg h2] at hc1
        by_cases he : (oneL xs k hl).1 = 0
        · rw [dif_pos he] at hc1
          have hf := oneL_fin xs k hl he
          obtain ⟨e1, e2⟩ := Prod.mk.inj hc1
          have hat : (oneL xs k hl).2.at_ = k := by
            unfold oneL
            split
            · split <;> rfl
            · split
              · rfl
              · split <;> rfl
          have hdn : (xs.take k).drop k = [] := List.drop_eq_nil_of_le (by simp; omega)
          refine .inr ⟨(oneL xs k hl).2, (cutL xs (oneL xs k hl).2.fin).1, by omega, e1, by omega, by rw [hat, hdn]; rfl, ?_, by rw [e2], by omega, by omega, ?_, ?_⟩
          · have : ∀ j (hj : j < xs.length), j = k → oneL xs j hj = (0, (oneL xs k hl).2) := by rintro j hj rfl; exact Prod.ext he rfl
            exact this _ _ hat
          · have : ∀ j (hj : j < xs.length), j = k → blankB xs[j] = false := by rintro j hj rfl; simpa using h2
            exact this _ _ hat
          · have : ∀ j (hj : j < xs.length), j = k → ¬ xs[j].toNat = 35 := by rintro j hj rfl; exact h1
            exact this _ _ hat
        · rw [dif_neg he] at hc1
          obtain ⟨-, e2⟩ := Prod.mk.inj hc1
          exact absurd (Prod.mk.inj e2).1.symm he
  · rw [dif_neg hl, hc] at hc1
    refine .inl ⟨(Prod.mk.inj hc1).1, false, ?_⟩
    rw [List.drop_eq_nil_of_le (by omega)]; rfl
termination_by xs.length - k
/-- the same, further behind -/
def shiftT (k : Nat) (t : Tk) : Tk := ⟨t.kind, t.text, t.n, k + t.at_, k + t.fin⟩
theorem runL_shift (p : UInt8 → Bool) (xs : List UInt8) (k j : Nat) : runL p xs (k + j) = k + runL p (xs.drop k) j := by
  unfold runL
  rw [List.drop_drop]; omega
theorem sub_shift (xs : List UInt8) (k l h : Nat) : sub xs (k + l) (k + h) = sub (xs.drop k) l h := by
  unfold sub
  rw [← List.drop_drop, List.drop_take, Nat.add_sub_cancel_left]
theorem oneL_shift (xs : List UInt8) (k j : Nat) (h : k + j < xs.length) (h' : j < (xs.drop k).length) : (oneL xs (k + j) h).1 = (oneL (xs.drop k) j h').1 ∧ ((oneL (xs.drop k) j h').1 = 0 → (oneL xs (k + j) h).2 = shiftT k (oneL (xs.drop k) j h').2) := by
  have he : (xs.drop k)[j] = xs[k + j] := by simp
  unfold oneL
  rw [he]
  by_cases h1 : letB xs[k + j] = true
  · rw [if_pos h1, if_pos h1, runL_shift, sub_shift]
    by_cases h2 : 32 < k + runL goeB (xs.drop k) j - (k + j)
    · rw [if_pos h2, if_pos (by omega)]; exact ⟨rfl, fun h => by simp at h⟩
    · rw [if_neg h2, if_neg (by omega)]; exact ⟨rfl, fun _ => rfl⟩
  · rw [if_neg h1, if_neg h1]
    by_cases h2 : digB xs[k + j] = true
    · rw [if_pos h2, if_pos h2, runL_shift, sub_shift]; exact ⟨rfl, fun _ => rfl⟩
    · rw [if_neg h2, if_neg h2]
      by_cases h3 : markB xs[k + j] = true
      · rw [if_pos h3, if_pos h3, Nat.add_assoc, sub_shift]; exact ⟨rfl, fun _ => rfl⟩
      · rw [if_neg h3, if_neg h3]; exact ⟨rfl, fun h => by simp at h⟩
/-- a token's own bytes are it -/
theorem own_one {xs : List UInt8} {t : Tk} (h : t.at_ < xs.length) (ho : oneL xs t.at_ h = (0, t)) (h1 : t.at_ < t.fin) (h2 : t.fin ≤ xs.length) (h' : 0 < (sub xs t.at_ t.fin).length) :
    oneL (sub xs t.at_ t.fin) 0 h' = (0, ⟨t.kind, t.text, t.n, 0, t.fin - t.at_⟩) := by
  have hf := oneL_front (xs := xs) (zs := xs.take t.fin) (a := t.fin) (by rw [List.take_take, Nat.min_self]) h2 (by simp; omega) (.inl (by simp; omega)) t.at_ h1 h (by simp; omega) (by rw [ho]) (by rw [ho]; exact Nat.le_refl _)
  rw [ho] at hf
  have hs := oneL_shift (xs.take t.fin) t.at_ 0 (by simp; omega) h'
  have hf' : oneL (xs.take t.fin) (t.at_ + 0) (by simp; omega) = (0, t) := hf
  rw [hf'] at hs
  have hs2 := hs.2 hs.1.symm
  refine Prod.ext hs.1.symm ?_
  show (oneL (sub xs t.at_ t.fin) 0 h').2 = _
  unfold sub at h' ⊢
  generalize (oneL (List.drop t.at_ (List.take t.fin xs)) 0 h').2 = u at hs2
  have hs3 : t = shiftT t.at_ u := hs2
  obtain ⟨u1, u2, u3, u4, u5⟩ := u
  have e1 := congrArg Tk.kind hs3
  have e2 := congrArg Tk.text hs3
  have e3 := congrArg Tk.n hs3
  have e4 := congrArg Tk.at_ hs3
  have e5 := congrArg Tk.fin hs3
  simp only [shiftT] at e1 e2 e3 e4 e5
  rw [Tk.mk.injEq]
  exact ⟨e1.symm, e2.symm, e3.symm, by omega, by omega⟩
theorem own_cut {xs : List UInt8} {t : Tk} (h : t.at_ < xs.length) (ho : oneL xs t.at_ h = (0, t)) (h1 : t.at_ < t.fin) (h2 : t.fin ≤ xs.length) (hb : blankB xs[t.at_] = false) (h35 : ¬ xs[t.at_].toNat = 35) (hl : xs.length ≤ 65536) :
    cutA (sub xs t.at_ t.fin) = ([⟨t.kind, t.text, t.n, 0, t.fin - t.at_⟩], 0, 0) := by
  have hlen : (sub xs t.at_ t.fin).length = t.fin - t.at_ := by unfold sub; simp; omega
  have h0 : 0 < (sub xs t.at_ t.fin).length := by omega
  have ho' := own_one h ho h1 h2 h0
  have hg : (sub xs t.at_ t.fin)[0] = xs[t.at_] := by
    have : (sub xs t.at_ t.fin)[0]? = some xs[t.at_] := by unfold sub; rw [List.getElem?_drop, List.getElem?_take]; simp [h, h1]
    exact (List.getElem?_eq_some_iff.1 this).2
  have he : cutL (sub xs t.at_ t.fin) (t.fin - t.at_) = ([], 0, 0) := by rw [cutL_eq, dif_neg (by omega)]
  have hc := cutL_eq (sub xs t.at_ t.fin) 0
  rw [dif_pos h0, if_neg (by rw [hg]; exact h35), if_neg (by rw [hg]; simp [hb]), dif_pos (by rw [ho']), ho'] at hc
  have hc' : cutL (sub xs t.at_ t.fin) 0 = ([⟨t.kind, t.text, t.n, 0, t.fin - t.at_⟩], 0, 0) := by rw [hc, he]
  unfold cutA
  rw [if_neg (by omega), hc']; rfl

theorem gap_spec (xs : List UInt8) (last : Bool) (w0 : World) (hlen : xs.length ≤ 9223372036854775807) : Ca Try.prog 16 #[st xs, .bool last] w0 (fun v w' => v = .bool (gapB xs last) ∧ w' = w0) := by
  refine Ca.of Try.func16 Try.ntmps16 rfl rfl ?_
  refine W.seq ?_
  refine W.region ?_
  refine WL.c rfl (o_as ?_)
  refine WL.nil ?_
  refine W.seq ?_
  refine W.region ?_
  refine WL.c rfl (o_as ?_)
  refine WL.nil ?_
  refine W.seq ?_
  refine W.seq ?_
  refine W.region ?_
  refine WL.c rfl (o_as ?_)
  refine WL.nil ?_
  refine W.block ?_
  refine W.loop (fun e w => ∃ (k : Nat) (rm : Bool), k ≤ xs.length ∧ e 0 = st xs ∧ e 1 = .bool last ∧ e 5 = .bool rm ∧ e 6 = .int .i64 (k : Int) ∧ gapS false xs = gapS rm (xs.drop k) ∧ w = w0) (fun e w => xs.length - (intOf (e 6)).toNat) ?_ ?_
  · exact ⟨0, false, Nat.zero_le _, rfl, rfl, rfl, rfl, rfl, rfl⟩
  rintro e w ⟨k, rm, hk, h0, h1, h5, h6, hg, rfl⟩
  have hm6 := h6
  refine W.seq ?_
  refine W.seq ?_
  refine W.region ?_
  refine WL.c rfl (o_mvh h6 ?_)
  refine WL.c rfl (o_mvh h0 ?_)
  refine WL.c rfl (o_lenT TI9 rfl ?_)
  refine WL.c rfl (o_lt rfl rfl ?_)
  refine WL.nil ?_
  refine W.cond rfl (fun c11 => ?_) (fun c11 => ?_)
  · try simp only [decide_eq_true_eq, decide_eq_false_iff_not, Bool.not_eq_true', Bool.not_eq_false', Bool.and_eq_true, Bool.or_eq_true, Bool.and_eq_false_iff, Bool.or_eq_false_iff] at c11
    have hk1 : k < xs.length := by omega
    have hcons : xs.drop k = xs[k] :: xs.drop (k + 1) := by rw [List.getElem_cons_drop]
    refine W.skip ?_
    refine W.seq ?_
    refine W.block ?_
    refine W.seq ?_
    refine W.region ?_
    refine WL.c rfl (o_mvh h0 ?_)
    refine WL.c rfl (o_mvh h6 ?_)
    refine WL.c rfl (o_idT TI9 rfl rfl (by omega) ?_)
    refine WL.c rfl (o_as ?_)
    refine WL.nil ?_
    refine W.block ?_
    refine W.seq ?_
    refine W.region ?_
    refine WL.c rfl (o_mvh h5 ?_)
    refine WL.c rfl (o_as ?_)
    refine WL.nil ?_
    refine W.cond rfl (fun c17 => ?_) (fun c17 => ?_)
    · try simp only [decide_eq_true_eq, decide_eq_false_iff_not, Bool.not_eq_true', Bool.not_eq_false', Bool.and_eq_true, Bool.or_eq_true, Bool.and_eq_false_iff, Bool.or_eq_false_iff] at c17
      refine W.region ?_
      refine WL.c rfl (o_mv ?_)
      refine WL.c rfl (o_ne rfl rfl ?_)
      refine WL.c rfl (o_as ?_)
      refine WL.nil ?_
      refine W.region ?_
      refine WL.c rfl (o_mvh h6 ?_)
      refine WL.c rfl (o_addi rfl rfl (by omega) ?_)
      refine WL.c rfl (o_as ?_)
      refine WL.nil ?_
      first
      | (have hA : rm = true := c17
         refine ⟨⟨k + 1, _, by omega, h0, h1, rfl, rfl, ?_, rfl⟩, by show xs.length - ((k : Int) + 1).toNat < _; rw [hm6]; simp [intOf]; omega⟩
         rw [hg, hA, hcons, gapS]
         congr 1
         rw [Bool.eq_iff_iff]; simp <;> omega)
      | (have hC : (xs[k]).toNat = 35 := by omega
         have hA : rm = false := c17
         refine ⟨⟨k + 1, true, by omega, h0, h1, rfl, rfl, ?_, rfl⟩, by show xs.length - ((k : Int) + 1).toNat < _; rw [hm6]; simp [intOf]; omega⟩
         rw [hg, hA, hcons, gapS, if_pos hC])
      | (have hA : rm = false := c17
         refine ⟨⟨k + 1, false, by omega, h0, h1, h5.trans (congrArg Value.bool hA), rfl, ?_, rfl⟩, by show xs.length - ((k : Int) + 1).toNat < _; rw [hm6]; simp [intOf]; omega⟩
         rw [hg, hA, hcons, gapS, if_neg (by omega), if_pos c24])
    · try simp only [decide_eq_true_eq, decide_eq_false_iff_not, Bool.not_eq_true', Bool.not_eq_false', Bool.and_eq_true, Bool.or_eq_true, Bool.and_eq_false_iff, Bool.or_eq_false_iff] at c17
      refine W.seq ?_
      refine W.region ?_
      refine WL.c rfl (o_mv ?_)
      refine WL.c rfl (o_eq rfl rfl ?_)
      refine WL.c rfl (o_as ?_)
      refine WL.nil ?_
      refine W.cond rfl (fun c21 => ?_) (fun c21 => ?_)
      · try simp only [decide_eq_true_eq, decide_eq_false_iff_not, Bool.not_eq_true', Bool.not_eq_false', Bool.and_eq_true, Bool.or_eq_true, Bool.and_eq_false_iff, Bool.or_eq_false_iff] at c21
        refine W.region ?_
        refine WL.c rfl (o_as ?_)
        refine WL.nil ?_
        refine W.region ?_
        refine WL.c rfl (o_mvh h6 ?_)
        refine WL.c rfl (o_addi rfl rfl (by omega) ?_)
        refine WL.c rfl (o_as ?_)
        refine WL.nil ?_
        first
        | (have hA : rm = true := c17
           refine ⟨⟨k + 1, _, by omega, h0, h1, rfl, rfl, ?_, rfl⟩, by show xs.length - ((k : Int) + 1).toNat < _; rw [hm6]; simp [intOf]; omega⟩
           rw [hg, hA, hcons, gapS]
           congr 1
           rw [Bool.eq_iff_iff]; simp <;> omega)
        | (have hC : (xs[k]).toNat = 35 := by omega
           have hA : rm = false := c17
           refine ⟨⟨k + 1, true, by omega, h0, h1, rfl, rfl, ?_, rfl⟩, by show xs.length - ((k : Int) + 1).toNat < _; rw [hm6]; simp [intOf]; omega⟩
           rw [hg, hA, hcons, gapS, if_pos hC])
        | (have hA : rm = false := c17
           refine ⟨⟨k + 1, false, by omega, h0, h1, h5.trans (congrArg Value.bool hA), rfl, ?_, rfl⟩, by show xs.length - ((k : Int) + 1).toNat < _; rw [hm6]; simp [intOf]; omega⟩
           rw [hg, hA, hcons, gapS, if_neg (by omega), if_pos c24])
      · try simp only [decide_eq_true_eq, decide_eq_false_iff_not, Bool.not_eq_true', Bool.not_eq_false', Bool.and_eq_true, Bool.or_eq_true, Bool.and_eq_false_iff, Bool.or_eq_false_iff] at c21
        refine W.seq ?_
        refine W.region ?_
        refine WL.cut (fun e1 w1 => e1 24 = .bool (!blankB xs[k]) ∧ e1 0 = st xs ∧ e1 1 = .bool last ∧ e1 5 = .bool rm ∧ e1 6 = .int .i64 (k : Int) ∧ w1 = w) ?_ ?_
        · -- region 10
          refine WL.c rfl (o_mv ?_)
          refine WL.c rfl (o_ne rfl rfl ?_)
          refine WL.c rfl (o_mv ?_)
          refine WL.sp 2 rfl (fun g27 => ?_) (fun g27 => ?_)
          · skip
            refine WL.g rfl (g27) rfl (o_mv ?_)
            refine WL.g rfl (g27) rfl (o_ne rfl rfl ?_)
            refine WL.c rfl (o_pickA rfl rfl ?_)
            refine WL.c rfl (o_mv ?_)
            refine WL.sp 6 rfl (fun g31 => ?_) (fun g31 => ?_)
            · skip
              refine WL.g rfl (g31) rfl (o_mv ?_)
              refine WL.g rfl (g31) rfl (o_ne rfl rfl ?_)
              refine WL.c rfl (o_pickA rfl rfl ?_)
              refine WL.c rfl (o_as ?_)
              exact WL.nil (⟨congrArg Value.bool (by clear hcons hg; rw [Bool.eq_iff_iff]; simp_all [blankB] <;> omega), h0, h1, h5, h6, rfl⟩)
            · skip
              refine WL.s rfl (g31) rfl ?_
              refine WL.s rfl (g31) rfl ?_
              refine WL.c rfl (o_pickF rfl (g31) ?_)
              refine WL.c rfl (o_as ?_)
              exact WL.nil (⟨congrArg Value.bool (by clear hcons hg; rw [Bool.eq_iff_iff]; simp_all [blankB] <;> omega), h0, h1, h5, h6, rfl⟩)
          · skip
            refine WL.s rfl (g27) rfl ?_
            refine WL.s rfl (g27) rfl ?_
            refine WL.c rfl (o_pickF rfl (g27) ?_)
            refine WL.c rfl (o_mv ?_)
            refine WL.s rfl (rfl) rfl ?_
            refine WL.s rfl (rfl) rfl ?_
            refine WL.c rfl (o_pickF rfl (rfl) ?_)
            refine WL.c rfl (o_as ?_)
            exact WL.nil (⟨congrArg Value.bool (by clear hcons hg; rw [Bool.eq_iff_iff]; simp_all [blankB] <;> omega), h0, h1, h5, h6, rfl⟩)
        rintro e w ⟨h24, h0, h1, h5, h6, rfl⟩
        refine W.cond h24 (fun c24 => ?_) (fun c24 => ?_)
        · try simp only [decide_eq_true_eq, decide_eq_false_iff_not, Bool.not_eq_true', Bool.not_eq_false', Bool.and_eq_true, Bool.or_eq_true, Bool.and_eq_false_iff, Bool.or_eq_false_iff] at c24
          refine W.seq ?_
          refine W.region ?_
          refine WL.c rfl (o_as ?_)
          refine WL.nil ?_
          refine W.ret ?_
          refine ret1v rfl (show _ = Value.bool _ from rfl) ?_
          have hA : rm = false := c17
          have hb : ¬ blankB xs[k] = true := by simp [c24]
          exact ⟨by rw [gapB, hg, hA, hcons, gapS, if_neg (by omega), if_neg hb], rfl⟩
        · try simp only [decide_eq_true_eq, decide_eq_false_iff_not, Bool.not_eq_true', Bool.not_eq_false', Bool.and_eq_true, Bool.or_eq_true, Bool.and_eq_false_iff, Bool.or_eq_false_iff] at c24
          refine W.skip ?_
          refine W.region ?_
          refine WL.c rfl (o_mvh h6 ?_)
          refine WL.c rfl (o_addi rfl rfl (by omega) ?_)
          refine WL.c rfl (o_as ?_)
          refine WL.nil ?_
          first
          | (have hA : rm = true := c17
             refine ⟨⟨k + 1, _, by omega, h0, h1, rfl, rfl, ?_, rfl⟩, by show xs.length - ((k : Int) + 1).toNat < _; rw [hm6]; simp [intOf]; omega⟩
             rw [hg, hA, hcons, gapS]
             congr 1
             rw [Bool.eq_iff_iff]; simp <;> omega)
          | (have hC : (xs[k]).toNat = 35 := by omega
             have hA : rm = false := c17
             refine ⟨⟨k + 1, true, by omega, h0, h1, rfl, rfl, ?_, rfl⟩, by show xs.length - ((k : Int) + 1).toNat < _; rw [hm6]; simp [intOf]; omega⟩
             rw [hg, hA, hcons, gapS, if_pos hC])
          | (have hA : rm = false := c17
             refine ⟨⟨k + 1, false, by omega, h0, h1, h5.trans (congrArg Value.bool hA), rfl, ?_, rfl⟩, by show xs.length - ((k : Int) + 1).toNat < _; rw [hm6]; simp [intOf]; omega⟩
             rw [hg, hA, hcons, gapS, if_neg (by omega), if_pos c24])
  · try simp only [decide_eq_true_eq, decide_eq_false_iff_not, Bool.not_eq_true', Bool.not_eq_false', Bool.and_eq_true, Bool.or_eq_true, Bool.and_eq_false_iff, Bool.or_eq_false_iff] at c11
    refine W.exit ?_
    refine W.seq ?_
    refine W.region ?_
    refine WL.c rfl (o_mvh h5 ?_)
    refine WL.c rfl (o_not' rfl ?_)
    refine WL.c rfl (o_mv ?_)
    refine WL.sp 2 rfl (fun g37 => ?_) (fun g37 => ?_)
    · skip
      refine WL.s rfl (g37) rfl ?_
      refine WL.c rfl (o_pickT rfl (g37) ?_)
      refine WL.c rfl (o_as ?_)
      refine WL.nil ?_
      refine W.ret ?_
      refine ret1v rfl (show _ = Value.bool _ from rfl) ?_
      rw [List.drop_eq_nil_of_le (by omega)] at hg
      exact ⟨by rw [gapB, hg]; cases rm <;> simp_all [gapS], rfl⟩
    · skip
      refine WL.g rfl (g37) rfl (o_mvh h1 ?_)
      refine WL.c rfl (o_pickO rfl rfl ?_)
      refine WL.c rfl (o_as ?_)
      refine WL.nil ?_
      refine W.ret ?_
      refine ret1v rfl (show _ = Value.bool _ from rfl) ?_
      rw [List.drop_eq_nil_of_le (by omega)] at hg
      exact ⟨by rw [gapB, hg]; cases rm <;> simp_all [gapS], rfl⟩
theorem bare_spec (t : Tk) (w0 : World) : Ca Try.prog 17 #[.agg (tokV t)] w0 (fun v w' => v = .agg (tokV ⟨t.kind, t.text, t.n, 0, 0⟩) ∧ Ext w0 w') := by
  refine Ca.of Try.func17 Try.ntmps17 rfl rfl ?_
  refine W.seq ?_
  refine W.region ?_
  refine WL.c rfl (o_boxB rfl ?_)
  intro w1 hB1 hx1 hs1
  replace hB1 : w1.heap[w0.heap.size]? = some (.cells (tokV t) 33 (0, 0)) := hB1
  refine WL.c rfl (o_alB TI33 ?_)
  intro w2 hB2 hx2 hs2
  replace hB1 := hx2.blk hB1 (fun h => h)
  replace hx1 := hx1.tr hx2
  refine WL.nil ?_
  refine W.seq ?_
  refine W.region ?_
  refine WL.c rfl (o_fa 3 TI33 rfl TI3 rfl rfl ?_)
  refine WL.u (o_stB TI3 rfl (show _ = Value.int _ _ from rfl) rfl hB1 (show _ < 5 by decide) ?_)
  intro w3 hC ho hs
  replace hB1 : w3.heap[w0.heap.size]? = some (.cells (tokV ⟨t.kind, t.text, t.n, 0, t.fin⟩) 33 (0, 0)) := hC
  replace hB2 := ho.blk hB2 (by show ¬ _ = _; omega)
  replace hx1 := Ext.own hx1 (by omega) ho
  refine WL.nil ?_
  refine W.seq ?_
  refine W.region ?_
  refine WL.c rfl (o_fa 4 TI33 rfl TI3 rfl rfl ?_)
  refine WL.u (o_stB TI3 rfl (show _ = Value.int _ _ from rfl) rfl hB1 (show _ < 5 by decide) ?_)
  intro w4 hC ho hs
  replace hB1 : w4.heap[w0.heap.size]? = some (.cells (tokV ⟨t.kind, t.text, t.n, 0, 0⟩) 33 (0, 0)) := hC
  replace hB2 := ho.blk hB2 (by show ¬ _ = _; omega)
  replace hx1 := Ext.own hx1 (by omega) ho
  refine WL.nil ?_
  refine W.seq ?_
  refine W.region ?_
  refine WL.c rfl (o_ldA TI33 rfl rfl (cells_all hB1) rfl ?_)
  refine WL.u (o_stA TI33 rfl (show _ = Value.agg (tokV ⟨t.kind, t.text, t.n, 0, 0⟩) from rfl) rfl rfl hB2 rfl ?_)
  intro wE hE hoE hsE
  have hxE := Ext.own hx1 (by omega) hoE
  refine WL.nil ?_
  refine W.ret ?_
  refine retC rfl TI33 rfl rfl (cells_all hE) rfl ?_
  exact ⟨rfl, hxE⟩
end Go.Proofs.Ytiabjbaegdgmmaa
