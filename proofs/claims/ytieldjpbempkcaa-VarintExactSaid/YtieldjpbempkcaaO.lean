/-
  Walks. Written by program out of specs of mine.
-/
import Derived.Test.YtieldjpbempkcaaL
set_option linter.unusedSimpArgs false
set_option linter.unusedVariables false
namespace Go.Proofs.Ytieldjpbempkcaa
open Go Go.Vc Go.RowKit Go.Proofs

theorem vsize_up : ∀ (n : Nat), n < 128 ^ vsize n := by
  intro n
  induction n using Nat.strongRecOn with
  | _ n ih =>
    by_cases h : n < 128
    · rw [vsize_lt h]; simpa using h
    · rw [vsize_ge h, Nat.pow_succ]
      have := ih (n / 128) (by omega)
      omega
theorem vsize_dn : ∀ (n : Nat), vsize n = 1 ∨ 128 ^ (vsize n - 1) ≤ n := by
  intro n
  induction n using Nat.strongRecOn with
  | _ n ih =>
    by_cases h : n < 128
    · exact .inl (vsize_lt h)
    · right
      have hp := vsize_pos (n / 128)
      rw [vsize_ge h, Nat.add_sub_cancel]
      rcases ih (n / 128) (by omega) with h1 | h1
      · rw [h1]; omega
      · obtain ⟨k, hk⟩ : ∃ k, vsize (n / 128) = k + 1 := ⟨vsize (n / 128) - 1, by omega⟩
        rw [hk] at h1 ⊢
        rw [Nat.add_sub_cancel] at h1
        rw [Nat.pow_succ]; omega
theorem vsize_mono {a b : Nat} (h : a ≤ b) : vsize a ≤ vsize b := by
  rcases vsize_dn a with h1 | h1
  · have := vsize_pos b; omega
  · have h2 := vsize_up b
    have h3 : 128 ^ (vsize a - 1) < 128 ^ vsize b := Nat.lt_of_le_of_lt h1 (Nat.lt_of_le_of_lt h h2)
    have := (Nat.pow_lt_pow_iff_right (by decide : 1 < 128)).1 h3
    omega
theorem vshift0 (a : Nat) : a / 2 ^ (7 * vsize a) = 0 := by
  rw [Nat.pow_mul]; exact Nat.div_eq_of_lt (vsize_up a)
theorem vshift1 (a : Nat) (h : vsize a ≠ 1) : a / 2 ^ (7 * (vsize a - 1)) ≠ 0 := by
  rw [Nat.pow_mul]
  have := (vsize_dn a).resolve_left h
  have : 0 < a / 128 ^ (vsize a - 1) := Nat.div_pos this (Nat.pow_pos (by decide))
  exact Nat.ne_of_gt this

theorem order_walk (w0 : World) (a : Nat) (ha : a < 18446744073709551616) (b : Nat) (hb : b < 18446744073709551616) : Ca Try.prog 6 #[.int .u64 (a : Int), .int .u64 (b : Int)] w0 (fun v w' => v = .bool true ∧ Ext w0 w') := by
  have h10 := vsize_10 (show a < 2 ^ 64 from ha)
  have h1 := vsize_pos a
  have hmn : min a b < 2 ^ 64 := by omega
  have hm := vsize_mono (show min a b ≤ max a b by omega)
  have hmn10 := vsize_10 hmn
  refine Ca.of Try.func6 Try.ntmps6 rfl rfl ?_
  refine W.seq ?_
  refine W.region ?_
  refine WL.c rfl (o_as ?_)
  refine WL.nil ?_
  refine W.seq ?_
  refine W.seq ?_
  refine W.region ?_
  refine WL.c rfl (o_call Try.call8 ln ((awake_spec _).mono ?_))
  rintro v8 w8 ⟨rfl, hx8⟩
  refine WL.c rfl (o_not' rfl ?_)
  refine WL.nil ?_
  refine W.condF' rfl (rfl) ?_
  refine W.skip ?_
  refine W.seq ?_
  refine W.region ?_
  refine WL.c rfl (o_mv ?_)
  refine WL.c rfl (o_mv ?_)
  refine WL.c rfl (n_min rfl rfl ?_)
  refine WL.c rfl (o_call Try.call14 (lc rfl ln) ((size_spec (min a b) hmn _).mono ?_))
  rintro v13 w13 ⟨rfl, rfl⟩
  refine WL.c rfl (o_as ?_)
  refine WL.nil ?_
  refine W.seq ?_
  refine W.region ?_
  refine WL.c rfl (o_mv ?_)
  refine WL.c rfl (o_mv ?_)
  refine WL.c rfl (n_max rfl rfl ?_)
  refine WL.c rfl (o_call Try.call14 (lc rfl ln) ((size_spec (max a b) (by omega) _).mono ?_))
  rintro v17 w17 ⟨rfl, rfl⟩
  refine WL.c rfl (o_as ?_)
  refine WL.nil ?_
  refine W.seq ?_
  refine W.seq ?_
  refine W.region ?_
  refine WL.c rfl (o_mv ?_)
  refine WL.c rfl (o_mv ?_)
  refine WL.c rfl (o_gt rfl rfl ?_)
  refine WL.c rfl (o_mv ?_)
  refine WL.g rfl (by simp; omega) rfl (o_mv ?_)
  refine WL.g rfl (by simp; omega) rfl (o_mv ?_)
  refine WL.g rfl (by simp; omega) rfl (o_mv ?_)
  refine WL.g rfl (by simp; omega) rfl (n_min rfl rfl ?_)
  refine WL.g rfl (by simp; omega) rfl (o_call Try.call13 (lc rfl ln) ((put_spec (min a b) hmn _).mono ?_))
  rintro v26 w26 ⟨b26, hv26, hb26, hh26, hx26⟩
  subst hv26
  refine WL.g rfl (by simp; omega) rfl (o_len TI32 rfl ?_)
  refine WL.g rfl (by simp; omega) rfl (o_ne rfl rfl ?_)
  refine WL.c rfl (o_pickO rfl rfl ?_)
  refine WL.nil ?_
  refine W.condF' rfl (by simp; omega) ?_
  refine W.skip ?_
  refine W.seq ?_
  refine W.region ?_
  refine WL.c rfl (o_mv ?_)
  refine WL.c rfl (o_call Try.call14 (lc rfl ln) ((size_spec a (by omega) _).mono ?_))
  rintro v31 w31 ⟨rfl, rfl⟩
  refine WL.c rfl (o_as ?_)
  refine WL.nil ?_
  refine W.seq ?_
  refine W.seq ?_
  refine W.region ?_
  refine WL.c rfl (o_mv ?_)
  refine WL.c rfl (o_lt rfl rfl ?_)
  refine WL.c rfl (o_mv ?_)
  refine WL.sp 2 rfl (fun g34 => ?_) (fun g34 => ?_)
  · skip
    refine WL.g rfl (g34) rfl (o_mv ?_)
    refine WL.g rfl (g34) rfl (o_mv ?_)
    refine WL.g rfl (g34) rfl (o_muli rfl rfl (by omega) ?_)
    refine WL.g rfl (g34) rfl (n_cvI (n := 7 * vsize a) 18446744073709551616 rfl TI3 TI52 (by decide) (by show Value.int _ (7 * (vsize a : Int)) = _; rfl) ?_)
    refine WL.g rfl (g34) rfl (n_shr 18446744073709551616 rfl (by decide) rfl rfl (by omega) ?_)
    refine WL.g rfl (g34) rfl (o_ne rfl rfl ?_)
    refine WL.c rfl (o_pickA rfl rfl ?_)
    refine WL.nil ?_
    refine W.condF' rfl (by first | rfl | (rw [Nat.mod_eq_of_lt (show 7 * vsize a < 18446744073709551616 by omega), vshift0]; simp)) ?_
    refine W.skip ?_
    refine W.seq ?_
    refine W.region ?_
    refine WL.c rfl (o_mv ?_)
    refine WL.c rfl (o_eq rfl rfl ?_)
    refine WL.c rfl (o_mv ?_)
    refine WL.sp 2 rfl (fun g44 => ?_) (fun g44 => ?_)
    · skip
      refine WL.s rfl (g44) rfl ?_
      refine WL.s rfl (g44) rfl ?_
      refine WL.s rfl (g44) rfl ?_
      refine WL.s rfl (g44) rfl ?_
      refine WL.s rfl (g44) rfl ?_
      refine WL.s rfl (g44) rfl ?_
      refine WL.s rfl (g44) rfl ?_
      refine WL.c rfl (o_pickT rfl (g44) ?_)
      refine WL.c rfl (o_as ?_)
      refine WL.nil ?_
      refine W.ret ?_
      refine ret1v rfl (show _ = Value.bool _ from rfl) ?_
      refine ⟨congrArg Value.bool ?_, hx8.tr hx26⟩
      first
        | rfl
        | (simp only [decide_eq_false_iff_not] at g44
           rw [Nat.mod_eq_of_lt (show 7 * (vsize a - 1) < 18446744073709551616 by omega)]
           have := vshift1 a (by omega)
           simp only [Bool.or_eq_true, Bool.not_eq_true', decide_eq_true_eq, decide_eq_false_iff_not]; right; omega)
    · skip
      refine WL.g rfl (g44) rfl (o_mv ?_)
      refine WL.g rfl (g44) rfl (o_mv ?_)
      refine WL.g rfl (g44) rfl (o_subi rfl rfl (by omega) ?_)
      refine WL.g rfl (g44) rfl (o_muli rfl rfl (by omega) ?_)
      refine WL.g rfl (g44) rfl (n_cvI (n := 7 * (vsize a - 1)) 18446744073709551616 rfl TI3 TI52 (by decide) (by show Value.int _ (7 * ((vsize a : Int) - 1)) = _; congr 1; omega) ?_)
      refine WL.g rfl (g44) rfl (n_shr 18446744073709551616 rfl (by decide) rfl rfl (by omega) ?_)
      refine WL.g rfl (g44) rfl (o_ne rfl rfl ?_)
      refine WL.c rfl (o_pickO rfl rfl ?_)
      refine WL.c rfl (o_as ?_)
      refine WL.nil ?_
      refine W.ret ?_
      refine ret1v rfl (show _ = Value.bool _ from rfl) ?_
      refine ⟨congrArg Value.bool ?_, hx8.tr hx26⟩
      first
        | rfl
        | (simp only [decide_eq_false_iff_not] at g44
           rw [Nat.mod_eq_of_lt (show 7 * (vsize a - 1) < 18446744073709551616 by omega)]
           have := vshift1 a (by omega)
           simp only [Bool.or_eq_true, Bool.not_eq_true', decide_eq_true_eq, decide_eq_false_iff_not]; right; omega)
  · skip
    refine WL.s rfl (g34) rfl ?_
    refine WL.s rfl (g34) rfl ?_
    refine WL.s rfl (g34) rfl ?_
    refine WL.s rfl (g34) rfl ?_
    refine WL.s rfl (g34) rfl ?_
    refine WL.s rfl (g34) rfl ?_
    refine WL.c rfl (o_pickF rfl (g34) ?_)
    refine WL.nil ?_
    refine W.condF' rfl (by first | rfl | (rw [Nat.mod_eq_of_lt (show 7 * vsize a < 18446744073709551616 by omega), vshift0]; simp)) ?_
    refine W.skip ?_
    refine W.seq ?_
    refine W.region ?_
    refine WL.c rfl (o_mv ?_)
    refine WL.c rfl (o_eq rfl rfl ?_)
    refine WL.c rfl (o_mv ?_)
    refine WL.sp 2 rfl (fun g44 => ?_) (fun g44 => ?_)
    · skip
      refine WL.s rfl (g44) rfl ?_
      refine WL.s rfl (g44) rfl ?_
      refine WL.s rfl (g44) rfl ?_
      refine WL.s rfl (g44) rfl ?_
      refine WL.s rfl (g44) rfl ?_
      refine WL.s rfl (g44) rfl ?_
      refine WL.s rfl (g44) rfl ?_
      refine WL.c rfl (o_pickT rfl (g44) ?_)
      refine WL.c rfl (o_as ?_)
      refine WL.nil ?_
      refine W.ret ?_
      refine ret1v rfl (show _ = Value.bool _ from rfl) ?_
      refine ⟨congrArg Value.bool ?_, hx8.tr hx26⟩
      first
        | rfl
        | (simp only [decide_eq_false_iff_not] at g44
           rw [Nat.mod_eq_of_lt (show 7 * (vsize a - 1) < 18446744073709551616 by omega)]
           have := vshift1 a (by omega)
           simp only [Bool.or_eq_true, Bool.not_eq_true', decide_eq_true_eq, decide_eq_false_iff_not]; right; omega)
    · skip
      refine WL.g rfl (g44) rfl (o_mv ?_)
      refine WL.g rfl (g44) rfl (o_mv ?_)
      refine WL.g rfl (g44) rfl (o_subi rfl rfl (by omega) ?_)
      refine WL.g rfl (g44) rfl (o_muli rfl rfl (by omega) ?_)
      refine WL.g rfl (g44) rfl (n_cvI (n := 7 * (vsize a - 1)) 18446744073709551616 rfl TI3 TI52 (by decide) (by show Value.int _ (7 * ((vsize a : Int) - 1)) = _; congr 1; omega) ?_)
      refine WL.g rfl (g44) rfl (n_shr 18446744073709551616 rfl (by decide) rfl rfl (by omega) ?_)
      refine WL.g rfl (g44) rfl (o_ne rfl rfl ?_)
      refine WL.c rfl (o_pickO rfl rfl ?_)
      refine WL.c rfl (o_as ?_)
      refine WL.nil ?_
      refine W.ret ?_
      refine ret1v rfl (show _ = Value.bool _ from rfl) ?_
      refine ⟨congrArg Value.bool ?_, hx8.tr hx26⟩
      first
        | rfl
        | (simp only [decide_eq_false_iff_not] at g44
           rw [Nat.mod_eq_of_lt (show 7 * (vsize a - 1) < 18446744073709551616 by omega)]
           have := vshift1 a (by omega)
           simp only [Bool.or_eq_true, Bool.not_eq_true', decide_eq_true_eq, decide_eq_false_iff_not]; right; omega)
end Go.Proofs.Ytieldjpbempkcaa
