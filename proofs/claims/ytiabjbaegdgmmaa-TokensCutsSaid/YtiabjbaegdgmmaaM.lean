/-
  Walks. Written by program out of specs of mine.
-/
import Derived.Test.YtiabjbaegdgmmaaL
set_option linter.unusedSimpArgs false
set_option linter.unusedVariables false
namespace Go.Proofs.Ytiabjbaegdgmmaa
open Go Go.Vc Go.RowKit Go.Proofs

theorem int_cases (z : Int) (n : Nat) : (∃ q : Nat, z = (q : Int) ∧ q ≤ n) ∨ z < 0 ∨ (0 ≤ z ∧ (n : Int) < z) := by
  by_cases h1 : z < 0
  · exact .inr (.inl h1)
  · by_cases h2 : (n : Int) < z
    · exact .inr (.inr ⟨by omega, h2⟩)
    · exact .inl ⟨z.toNat, by omega, by omega⟩

theorem tcuts_walk0 (w0 : World) (xs : List UInt8) (hlen : xs.length ≤ 9223372036854775807) (v : Value) (zs : List Int) (hzl : zs.length ≤ 9223372036854775807) (hS : Sl w0 1 v zs.length (zs.map (Value.int .i64))) : Ca Try.prog 3 #[st xs, v] w0 (fun v w' => v = .bool true ∧ Ext w0 w') := by
  refine Ca.of Try.func3 Try.ntmps3 rfl rfl ?_
  refine W.seq ?_
  refine W.region ?_
  refine WL.c rfl (o_as ?_)
  refine WL.nil ?_
  refine W.seq ?_
  refine W.seq ?_
  refine W.region ?_
  refine WL.c rfl (o_call Try.call9 ln ((first_spec _).mono ?_))
  rintro v7 w7 ⟨rfl, hx7⟩
  refine WL.c rfl (o_not' rfl ?_)
  refine WL.c rfl (o_mv ?_)
  refine WL.g rfl (rfl) rfl (o_mv ?_)
  refine WL.g rfl (rfl) rfl (o_call Try.call10 (lc rfl ln) ((cuts_spec xs _ hlen).mono ?_))
  rintro v11 w11 ⟨rfl, hx11⟩
  replace hx11 := hx7.tr hx11
  refine WL.g rfl (rfl) rfl (o_not' rfl ?_)
  refine WL.c rfl (o_pickO rfl rfl ?_)
  refine WL.nil ?_
  refine W.condF' rfl (rfl) ?_
  refine W.skip ?_
  refine W.seq ?_
  refine W.seq ?_
  refine W.region ?_
  refine WL.c rfl (o_as ?_)
  refine WL.nil ?_
  refine W.block ?_
  refine W.loop (fun e w => ∃ k : Nat, k ≤ zs.length ∧ e 0 = st xs ∧ e 1 = v ∧ e 5 = .int .i64 (k : Int) ∧ Ext w0 w) (fun e w => zs.length - (intOf (e 5)).toNat) ?_ ?_
  · exact ⟨0, Nat.zero_le _, rfl, rfl, rfl, hx11⟩
  rintro e w ⟨k, hk, h0, h1, h5, hx⟩
  refine W.seq ?_
  refine W.seq ?_
  by_cases hk1 : k < zs.length
  · skip
    refine W.region ?_
    refine WL.c rfl (o_mvh h5 ?_)
    refine WL.c rfl (o_mvh h1 ?_)
    refine WL.c rfl (o_lenR TI22 rfl (hS.ext hx) ?_)
    refine WL.c rfl (o_lt rfl rfl ?_)
    refine WL.c rfl (o_mv ?_)
    refine WL.g rfl (by simp; omega) rfl (o_mvh h5 ?_)
    refine WL.g rfl (by simp; omega) rfl (o_lt rfl rfl ?_)
    refine WL.c rfl (o_pickA rfl rfl ?_)
    refine WL.nil ?_
    refine W.cond rfl (fun c21 => ?_) (fun c21 => ?_)
    · try simp only [decide_eq_true_eq, decide_eq_false_iff_not, Bool.not_eq_true', Bool.not_eq_false', Bool.and_eq_true, Bool.or_eq_true, Bool.and_eq_false_iff, Bool.or_eq_false_iff] at c21
      refine W.skip ?_
      refine W.seq ?_
      refine W.block ?_
      refine W.seq ?_
      rcases (show (∃ q : Nat, zs[k] = (q : Int) ∧ q ≤ xs.length) ∨ zs[k] < 0 ∨ (0 ≤ zs[k] ∧ (xs.length : Int) < zs[k]) from int_cases _ _) with ⟨q, hq, hql⟩ | hq | hq
      · skip
        have hv : (zs.map (Value.int .i64))[k]? = some (.int .i64 (q : Int)) := by simp [hk1, hq]
        refine W.region ?_
        refine WL.c rfl (o_mvh h1 ?_)
        refine WL.c rfl (o_mvh h5 ?_)
        refine WL.c rfl (o_ix1 TI22 TI3 rfl rfl (hS.ext hx) (by omega) ?_)
        intro b26 o26 hc26 hb26
        refine WL.c rfl (o_ld TI3 rfl rfl (hc26.trans hv) ?_)
        refine WL.c rfl (o_as ?_)
        refine WL.nil ?_
        refine W.seq ?_
        refine W.region ?_
        refine WL.c rfl (o_mv ?_)
        refine WL.c rfl (o_ge rfl rfl ?_)
        refine WL.c rfl (o_mv ?_)
        refine WL.g rfl (by simp) rfl (o_mv ?_)
        refine WL.g rfl (by simp) rfl (o_mvh h0 ?_)
        refine WL.g rfl (by simp) rfl (o_lenT TI9 rfl ?_)
        refine WL.g rfl (by simp) rfl (o_le rfl rfl ?_)
        refine WL.c rfl (o_pickA rfl rfl ?_)
        refine WL.c rfl (o_mv ?_)
        refine WL.g rfl (by simp; omega) rfl (o_mvh h0 ?_)
        refine WL.g rfl (by simp; omega) rfl (o_mv ?_)
        refine WL.g rfl (by simp; omega) rfl (o_ssT TI9 rfl Lo.n (Hi.s rfl) (Nat.zero_le _) (by omega) ?_)
        refine WL.g rfl (by simp; omega) rfl (o_call Try.call10 (lc rfl ln) ((cuts_spec ((xs.take q).drop 0) _ (by simp; omega)).mono ?_))
        rintro v40 w40 ⟨rfl, hx40⟩
        replace hx40 := hx.tr hx40
        refine WL.g rfl (by simp; omega) rfl (o_not' rfl ?_)
        refine WL.c rfl (o_pickA rfl rfl ?_)
        refine WL.nil ?_
        refine W.condF' rfl (by simp) ?_
        refine W.skip ?_
        refine W.region ?_
        refine WL.c rfl (o_mvh h5 ?_)
        refine WL.c rfl (o_addi rfl rfl (by omega) ?_)
        refine WL.c rfl (o_as ?_)
        refine WL.nil ?_
        refine ⟨⟨k + 1, by omega, h0, h1, rfl, by first | exact hx40 | exact hx⟩, ?_⟩
        show zs.length - ((k : Int) + 1).toNat < _
        rw [h5]; simp [intOf]; omega
      · skip
        have hv : (zs.map (Value.int .i64))[k]? = some (.int .i64 zs[k]) := by simp [hk1]
        refine W.region ?_
        refine WL.c rfl (o_mvh h1 ?_)
        refine WL.c rfl (o_mvh h5 ?_)
        refine WL.c rfl (o_ix1 TI22 TI3 rfl rfl (hS.ext hx) (by omega) ?_)
        intro b26 o26 hc26 hb26
        refine WL.c rfl (o_ld TI3 rfl rfl (hc26.trans hv) ?_)
        refine WL.c rfl (o_as ?_)
        refine WL.nil ?_
        refine W.seq ?_
        refine W.region ?_
        refine WL.c rfl (o_mv ?_)
        refine WL.c rfl (o_ge rfl rfl ?_)
        refine WL.c rfl (o_mv ?_)
        refine WL.s rfl (by simp; omega) rfl ?_
        refine WL.s rfl (by simp; omega) rfl ?_
        refine WL.s rfl (by simp; omega) rfl ?_
        refine WL.s rfl (by simp; omega) rfl ?_
        refine WL.c rfl (o_pickF rfl (by simp; omega) ?_)
        refine WL.c rfl (o_mv ?_)
        refine WL.s rfl (rfl) rfl ?_
        refine WL.s rfl (rfl) rfl ?_
        refine WL.s rfl (rfl) rfl ?_
        refine WL.s rfl (rfl) rfl ?_
        refine WL.s rfl (rfl) rfl ?_
        refine WL.c rfl (o_pickF rfl (rfl) ?_)
        refine WL.nil ?_
        refine W.condF' rfl (rfl) ?_
        refine W.skip ?_
        refine W.region ?_
        refine WL.c rfl (o_mvh h5 ?_)
        refine WL.c rfl (o_addi rfl rfl (by omega) ?_)
        refine WL.c rfl (o_as ?_)
        refine WL.nil ?_
        refine ⟨⟨k + 1, by omega, h0, h1, rfl, by first | exact hx40 | exact hx⟩, ?_⟩
        show zs.length - ((k : Int) + 1).toNat < _
        rw [h5]; simp [intOf]; omega
      · skip
        have hv : (zs.map (Value.int .i64))[k]? = some (.int .i64 zs[k]) := by simp [hk1]
        refine W.region ?_
        refine WL.c rfl (o_mvh h1 ?_)
        refine WL.c rfl (o_mvh h5 ?_)
        refine WL.c rfl (o_ix1 TI22 TI3 rfl rfl (hS.ext hx) (by omega) ?_)
        intro b26 o26 hc26 hb26
        refine WL.c rfl (o_ld TI3 rfl rfl (hc26.trans hv) ?_)
        refine WL.c rfl (o_as ?_)
        refine WL.nil ?_
        refine W.seq ?_
        refine W.region ?_
        refine WL.c rfl (o_mv ?_)
        refine WL.c rfl (o_ge rfl rfl ?_)
        refine WL.c rfl (o_mv ?_)
        refine WL.g rfl (by simp; omega) rfl (o_mv ?_)
        refine WL.g rfl (by simp; omega) rfl (o_mvh h0 ?_)
        refine WL.g rfl (by simp; omega) rfl (o_lenT TI9 rfl ?_)
        refine WL.g rfl (by simp; omega) rfl (o_le rfl rfl ?_)
        refine WL.c rfl (o_pickA rfl rfl ?_)
        refine WL.c rfl (o_mv ?_)
        refine WL.s rfl (by simp; omega) rfl ?_
        refine WL.s rfl (by simp; omega) rfl ?_
        refine WL.s rfl (by simp; omega) rfl ?_
        refine WL.s rfl (by simp; omega) rfl ?_
        refine WL.s rfl (by simp; omega) rfl ?_
        refine WL.c rfl (o_pickF rfl (by simp; omega) ?_)
        refine WL.nil ?_
        refine W.condF' rfl (rfl) ?_
        refine W.skip ?_
        refine W.region ?_
        refine WL.c rfl (o_mvh h5 ?_)
        refine WL.c rfl (o_addi rfl rfl (by omega) ?_)
        refine WL.c rfl (o_as ?_)
        refine WL.nil ?_
        refine ⟨⟨k + 1, by omega, h0, h1, rfl, by first | exact hx40 | exact hx⟩, ?_⟩
        show zs.length - ((k : Int) + 1).toNat < _
        rw [h5]; simp [intOf]; omega
    · try simp only [decide_eq_true_eq, decide_eq_false_iff_not, Bool.not_eq_true', Bool.not_eq_false', Bool.and_eq_true, Bool.or_eq_true, Bool.and_eq_false_iff, Bool.or_eq_false_iff] at c21
      refine W.exit ?_
      refine W.seq ?_
      refine W.region ?_
      refine WL.c rfl (o_as ?_)
      refine WL.nil ?_
      refine W.ret ?_
      refine ret1v rfl (show _ = Value.bool _ from rfl) ?_
      exact ⟨rfl, hx⟩
  · skip
    refine W.region ?_
    refine WL.c rfl (o_mvh h5 ?_)
    refine WL.c rfl (o_mvh h1 ?_)
    refine WL.c rfl (o_lenR TI22 rfl (hS.ext hx) ?_)
    refine WL.c rfl (o_lt rfl rfl ?_)
    refine WL.c rfl (o_mv ?_)
    refine WL.s rfl (by simp; omega) rfl ?_
    refine WL.s rfl (by simp; omega) rfl ?_
    refine WL.c rfl (o_pickF rfl (by simp; omega) ?_)
    refine WL.nil ?_
    refine W.condF' rfl (rfl) ?_
    refine W.exit ?_
    refine W.seq ?_
    refine W.region ?_
    refine WL.c rfl (o_as ?_)
    refine WL.nil ?_
    refine W.ret ?_
    refine ret1v rfl (show _ = Value.bool _ from rfl) ?_
    exact ⟨rfl, hx⟩

theorem tcuts_walk (w0 : World) (s : ByteArray) (hs : s.size ≤ maxLen) (v : Value) (zs : List Int) (hzl : zs.length ≤ 9223372036854775807) (hS : Sl w0 1 v zs.length (zs.map (Value.int .i64))) : Ca Try.prog 3 #[.string s, v] w0 (fun v w' => v = .bool true ∧ Ext w0 w') := by
  obtain ⟨⟨xs⟩⟩ := s
  exact tcuts_walk0 w0 xs hs v zs hzl hS

end Go.Proofs.Ytiabjbaegdgmmaa
