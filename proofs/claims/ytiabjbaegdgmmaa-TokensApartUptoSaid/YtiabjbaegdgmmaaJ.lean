/-
  Walks. Written by program out of specs of mine.
-/
import Derived.Test.YtiabjbaegdgmmaaI
set_option linter.unusedSimpArgs false
set_option linter.unusedVariables false
namespace Go.Proofs.Ytiabjbaegdgmmaa
open Go Go.Vc Go.RowKit Go.Proofs

def oneR (xs : List UInt8) (k : Nat) (h : k < xs.length) : Tk := if (oneL xs k h).1 = 0 then (oneL xs k h).2 else ⟨0, [], 0, 0, 0⟩

theorem rone_spec (xs : List UInt8) (k : Nat) (hk : k < xs.length) (w0 : World) (hlen : xs.length ≤ 9223372036854775807) : Ca Try.prog 29 #[st xs, .int .i64 (k : Int)] w0 (fun v w' => v = .tuple #[.agg (tokV (oneR xs k hk)), .int .i64 ((oneL xs k hk).1 : Int)] ∧ Ext w0 w') := by
  refine Ca.of Try.func29 Try.ntmps29 rfl rfl ?_
  refine W.seq ?_
  refine W.region ?_
  refine WL.c rfl (o_alB TI33 ?_)
  intro w4 hB4 hx4 hs4
  refine WL.c rfl (o_as ?_)
  refine WL.nil ?_
  refine W.seq ?_
  refine W.region ?_
  refine WL.c rfl (o_mv ?_)
  refine WL.c rfl (o_mv ?_)
  refine WL.c rfl (o_idT TI9 rfl rfl (hk) ?_)
  refine WL.c rfl (o_as ?_)
  refine WL.nil ?_
  refine W.seq ?_
  refine W.region ?_
  refine WL.c rfl (o_mv ?_)
  refine WL.c rfl (o_addi rfl rfl (by omega) ?_)
  refine WL.c rfl (o_as ?_)
  refine WL.nil ?_
  refine W.seq ?_
  refine W.block ?_
  refine W.seq ?_
  refine W.region ?_
  refine WL.c rfl (o_mv ?_)
  refine WL.c rfl (o_call Try.call24 (lc rfl ln) ((rletter_spec xs[k] _).mono ?_))
  rintro v17 w17 ⟨rfl, rfl⟩
  refine WL.c rfl (o_as ?_)
  refine WL.nil ?_
  refine W.cond rfl (fun c15 => ?_) (fun c15 => ?_)
  · try simp only [decide_eq_true_eq, decide_eq_false_iff_not, Bool.not_eq_true', Bool.not_eq_false', Bool.and_eq_true, Bool.or_eq_true, Bool.and_eq_false_iff, Bool.or_eq_false_iff] at c15
    refine W.seq ?_
    refine W.block ?_
    refine W.loop (fun e w => ∃ j : Nat, k + 1 ≤ j ∧ j ≤ xs.length ∧ e 0 = st xs ∧ e 1 = .int .i64 (k : Int) ∧ e 4 = .pointer (some ⟨w0.heap.size, 0, none⟩) ∧ e 7 = .int .i64 (j : Int) ∧ runL goeB xs k = runL goeB xs j ∧ w.heap[w0.heap.size]? = some (.cells (tokV ⟨0, [], 0, 0, 0⟩) 33 (0, 0)) ∧ Ext w0 w) (fun e w => xs.length - (intOf (e 7)).toNat) ?_ ?_
    · exact ⟨k + 1, Nat.le_refl _, hk, rfl, rfl, rfl, rfl, runL_go hk (by simp [goeB, c15]), hB4, hx4⟩
    rintro e w ⟨j, hj1, hj, h0, h1, h4, h7, hr, hB4, hx4⟩
    refine W.seq ?_
    refine W.seq ?_
    rcases runL_cases goeB xs j hj with ⟨hj2, hpj⟩ | ⟨hj2, hpj⟩ | hj2
    · skip
      refine W.region ?_
      refine WL.c rfl (o_mvh h7 ?_)
      refine WL.c rfl (o_mvh h0 ?_)
      refine WL.c rfl (o_lenT TI9 rfl ?_)
      refine WL.c rfl (o_lt rfl rfl ?_)
      refine WL.c rfl (o_mv ?_)
      refine WL.g rfl (by simp; omega) rfl (o_mvh h0 ?_)
      refine WL.g rfl (by simp; omega) rfl (o_mvh h7 ?_)
      refine WL.g rfl (by simp; omega) rfl (o_idT TI9 rfl rfl (by omega) ?_)
      refine WL.g rfl (by simp; omega) rfl (o_call Try.call25 (lc rfl ln) ((rgoes_spec xs[j] _).mono ?_))
      rintro v26 w26 ⟨rfl, rfl⟩
      refine WL.c rfl (o_pickA rfl rfl ?_)
      refine WL.nil ?_
      refine W.condT' rfl (by simp [hpj]; omega) ?_
      refine W.skip ?_
      refine W.block ?_
      refine W.region ?_
      refine WL.c rfl (o_mvh h7 ?_)
      refine WL.c rfl (o_addi rfl rfl (by omega) ?_)
      refine WL.c rfl (o_as ?_)
      refine WL.nil ?_
      refine ⟨⟨j + 1, by omega, by omega, h0, h1, h4, rfl, by rw [hr]; exact runL_go hj2 hpj, hB4, hx4⟩, ?_⟩
      show xs.length - ((j : Int) + 1).toNat < _
      rw [h7]; simp [intOf]; omega
    · skip
      rw [runL_stop hj2 hpj] at hr
      refine W.region ?_
      refine WL.c rfl (o_mvh h7 ?_)
      refine WL.c rfl (o_mvh h0 ?_)
      refine WL.c rfl (o_lenT TI9 rfl ?_)
      refine WL.c rfl (o_lt rfl rfl ?_)
      refine WL.c rfl (o_mv ?_)
      refine WL.g rfl (by simp; omega) rfl (o_mvh h0 ?_)
      refine WL.g rfl (by simp; omega) rfl (o_mvh h7 ?_)
      refine WL.g rfl (by simp; omega) rfl (o_idT TI9 rfl rfl (by omega) ?_)
      refine WL.g rfl (by simp; omega) rfl (o_call Try.call25 (lc rfl ln) ((rgoes_spec xs[j] _).mono ?_))
      rintro v26 w26 ⟨rfl, rfl⟩
      refine WL.c rfl (o_pickA rfl rfl ?_)
      refine WL.nil ?_
      refine W.condF' rfl (by simp [hpj]) ?_
      refine W.exit ?_
      refine W.seq ?_
      refine W.seq ?_
      refine W.region ?_
      refine WL.c rfl (o_mvh h7 ?_)
      refine WL.c rfl (o_mvh h1 ?_)
      refine WL.c rfl (o_subi rfl rfl (by omega) ?_)
      refine WL.c rfl (o_gt rfl rfl ?_)
      refine WL.nil ?_
      refine W.cond rfl (fun c33 => ?_) (fun c33 => ?_)
      · try simp only [decide_eq_true_eq, decide_eq_false_iff_not, Bool.not_eq_true', Bool.not_eq_false', Bool.and_eq_true, Bool.or_eq_true, Bool.and_eq_false_iff, Bool.or_eq_false_iff] at c33
        refine W.seq ?_
        refine W.region ?_
        refine WL.c rfl (o_bldC (cs := [(.int .i64 0), (.string ⟨#[]⟩), (.int .i64 0), (.int .i64 0), (.int .i64 0)]) TI33 (Sizes.cons TI3 (Sizes.cons TI9 (Sizes.cons TI3 (Sizes.cons TI3 (Sizes.cons TI3 Sizes.nil))))) rfl lnp rfl rfl ?_)
        refine WL.u (o_stA TI33 h4 rfl rfl rfl hB4 rfl ?_)
        intro wE hE hoE hsE
        have hxE := Ext.own hx4 (Nat.le_refl _) hoE
        refine WL.c rfl (o_as ?_)
        refine WL.nil ?_
        refine W.ret ?_
        refine retCT rfl TI33 rfl (show _ = Value.int _ _ from rfl) h4 (cells_all hE) rfl ?_
        have ho : oneL xs k hk = (52, ⟨1, [], 0, k, runL goeB xs k⟩) := by unfold oneL; rw [if_pos c15, if_pos (by omega)]
        exact ⟨by rw [oneR, ho]; rfl, hxE⟩
      · try simp only [decide_eq_true_eq, decide_eq_false_iff_not, Bool.not_eq_true', Bool.not_eq_false', Bool.and_eq_true, Bool.or_eq_true, Bool.and_eq_false_iff, Bool.or_eq_false_iff] at c33
        refine W.skip ?_
        refine W.seq ?_
        refine W.region ?_
        refine WL.c rfl (o_mvh h0 ?_)
        refine WL.c rfl (o_mvh h1 ?_)
        refine WL.c rfl (o_mvh h7 ?_)
        refine WL.c rfl (o_ssT TI9 rfl (Lo.s rfl) (Hi.s rfl) (by omega) (by omega) ?_)
        refine WL.c rfl (o_mvh h1 ?_)
        refine WL.c rfl (o_mvh h7 ?_)
        refine WL.c rfl (o_bldC (cs := [(.int .i64 1), _, (.int .i64 0), _, _]) TI33 (Sizes.cons TI3 (Sizes.cons TI9 (Sizes.cons TI3 (Sizes.cons TI3 (Sizes.cons TI3 Sizes.nil))))) rfl (lcp (show _ = Value.int _ _ from rfl) (lcp (show _ = Value.string _ from rfl) (lcp (show _ = Value.int _ _ from rfl) (lcp (show _ = Value.int _ _ from rfl) lnp)))) rfl rfl ?_)
        refine WL.u (o_stA TI33 h4 rfl rfl rfl hB4 rfl ?_)
        intro wE hE hoE hsE
        have hxE := Ext.own hx4 (Nat.le_refl _) hoE
        refine WL.c rfl (o_as ?_)
        refine WL.nil ?_
        refine W.ret ?_
        refine retCT rfl TI33 rfl (show _ = Value.int _ _ from rfl) h4 (cells_all hE) rfl ?_
        have ho : oneL xs k hk = (0, ⟨1, sub xs k (runL goeB xs k), 0, k, runL goeB xs k⟩) := by unfold oneL; rw [if_pos c15, if_neg (by omega)]
        exact ⟨by rw [oneR, ho, hr]; rfl, hxE⟩
    · skip
      rw [runL_end (k := j) (by omega)] at hr
      refine W.region ?_
      refine WL.c rfl (o_mvh h7 ?_)
      refine WL.c rfl (o_mvh h0 ?_)
      refine WL.c rfl (o_lenT TI9 rfl ?_)
      refine WL.c rfl (o_lt rfl rfl ?_)
      refine WL.c rfl (o_mv ?_)
      refine WL.s rfl (by simp; omega) rfl ?_
      refine WL.s rfl (by simp; omega) rfl ?_
      refine WL.s rfl (by simp; omega) rfl ?_
      refine WL.s rfl (by simp; omega) rfl ?_
      refine WL.c rfl (o_pickF rfl (by simp; omega) ?_)
      refine WL.nil ?_
      refine W.condF' rfl (rfl) ?_
      refine W.exit ?_
      refine W.seq ?_
      refine W.seq ?_
      refine W.region ?_
      refine WL.c rfl (o_mvh h7 ?_)
      refine WL.c rfl (o_mvh h1 ?_)
      refine WL.c rfl (o_subi rfl rfl (by omega) ?_)
      refine WL.c rfl (o_gt rfl rfl ?_)
      refine WL.nil ?_
      refine W.cond rfl (fun c33 => ?_) (fun c33 => ?_)
      · try simp only [decide_eq_true_eq, decide_eq_false_iff_not, Bool.not_eq_true', Bool.not_eq_false', Bool.and_eq_true, Bool.or_eq_true, Bool.and_eq_false_iff, Bool.or_eq_false_iff] at c33
        refine W.seq ?_
        refine W.region ?_
        refine WL.c rfl (o_bldC (cs := [(.int .i64 0), (.string ⟨#[]⟩), (.int .i64 0), (.int .i64 0), (.int .i64 0)]) TI33 (Sizes.cons TI3 (Sizes.cons TI9 (Sizes.cons TI3 (Sizes.cons TI3 (Sizes.cons TI3 Sizes.nil))))) rfl lnp rfl rfl ?_)
        refine WL.u (o_stA TI33 h4 rfl rfl rfl hB4 rfl ?_)
        intro wE hE hoE hsE
        have hxE := Ext.own hx4 (Nat.le_refl _) hoE
        refine WL.c rfl (o_as ?_)
        refine WL.nil ?_
        refine W.ret ?_
        refine retCT rfl TI33 rfl (show _ = Value.int _ _ from rfl) h4 (cells_all hE) rfl ?_
        have ho : oneL xs k hk = (52, ⟨1, [], 0, k, runL goeB xs k⟩) := by unfold oneL; rw [if_pos c15, if_pos (by omega)]
        exact ⟨by rw [oneR, ho]; rfl, hxE⟩
      · try simp only [decide_eq_true_eq, decide_eq_false_iff_not, Bool.not_eq_true', Bool.not_eq_false', Bool.and_eq_true, Bool.or_eq_true, Bool.and_eq_false_iff, Bool.or_eq_false_iff] at c33
        refine W.skip ?_
        refine W.seq ?_
        refine W.region ?_
        refine WL.c rfl (o_mvh h0 ?_)
        refine WL.c rfl (o_mvh h1 ?_)
        refine WL.c rfl (o_mvh h7 ?_)
        refine WL.c rfl (o_ssT TI9 rfl (Lo.s rfl) (Hi.s rfl) (by omega) (by omega) ?_)
        refine WL.c rfl (o_mvh h1 ?_)
        refine WL.c rfl (o_mvh h7 ?_)
        refine WL.c rfl (o_bldC (cs := [(.int .i64 1), _, (.int .i64 0), _, _]) TI33 (Sizes.cons TI3 (Sizes.cons TI9 (Sizes.cons TI3 (Sizes.cons TI3 (Sizes.cons TI3 Sizes.nil))))) rfl (lcp (show _ = Value.int _ _ from rfl) (lcp (show _ = Value.string _ from rfl) (lcp (show _ = Value.int _ _ from rfl) (lcp (show _ = Value.int _ _ from rfl) lnp)))) rfl rfl ?_)
        refine WL.u (o_stA TI33 h4 rfl rfl rfl hB4 rfl ?_)
        intro wE hE hoE hsE
        have hxE := Ext.own hx4 (Nat.le_refl _) hoE
        refine WL.c rfl (o_as ?_)
        refine WL.nil ?_
        refine W.ret ?_
        refine retCT rfl TI33 rfl (show _ = Value.int _ _ from rfl) h4 (cells_all hE) rfl ?_
        have ho : oneL xs k hk = (0, ⟨1, sub xs k (runL goeB xs k), 0, k, runL goeB xs k⟩) := by unfold oneL; rw [if_pos c15, if_neg (by omega)]
        exact ⟨by rw [oneR, ho, hr]; rfl, hxE⟩
  · try simp only [decide_eq_true_eq, decide_eq_false_iff_not, Bool.not_eq_true', Bool.not_eq_false', Bool.and_eq_true, Bool.or_eq_true, Bool.and_eq_false_iff, Bool.or_eq_false_iff] at c15
    refine W.seq ?_
    refine W.region ?_
    refine WL.c rfl (o_mv ?_)
    refine WL.c rfl (o_call Try.call31 (lc rfl ln) ((rdigit_spec xs[k] _).mono ?_))
    rintro v44 w44 ⟨rfl, rfl⟩
    refine WL.c rfl (o_as ?_)
    refine WL.nil ?_
    refine W.cond rfl (fun c42 => ?_) (fun c42 => ?_)
    · try simp only [decide_eq_true_eq, decide_eq_false_iff_not, Bool.not_eq_true', Bool.not_eq_false', Bool.and_eq_true, Bool.or_eq_true, Bool.and_eq_false_iff, Bool.or_eq_false_iff] at c42
      refine W.seq ?_
      refine W.block ?_
      refine W.loop (fun e w => ∃ j : Nat, k + 1 ≤ j ∧ j ≤ xs.length ∧ e 0 = st xs ∧ e 1 = .int .i64 (k : Int) ∧ e 4 = .pointer (some ⟨w0.heap.size, 0, none⟩) ∧ e 7 = .int .i64 (j : Int) ∧ runL digB xs k = runL digB xs j ∧ w.heap[w0.heap.size]? = some (.cells (tokV ⟨0, [], 0, 0, 0⟩) 33 (0, 0)) ∧ Ext w0 w) (fun e w => xs.length - (intOf (e 7)).toNat) ?_ ?_
      · exact ⟨k + 1, Nat.le_refl _, hk, rfl, rfl, rfl, rfl, runL_go hk (by exact c42), hB4, hx4⟩
      rintro e w ⟨j, hj1, hj, h0, h1, h4, h7, hr, hB4, hx4⟩
      refine W.seq ?_
      refine W.seq ?_
      rcases runL_cases digB xs j hj with ⟨hj2, hpj⟩ | ⟨hj2, hpj⟩ | hj2
      · skip
        refine W.region ?_
        refine WL.c rfl (o_mvh h7 ?_)
        refine WL.c rfl (o_mvh h0 ?_)
        refine WL.c rfl (o_lenT TI9 rfl ?_)
        refine WL.c rfl (o_lt rfl rfl ?_)
        refine WL.c rfl (o_mv ?_)
        refine WL.g rfl (by simp; omega) rfl (o_mvh h0 ?_)
        refine WL.g rfl (by simp; omega) rfl (o_mvh h7 ?_)
        refine WL.g rfl (by simp; omega) rfl (o_idT TI9 rfl rfl (by omega) ?_)
        refine WL.g rfl (by simp; omega) rfl (o_call Try.call31 (lc rfl ln) ((rdigit_spec xs[j] _).mono ?_))
        rintro v53 w53 ⟨rfl, rfl⟩
        refine WL.c rfl (o_pickA rfl rfl ?_)
        refine WL.nil ?_
        refine W.condT' rfl (by simp [hpj]; omega) ?_
        refine W.skip ?_
        refine W.block ?_
        refine W.region ?_
        refine WL.c rfl (o_mvh h7 ?_)
        refine WL.c rfl (o_addi rfl rfl (by omega) ?_)
        refine WL.c rfl (o_as ?_)
        refine WL.nil ?_
        refine ⟨⟨j + 1, by omega, by omega, h0, h1, h4, rfl, by rw [hr]; exact runL_go hj2 hpj, hB4, hx4⟩, ?_⟩
        show xs.length - ((j : Int) + 1).toNat < _
        rw [h7]; simp [intOf]; omega
      · skip
        rw [runL_stop hj2 hpj] at hr
        refine W.region ?_
        refine WL.c rfl (o_mvh h7 ?_)
        refine WL.c rfl (o_mvh h0 ?_)
        refine WL.c rfl (o_lenT TI9 rfl ?_)
        refine WL.c rfl (o_lt rfl rfl ?_)
        refine WL.c rfl (o_mv ?_)
        refine WL.g rfl (by simp; omega) rfl (o_mvh h0 ?_)
        refine WL.g rfl (by simp; omega) rfl (o_mvh h7 ?_)
        refine WL.g rfl (by simp; omega) rfl (o_idT TI9 rfl rfl (by omega) ?_)
        refine WL.g rfl (by simp; omega) rfl (o_call Try.call31 (lc rfl ln) ((rdigit_spec xs[j] _).mono ?_))
        rintro v53 w53 ⟨rfl, rfl⟩
        refine WL.c rfl (o_pickA rfl rfl ?_)
        refine WL.nil ?_
        refine W.condF' rfl (by simp [hpj]) ?_
        refine W.exit ?_
        refine W.seq ?_
        refine W.region ?_
        refine WL.c rfl (o_mvh h0 ?_)
        refine WL.c rfl (o_mvh h1 ?_)
        refine WL.c rfl (o_mvh h7 ?_)
        refine WL.c rfl (o_ssT TI9 rfl (Lo.s rfl) (Hi.s rfl) (by omega) (by omega) ?_)
        refine WL.c rfl (o_call Try.call34 (lc rfl ln) ((rnumber_spec (sub xs k j) _ (by have := sub_len xs k j; omega) (by rw [← hr, sub_run]; exact takeWhile_all digB _)).mono ?_))
        rintro v62 w62 ⟨n, b, rfl, hnum, rfl⟩
        refine WL.c rfl (o_mv ?_)
        refine WL.c rfl (o_ext rfl rfl ?_)
        refine WL.c rfl (o_ext rfl rfl ?_)
        refine WL.c rfl (o_as ?_)
        refine WL.c rfl (o_as ?_)
        refine WL.nil ?_
        refine W.seq ?_
        refine W.seq ?_
        refine W.region ?_
        refine WL.c rfl (o_mv ?_)
        refine WL.c rfl (o_not' rfl ?_)
        refine WL.nil ?_
        refine W.cond rfl (fun c66 => ?_) (fun c66 => ?_)
        · try simp only [decide_eq_true_eq, decide_eq_false_iff_not, Bool.not_eq_true', Bool.not_eq_false', Bool.and_eq_true, Bool.or_eq_true, Bool.and_eq_false_iff, Bool.or_eq_false_iff] at c66
          refine W.seq ?_
          refine W.region ?_
          refine WL.c rfl (o_bldC (cs := [(.int .i64 0), (.string ⟨#[]⟩), (.int .i64 0), (.int .i64 0), (.int .i64 0)]) TI33 (Sizes.cons TI3 (Sizes.cons TI9 (Sizes.cons TI3 (Sizes.cons TI3 (Sizes.cons TI3 Sizes.nil))))) rfl lnp rfl rfl ?_)
          refine WL.u (o_stA TI33 h4 rfl rfl rfl hB4 rfl ?_)
          intro wE hE hoE hsE
          have hxE := Ext.own hx4 (Nat.le_refl _) hoE
          refine WL.c rfl (o_as ?_)
          refine WL.nil ?_
          refine W.ret ?_
          refine retCT rfl TI33 rfl (show _ = Value.int _ _ from rfl) h4 (cells_all hE) rfl ?_
          rw [c66] at hnum
          have ho : oneL xs k hk = (51, ⟨2, [], 0, k, runL digB xs k⟩) := by unfold oneL; rw [if_neg (by simp [c15]), if_pos c42, hr, hnum]; rfl
          exact ⟨by rw [oneR, ho]; rfl, hxE⟩
        · try simp only [decide_eq_true_eq, decide_eq_false_iff_not, Bool.not_eq_true', Bool.not_eq_false', Bool.and_eq_true, Bool.or_eq_true, Bool.and_eq_false_iff, Bool.or_eq_false_iff] at c66
          refine W.skip ?_
          refine W.seq ?_
          refine W.region ?_
          refine WL.c rfl (o_mv ?_)
          refine WL.c rfl (o_mvh h1 ?_)
          refine WL.c rfl (o_mvh h7 ?_)
          refine WL.c rfl (o_bldC (cs := [(.int .i64 2), (.string ⟨#[]⟩), _, _, _]) TI33 (Sizes.cons TI3 (Sizes.cons TI9 (Sizes.cons TI3 (Sizes.cons TI3 (Sizes.cons TI3 Sizes.nil))))) rfl (lcp (show _ = Value.int _ _ from rfl) (lcp (show _ = Value.int _ _ from rfl) (lcp (show _ = Value.int _ _ from rfl) (lcp (show _ = Value.int _ _ from rfl) lnp)))) rfl rfl ?_)
          refine WL.u (o_stA TI33 h4 rfl rfl rfl hB4 rfl ?_)
          intro wE hE hoE hsE
          have hxE := Ext.own hx4 (Nat.le_refl _) hoE
          refine WL.c rfl (o_as ?_)
          refine WL.nil ?_
          refine W.ret ?_
          refine retCT rfl TI33 rfl (show _ = Value.int _ _ from rfl) h4 (cells_all hE) rfl ?_
          rw [c66] at hnum
          have ho : oneL xs k hk = (0, ⟨2, [], n, k, runL digB xs k⟩) := by unfold oneL; rw [if_neg (by simp [c15]), if_pos c42, hr, hnum]; rfl
          exact ⟨by rw [oneR, ho, hr]; rfl, hxE⟩
      · skip
        rw [runL_end (k := j) (by omega)] at hr
        refine W.region ?_
        refine WL.c rfl (o_mvh h7 ?_)
        refine WL.c rfl (o_mvh h0 ?_)
        refine WL.c rfl (o_lenT TI9 rfl ?_)
        refine WL.c rfl (o_lt rfl rfl ?_)
        refine WL.c rfl (o_mv ?_)
        refine WL.s rfl (by simp; omega) rfl ?_
        refine WL.s rfl (by simp; omega) rfl ?_
        refine WL.s rfl (by simp; omega) rfl ?_
        refine WL.s rfl (by simp; omega) rfl ?_
        refine WL.c rfl (o_pickF rfl (by simp; omega) ?_)
        refine WL.nil ?_
        refine W.condF' rfl (rfl) ?_
        refine W.exit ?_
        refine W.seq ?_
        refine W.region ?_
        refine WL.c rfl (o_mvh h0 ?_)
        refine WL.c rfl (o_mvh h1 ?_)
        refine WL.c rfl (o_mvh h7 ?_)
        refine WL.c rfl (o_ssT TI9 rfl (Lo.s rfl) (Hi.s rfl) (by omega) (by omega) ?_)
        refine WL.c rfl (o_call Try.call34 (lc rfl ln) ((rnumber_spec (sub xs k j) _ (by have := sub_len xs k j; omega) (by rw [← hr, sub_run]; exact takeWhile_all digB _)).mono ?_))
        rintro v62 w62 ⟨n, b, rfl, hnum, rfl⟩
        refine WL.c rfl (o_mv ?_)
        refine WL.c rfl (o_ext rfl rfl ?_)
        refine WL.c rfl (o_ext rfl rfl ?_)
        refine WL.c rfl (o_as ?_)
        refine WL.c rfl (o_as ?_)
        refine WL.nil ?_
        refine W.seq ?_
        refine W.seq ?_
        refine W.region ?_
        refine WL.c rfl (o_mv ?_)
        refine WL.c rfl (o_not' rfl ?_)
        refine WL.nil ?_
        refine W.cond rfl (fun c66 => ?_) (fun c66 => ?_)
        · try simp only [decide_eq_true_eq, decide_eq_false_iff_not, Bool.not_eq_true', Bool.not_eq_false', Bool.and_eq_true, Bool.or_eq_true, Bool.and_eq_false_iff, Bool.or_eq_false_iff] at c66
          refine W.seq ?_
          refine W.region ?_
          refine WL.c rfl (o_bldC (cs := [(.int .i64 0), (.string ⟨#[]⟩), (.int .i64 0), (.int .i64 0), (.int .i64 0)]) TI33 (Sizes.cons TI3 (Sizes.cons TI9 (Sizes.cons TI3 (Sizes.cons TI3 (Sizes.cons TI3 Sizes.nil))))) rfl lnp rfl rfl ?_)
          refine WL.u (o_stA TI33 h4 rfl rfl rfl hB4 rfl ?_)
          intro wE hE hoE hsE
          have hxE := Ext.own hx4 (Nat.le_refl _) hoE
          refine WL.c rfl (o_as ?_)
          refine WL.nil ?_
          refine W.ret ?_
          refine retCT rfl TI33 rfl (show _ = Value.int _ _ from rfl) h4 (cells_all hE) rfl ?_
          rw [c66] at hnum
          have ho : oneL xs k hk = (51, ⟨2, [], 0, k, runL digB xs k⟩) := by unfold oneL; rw [if_neg (by simp [c15]), if_pos c42, hr, hnum]; rfl
          exact ⟨by rw [oneR, ho]; rfl, hxE⟩
        · try simp only [decide_eq_true_eq, decide_eq_false_iff_not, Bool.not_eq_true', Bool.not_eq_false', Bool.and_eq_true, Bool.or_eq_true, Bool.and_eq_false_iff, Bool.or_eq_false_iff] at c66
          refine W.skip ?_
          refine W.seq ?_
          refine W.region ?_
          refine WL.c rfl (o_mv ?_)
          refine WL.c rfl (o_mvh h1 ?_)
          refine WL.c rfl (o_mvh h7 ?_)
          refine WL.c rfl (o_bldC (cs := [(.int .i64 2), (.string ⟨#[]⟩), _, _, _]) TI33 (Sizes.cons TI3 (Sizes.cons TI9 (Sizes.cons TI3 (Sizes.cons TI3 (Sizes.cons TI3 Sizes.nil))))) rfl (lcp (show _ = Value.int _ _ from rfl) (lcp (show _ = Value.int _ _ from rfl) (lcp (show _ = Value.int _ _ from rfl) (lcp (show _ = Value.int _ _ from rfl) lnp)))) rfl rfl ?_)
          refine WL.u (o_stA TI33 h4 rfl rfl rfl hB4 rfl ?_)
          intro wE hE hoE hsE
          have hxE := Ext.own hx4 (Nat.le_refl _) hoE
          refine WL.c rfl (o_as ?_)
          refine WL.nil ?_
          refine W.ret ?_
          refine retCT rfl TI33 rfl (show _ = Value.int _ _ from rfl) h4 (cells_all hE) rfl ?_
          rw [c66] at hnum
          have ho : oneL xs k hk = (0, ⟨2, [], n, k, runL digB xs k⟩) := by unfold oneL; rw [if_neg (by simp [c15]), if_pos c42, hr, hnum]; rfl
          exact ⟨by rw [oneR, ho, hr]; rfl, hxE⟩
    · try simp only [decide_eq_true_eq, decide_eq_false_iff_not, Bool.not_eq_true', Bool.not_eq_false', Bool.and_eq_true, Bool.or_eq_true, Bool.and_eq_false_iff, Bool.or_eq_false_iff] at c42
      refine W.seq ?_
      refine W.region ?_
      refine WL.c rfl (o_mv ?_)
      refine WL.c rfl (o_call Try.call35 (lc rfl ln) ((rmark_spec xs[k] _).mono ?_))
      rintro v74 w74 ⟨rfl, rfl⟩
      refine WL.c rfl (o_as ?_)
      refine WL.nil ?_
      refine W.cond rfl (fun c72 => ?_) (fun c72 => ?_)
      · try simp only [decide_eq_true_eq, decide_eq_false_iff_not, Bool.not_eq_true', Bool.not_eq_false', Bool.and_eq_true, Bool.or_eq_true, Bool.and_eq_false_iff, Bool.or_eq_false_iff] at c72
        refine W.seq ?_
        refine W.region ?_
        refine WL.c rfl (o_mv ?_)
        refine WL.c rfl (o_mv ?_)
        refine WL.c rfl (o_mv ?_)
        refine WL.c rfl (o_ssT TI9 rfl (Lo.s rfl) (Hi.s rfl) (by show k ≤ k + 1; omega) (by show k + 1 ≤ _; omega) ?_)
        refine WL.c rfl (o_mv ?_)
        refine WL.c rfl (o_mv ?_)
        refine WL.c rfl (o_bldC (cs := [(.int .i64 3), _, (.int .i64 0), _, _]) TI33 (Sizes.cons TI3 (Sizes.cons TI9 (Sizes.cons TI3 (Sizes.cons TI3 (Sizes.cons TI3 Sizes.nil))))) rfl (lcp (show _ = Value.int _ _ from rfl) (lcp (show _ = Value.string _ from rfl) (lcp (show _ = Value.int _ _ from rfl) (lcp (show _ = Value.int _ _ from rfl) lnp)))) rfl rfl ?_)
        refine WL.u (o_stA TI33 rfl rfl rfl rfl hB4 rfl ?_)
        intro wE hE hoE hsE
        have hxE := Ext.own hx4 (Nat.le_refl _) hoE
        refine WL.c rfl (o_as ?_)
        refine WL.nil ?_
        refine W.ret ?_
        refine retCT rfl TI33 rfl (show _ = Value.int _ _ from rfl) rfl (cells_all hE) rfl ?_
        have ho : oneL xs k hk = (0, ⟨3, sub xs k (k + 1), 0, k, k + 1⟩) := by unfold oneL; rw [if_neg (by simp [c15]), if_neg (by simp [c42]), if_pos c72]
        exact ⟨by rw [oneR, ho]; rfl, hxE⟩
      · try simp only [decide_eq_true_eq, decide_eq_false_iff_not, Bool.not_eq_true', Bool.not_eq_false', Bool.and_eq_true, Bool.or_eq_true, Bool.and_eq_false_iff, Bool.or_eq_false_iff] at c72
        refine W.skip ?_
        refine W.seq ?_
        refine W.region ?_
        refine WL.c rfl (o_bldC (cs := [(.int .i64 0), (.string ⟨#[]⟩), (.int .i64 0), (.int .i64 0), (.int .i64 0)]) TI33 (Sizes.cons TI3 (Sizes.cons TI9 (Sizes.cons TI3 (Sizes.cons TI3 (Sizes.cons TI3 Sizes.nil))))) rfl lnp rfl rfl ?_)
        refine WL.u (o_stA TI33 rfl rfl rfl rfl hB4 rfl ?_)
        intro wE hE hoE hsE
        have hxE := Ext.own hx4 (Nat.le_refl _) hoE
        refine WL.c rfl (o_as ?_)
        refine WL.nil ?_
        refine W.ret ?_
        refine retCT rfl TI33 rfl (show _ = Value.int _ _ from rfl) rfl (cells_all hE) rfl ?_
        have ho : oneL xs k hk = (50, ⟨0, [], 0, k, 0⟩) := by unfold oneL; rw [if_neg (by simp [c15]), if_neg (by simp [c42]), if_neg (by simp [c72])]
        exact ⟨by rw [oneR, ho]; rfl, hxE⟩
end Go.Proofs.Ytiabjbaegdgmmaa
