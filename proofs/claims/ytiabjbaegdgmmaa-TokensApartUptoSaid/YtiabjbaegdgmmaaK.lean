/-
  Walks. Written by program out of specs of mine.
-/
import Derived.Test.YtiabjbaegdgmmaaJ
set_option linter.unusedSimpArgs false
set_option linter.unusedVariables false
namespace Go.Proofs.Ytiabjbaegdgmmaa
open Go Go.Vc Go.RowKit Go.Proofs
set_option maxHeartbeats 1000000 in
theorem rcut_spec (xs : List UInt8) (w0 : World) (hlen : xs.length ≤ 9223372036854775807) : Ca Try.prog 20 #[st xs] w0 (fun v w' => ∃ v1, v = .tuple #[v1, .int .i64 ((cutA xs).2.1 : Int), .int .i64 ((cutA xs).2.2 : Int)] ∧ w'.ownsRow w0.heap.size 33 5 v1 (cutA xs).1.length (flat (cutA xs).1) ∧ Ext w0 w') := by
  refine Ca.of Try.func20 Try.ntmps20 rfl rfl ?_
  refine W.seq ?_
  refine W.region ?_
  refine WL.c rfl (o_as ?_)
  refine WL.c rfl (o_as ?_)
  refine WL.c rfl (o_as ?_)
  refine WL.nil ?_
  refine W.seq ?_
  refine W.seq ?_
  refine W.region ?_
  refine WL.c rfl (o_mv ?_)
  refine WL.c rfl (o_lenT TI9 rfl ?_)
  refine WL.c rfl (o_gt rfl rfl ?_)
  refine WL.nil ?_
  refine W.cond rfl (fun c13 => ?_) (fun c13 => ?_)
  · try simp only [decide_eq_true_eq, decide_eq_false_iff_not, Bool.not_eq_true', Bool.not_eq_false', Bool.and_eq_true, Bool.or_eq_true, Bool.and_eq_false_iff, Bool.or_eq_false_iff] at c13
    refine W.seq ?_
    refine W.region ?_
    refine WL.c rfl (o_as ?_)
    refine WL.c rfl (o_as ?_)
    refine WL.c rfl (o_as ?_)
    refine WL.nil ?_
    refine W.ret ?_
    refine ret3v rfl rfl (show _ = Value.int _ _ from rfl) (show _ = Value.int _ _ from rfl) ?_
    have ha : cutA xs = ([], 4, 0) := by unfold cutA; rw [if_pos (by omega)]
    rw [ha]; exact ⟨_, rfl, World.ownsRow_nil _ _ _ _, Only.refl No _⟩
  · try simp only [decide_eq_true_eq, decide_eq_false_iff_not, Bool.not_eq_true', Bool.not_eq_false', Bool.and_eq_true, Bool.or_eq_true, Bool.and_eq_false_iff, Bool.or_eq_false_iff] at c13
    refine W.skip ?_
    refine W.seq ?_
    refine W.region ?_
    refine WL.c rfl (o_as ?_)
    refine WL.nil ?_
    refine W.seq ?_
    refine W.region ?_
    refine WL.c rfl (o_as ?_)
    refine WL.nil ?_
    refine W.seq ?_
    refine W.seq ?_
    refine W.region ?_
    refine WL.c rfl (o_as ?_)
    refine WL.nil ?_
    refine W.block ?_
    refine W.loop (fun e w => ∃ (k : Nat) (ts : List Tk) (v5 : Value) (rm : Bool), k ≤ xs.length ∧ ts.length ≤ k ∧ e 0 = st xs ∧ e 5 = v5 ∧ e 6 = .bool rm ∧ e 7 = .int .i64 (k : Int) ∧ w.ownsRow w0.heap.size 33 5 v5 ts.length (flat ts) ∧ cutL xs 0 = (ts ++ (cutL xs (if rm then runL nnlB xs k else k)).1, (cutL xs (if rm then runL nnlB xs k else k)).2) ∧ Ext w0 w) (fun e w => xs.length - (intOf (e 7)).toNat) ?_ ?_
    · exact ⟨0, [], _, false, Nat.zero_le _, Nat.le_refl _, rfl, rfl, rfl, rfl, World.ownsRow_nil _ _ _ _, by simp, Only.refl No _⟩
    rintro e w ⟨k, ts, v5, rm, hk, hts, h0, h5, h6, h7, hown, hcut, hx⟩
    have hm7 := h7
    have hc0 := cutL_eq xs k
    refine W.seq ?_
    refine W.seq ?_
    by_cases hk1 : k < xs.length
    · skip
      rw [dif_pos hk1] at hc0
      have hlen5 : k < 65536 := by omega
      refine W.region ?_
      refine WL.c rfl (o_mvh h7 ?_)
      refine WL.c rfl (o_mvh h0 ?_)
      refine WL.c rfl (o_lenT TI9 rfl ?_)
      refine WL.c rfl (o_lt rfl rfl ?_)
      refine WL.nil ?_
      refine W.condT' rfl (by simp; omega) ?_
      refine W.skip ?_
      refine W.seq ?_
      refine W.block ?_
      refine W.seq ?_
      refine W.region ?_
      refine WL.c rfl (o_mvh h0 ?_)
      refine WL.c rfl (o_mvh h7 ?_)
      refine WL.c rfl (o_idT TI9 rfl rfl (hk1) ?_)
      refine WL.c rfl (o_as ?_)
      refine WL.nil ?_
      refine W.seq ?_
      refine W.seq ?_
      refine W.region ?_
      refine WL.c rfl (o_mvh h6 ?_)
      refine WL.nil ?_
      refine W.cond rfl (fun c23 => ?_) (fun c23 => ?_)
      · try simp only [decide_eq_true_eq, decide_eq_false_iff_not, Bool.not_eq_true', Bool.not_eq_false', Bool.and_eq_true, Bool.or_eq_true, Bool.and_eq_false_iff, Bool.or_eq_false_iff] at c23
        rw [c23] at hcut
        refine W.seq ?_
        refine W.region ?_
        refine WL.c rfl (o_mv ?_)
        refine WL.c rfl (o_ne rfl rfl ?_)
        refine WL.c rfl (o_as ?_)
        refine WL.nil ?_
        refine W.exit ?_
        refine W.region ?_
        refine WL.c rfl (o_mvh h7 ?_)
        refine WL.c rfl (o_addi rfl rfl (by omega) ?_)
        refine WL.c rfl (o_as ?_)
        refine WL.nil ?_
        first
        | (have hA : rm = true := c23
           refine ⟨⟨k + 1, ts, v5, _, by omega, by omega, h0, h5, rfl, rfl, hown, ?_, hx⟩, by show xs.length - ((k : Int) + 1).toNat < _; rw [hm7]; simp [intOf]; omega⟩
           by_cases hc : (xs[k]).toNat = 10
           · have hs := runL_stop (p := nnlB) hk1 (by simp [nnlB, hc])
             rw [if_pos rfl, hs, hc0, if_neg (by omega), if_pos (by simp [blankB, hc])] at hcut
             simpa [hc] using hcut
           · have hg := runL_go (p := nnlB) hk1 (by simp [nnlB, hc])
             rw [if_pos rfl, hg] at hcut
             have hc' : ¬ ((xs[k]).toNat : Int) = 10 := by omega
             simpa [hc'] using hcut)
        | (have hB : blankB xs[k] = true := c27
           refine ⟨⟨k + 1, ts, v5, false, by omega, by omega, h0, h5, h6.trans (congrArg Value.bool c23), rfl, hown, ?_, hx⟩, by show xs.length - ((k : Int) + 1).toNat < _; rw [hm7]; simp [intOf]; omega⟩
           have hn : ¬ (xs[k]).toNat = 35 := by simp [blankB] at hB; omega
           rw [hc0, if_neg hn, if_pos hB] at hcut
           exact hcut)
        | (have hD := hfin
           refine ⟨⟨(oneL xs k hk1).2.fin, ts ++ [(oneL xs k hk1).2], v43, false, by omega, by simp; omega, h0, rfl, h6.trans (congrArg Value.bool c23), (by show Value.int .i64 ((((oneL xs k hk1).2.fin : Nat) : Int) - 1 + 1) = _; congr 1; omega), by rw [List.length_append]; exact hown43, ?_, hx43⟩, by show xs.length - ((((oneL xs k hk1).2.fin : Nat) : Int) - 1 + 1).toNat < _; rw [hm7]; simp [intOf]; omega⟩
           rw [hc0] at hcut
           rw [hcut]; simp)
        | (have hC : (xs[k]).toNat = 35 := by omega
           refine ⟨⟨k + 1, ts, v5, true, by omega, by omega, h0, h5, rfl, rfl, hown, ?_, hx⟩, by show xs.length - ((k : Int) + 1).toNat < _; rw [hm7]; simp [intOf]; omega⟩
           rw [hc0, if_pos hC] at hcut
           exact hcut)
      · try simp only [decide_eq_true_eq, decide_eq_false_iff_not, Bool.not_eq_true', Bool.not_eq_false', Bool.and_eq_true, Bool.or_eq_true, Bool.and_eq_false_iff, Bool.or_eq_false_iff] at c23
        have hrm : rm = false := c23
        rw [hrm] at hcut
        have hnn : (if false = true then runL nnlB xs k else k) = k := rfl
        rw [hnn] at hcut
        refine W.skip ?_
        refine W.seq ?_
        refine W.seq ?_
        refine W.region ?_
        refine WL.c rfl (o_mv ?_)
        refine WL.c rfl (o_call Try.call28 (lc rfl ln) ((rblank_spec xs[k] _).mono ?_))
        rintro v27 w27 ⟨rfl, rfl⟩
        refine WL.nil ?_
        refine W.cond rfl (fun c27 => ?_) (fun c27 => ?_)
        · try simp only [decide_eq_true_eq, decide_eq_false_iff_not, Bool.not_eq_true', Bool.not_eq_false', Bool.and_eq_true, Bool.or_eq_true, Bool.and_eq_false_iff, Bool.or_eq_false_iff] at c27
          refine W.exit ?_
          refine W.region ?_
          refine WL.c rfl (o_mvh h7 ?_)
          refine WL.c rfl (o_addi rfl rfl (by omega) ?_)
          refine WL.c rfl (o_as ?_)
          refine WL.nil ?_
          first
          | (have hA : rm = true := c23
             refine ⟨⟨k + 1, ts, v5, _, by omega, by omega, h0, h5, rfl, rfl, hown, ?_, hx⟩, by show xs.length - ((k : Int) + 1).toNat < _; rw [hm7]; simp [intOf]; omega⟩
             by_cases hc : (xs[k]).toNat = 10
             · have hs := runL_stop (p := nnlB) hk1 (by simp [nnlB, hc])
               rw [if_pos rfl, hs, hc0, if_neg (by omega), if_pos (by simp [blankB, hc])] at hcut
               simpa [hc] using hcut
             · have hg := runL_go (p := nnlB) hk1 (by simp [nnlB, hc])
               rw [if_pos rfl, hg] at hcut
               have hc' : ¬ ((xs[k]).toNat : Int) = 10 := by omega
               simpa [hc'] using hcut)
          | (have hB : blankB xs[k] = true := c27
             refine ⟨⟨k + 1, ts, v5, false, by omega, by omega, h0, h5, h6.trans (congrArg Value.bool c23), rfl, hown, ?_, hx⟩, by show xs.length - ((k : Int) + 1).toNat < _; rw [hm7]; simp [intOf]; omega⟩
             have hn : ¬ (xs[k]).toNat = 35 := by simp [blankB] at hB; omega
             rw [hc0, if_neg hn, if_pos hB] at hcut
             exact hcut)
          | (have hD := hfin
             refine ⟨⟨(oneL xs k hk1).2.fin, ts ++ [(oneL xs k hk1).2], v43, false, by omega, by simp; omega, h0, rfl, h6.trans (congrArg Value.bool c23), (by show Value.int .i64 ((((oneL xs k hk1).2.fin : Nat) : Int) - 1 + 1) = _; congr 1; omega), by rw [List.length_append]; exact hown43, ?_, hx43⟩, by show xs.length - ((((oneL xs k hk1).2.fin : Nat) : Int) - 1 + 1).toNat < _; rw [hm7]; simp [intOf]; omega⟩
             rw [hc0] at hcut
             rw [hcut]; simp)
          | (have hC : (xs[k]).toNat = 35 := by omega
             refine ⟨⟨k + 1, ts, v5, true, by omega, by omega, h0, h5, rfl, rfl, hown, ?_, hx⟩, by show xs.length - ((k : Int) + 1).toNat < _; rw [hm7]; simp [intOf]; omega⟩
             rw [hc0, if_pos hC] at hcut
             exact hcut)
        · try simp only [decide_eq_true_eq, decide_eq_false_iff_not, Bool.not_eq_true', Bool.not_eq_false', Bool.and_eq_true, Bool.or_eq_true, Bool.and_eq_false_iff, Bool.or_eq_false_iff] at c27
          refine W.skip ?_
          refine W.seq ?_
          refine W.seq ?_
          refine W.region ?_
          refine WL.c rfl (o_mv ?_)
          refine WL.c rfl (o_eq rfl rfl ?_)
          refine WL.nil ?_
          refine W.cond rfl (fun c29 => ?_) (fun c29 => ?_)
          · try simp only [decide_eq_true_eq, decide_eq_false_iff_not, Bool.not_eq_true', Bool.not_eq_false', Bool.and_eq_true, Bool.or_eq_true, Bool.and_eq_false_iff, Bool.or_eq_false_iff] at c29
            refine W.seq ?_
            refine W.region ?_
            refine WL.c rfl (o_as ?_)
            refine WL.nil ?_
            refine W.exit ?_
            refine W.region ?_
            refine WL.c rfl (o_mvh h7 ?_)
            refine WL.c rfl (o_addi rfl rfl (by omega) ?_)
            refine WL.c rfl (o_as ?_)
            refine WL.nil ?_
            first
            | (have hA : rm = true := c23
               refine ⟨⟨k + 1, ts, v5, _, by omega, by omega, h0, h5, rfl, rfl, hown, ?_, hx⟩, by show xs.length - ((k : Int) + 1).toNat < _; rw [hm7]; simp [intOf]; omega⟩
               by_cases hc : (xs[k]).toNat = 10
               · have hs := runL_stop (p := nnlB) hk1 (by simp [nnlB, hc])
                 rw [if_pos rfl, hs, hc0, if_neg (by omega), if_pos (by simp [blankB, hc])] at hcut
                 simpa [hc] using hcut
               · have hg := runL_go (p := nnlB) hk1 (by simp [nnlB, hc])
                 rw [if_pos rfl, hg] at hcut
                 have hc' : ¬ ((xs[k]).toNat : Int) = 10 := by omega
                 simpa [hc'] using hcut)
            | (have hB : blankB xs[k] = true := c27
               refine ⟨⟨k + 1, ts, v5, false, by omega, by omega, h0, h5, h6.trans (congrArg Value.bool c23), rfl, hown, ?_, hx⟩, by show xs.length - ((k : Int) + 1).toNat < _; rw [hm7]; simp [intOf]; omega⟩
               have hn : ¬ (xs[k]).toNat = 35 := by simp [blankB] at hB; omega
               rw [hc0, if_neg hn, if_pos hB] at hcut
               exact hcut)
            | (have hD := hfin
               refine ⟨⟨(oneL xs k hk1).2.fin, ts ++ [(oneL xs k hk1).2], v43, false, by omega, by simp; omega, h0, rfl, h6.trans (congrArg Value.bool c23), (by show Value.int .i64 ((((oneL xs k hk1).2.fin : Nat) : Int) - 1 + 1) = _; congr 1; omega), by rw [List.length_append]; exact hown43, ?_, hx43⟩, by show xs.length - ((((oneL xs k hk1).2.fin : Nat) : Int) - 1 + 1).toNat < _; rw [hm7]; simp [intOf]; omega⟩
               rw [hc0] at hcut
               rw [hcut]; simp)
            | (have hC : (xs[k]).toNat = 35 := by omega
               refine ⟨⟨k + 1, ts, v5, true, by omega, by omega, h0, h5, rfl, rfl, hown, ?_, hx⟩, by show xs.length - ((k : Int) + 1).toNat < _; rw [hm7]; simp [intOf]; omega⟩
               rw [hc0, if_pos hC] at hcut
               exact hcut)
          · try simp only [decide_eq_true_eq, decide_eq_false_iff_not, Bool.not_eq_true', Bool.not_eq_false', Bool.and_eq_true, Bool.or_eq_true, Bool.and_eq_false_iff, Bool.or_eq_false_iff] at c29
            refine W.skip ?_
            refine W.seq ?_
            refine W.region ?_
            refine WL.c rfl (o_mvh h0 ?_)
            refine WL.c rfl (o_mvh h7 ?_)
            refine WL.c rfl (o_call Try.call29 (lc rfl (lc rfl ln)) ((rone_spec xs k hk1 _ hlen).mono ?_))
            rintro v33 w33 ⟨rfl, hx33⟩
            replace hown := own_ext hown hx33
            replace hx := hx.tr hx33
            have hsz := hx.size
            refine WL.c rfl (o_mv ?_)
            refine WL.c rfl (o_ext rfl rfl ?_)
            refine WL.c rfl (o_ext rfl rfl ?_)
            refine WL.c rfl (o_alB TI33 ?_)
            intro w9 hB9 hx9 hs9
            have hlt := hown.lt
            replace hown := own_ext hown hx9
            replace hx := hx.tr hx9
            refine WL.u (o_stA TI33 rfl rfl rfl rfl hB9 rfl ?_)
            intro w36 hB9 ho9 hs36
            replace hown := own_only hown ho9 (fun j hj he => by have := hlt j hj; omega)
            replace hx := Ext.own hx (by omega) ho9
            refine WL.c rfl (o_as ?_)
            refine WL.nil ?_
            refine W.seq ?_
            refine W.seq ?_
            refine W.region ?_
            refine WL.c rfl (o_mv ?_)
            refine WL.c rfl (o_ne rfl rfl ?_)
            refine WL.nil ?_
            refine W.cond rfl (fun c37 => ?_) (fun c37 => ?_)
            · try simp only [decide_eq_true_eq, decide_eq_false_iff_not, Bool.not_eq_true', Bool.not_eq_false', Bool.and_eq_true, Bool.or_eq_true, Bool.and_eq_false_iff, Bool.or_eq_false_iff] at c37
              refine W.seq ?_
              refine W.region ?_
              refine WL.c rfl (o_mv ?_)
              refine WL.c rfl (o_mvh h7 ?_)
              refine WL.c rfl (o_as ?_)
              refine WL.c rfl (o_as ?_)
              refine WL.c rfl (o_as ?_)
              refine WL.nil ?_
              refine W.ret ?_
              refine ret3v rfl rfl (show _ = Value.int .i64 ((oneL xs k hk1).1 : Int) from rfl) (show _ = Value.int _ _ from rfl) ?_
              rw [if_neg (by omega), if_neg (by simp [c27]), dif_neg (by omega)] at hc0
              have ha : cutA xs = ([], (oneL xs k hk1).1, k) := by unfold cutA; rw [if_neg (by omega), hcut, hc0, if_neg (by show ¬ (oneL xs k hk1).1 = 0; omega)]
              rw [ha]; exact ⟨_, rfl, World.ownsRow_nil _ _ _ _, hx⟩
            · try simp only [decide_eq_true_eq, decide_eq_false_iff_not, Bool.not_eq_true', Bool.not_eq_false', Bool.and_eq_true, Bool.or_eq_true, Bool.and_eq_false_iff, Bool.or_eq_false_iff] at c37
              have hz : (oneL xs k hk1).1 = 0 := by omega
              have hfin := oneL_fin xs k hk1 hz
              rw [if_neg (by omega), if_neg (by simp [c27]), dif_pos hz] at hc0
              have hoR : oneR xs k hk1 = (oneL xs k hk1).2 := by unfold oneR; rw [if_pos hz]
              rw [hoR] at hB9
              refine W.skip ?_
              refine W.seq ?_
              refine W.region ?_
              refine WL.c rfl (o_mvh h5 ?_)
              refine WL.c rfl (o_ldA TI33 rfl rfl (cells_all hB9) rfl ?_)
              refine WL.ap1 (w0.heap.size) rfl rfl TI26 TI33 (show _ = Value.agg (tokV (oneL xs k hk1).2) from rfl) rfl hown (by decide) (by decide) rfl (tok_one _) rfl (by rw [maxLen_eq]; omega) (by omega) (by omega) ?_
              intro v43 w43 hown43 ho43
              replace hB9 := ho43.blk hB9 (fun h => by have := (hlt _ h).2; omega)
              rw [← flat_snoc] at hown43
              have hx43 : Ext w0 w43 := hx.trans' ho43 (fun _ h => h) (fun j hj he => by have := (hown.lt _ he).1; omega)
              refine WL.c rfl (o_as ?_)
              refine WL.nil ?_
              refine W.region ?_
              refine WL.c rfl (o_fa 4 TI33 rfl TI3 rfl rfl ?_)
              refine WL.c rfl (o_ld TI3 rfl rfl (cell_of hB9 rfl) ?_)
              refine WL.c rfl (o_subi rfl rfl (by omega) ?_)
              refine WL.c rfl (o_as ?_)
              refine WL.nil ?_
              refine W.region ?_
              refine WL.c rfl (o_mv ?_)
              refine WL.c rfl (o_addi rfl rfl (by omega) ?_)
              refine WL.c rfl (o_as ?_)
              refine WL.nil ?_
              first
              | (have hA : rm = true := c23
                 refine ⟨⟨k + 1, ts, v5, _, by omega, by omega, h0, h5, rfl, rfl, hown, ?_, hx⟩, by show xs.length - ((k : Int) + 1).toNat < _; rw [hm7]; simp [intOf]; omega⟩
                 by_cases hc : (xs[k]).toNat = 10
                 · have hs := runL_stop (p := nnlB) hk1 (by simp [nnlB, hc])
                   rw [if_pos rfl, hs, hc0, if_neg (by omega), if_pos (by simp [blankB, hc])] at hcut
                   simpa [hc] using hcut
                 · have hg := runL_go (p := nnlB) hk1 (by simp [nnlB, hc])
                   rw [if_pos rfl, hg] at hcut
                   have hc' : ¬ ((xs[k]).toNat : Int) = 10 := by omega
                   simpa [hc'] using hcut)
              | (have hB : blankB xs[k] = true := c27
                 refine ⟨⟨k + 1, ts, v5, false, by omega, by omega, h0, h5, h6.trans (congrArg Value.bool c23), rfl, hown, ?_, hx⟩, by show xs.length - ((k : Int) + 1).toNat < _; rw [hm7]; simp [intOf]; omega⟩
                 have hn : ¬ (xs[k]).toNat = 35 := by simp [blankB] at hB; omega
                 rw [hc0, if_neg hn, if_pos hB] at hcut
                 exact hcut)
              | (have hD := hfin
                 refine ⟨⟨(oneL xs k hk1).2.fin, ts ++ [(oneL xs k hk1).2], v43, false, by omega, by simp; omega, h0, rfl, h6.trans (congrArg Value.bool c23), (by show Value.int .i64 ((((oneL xs k hk1).2.fin : Nat) : Int) - 1 + 1) = _; congr 1; omega), by rw [List.length_append]; exact hown43, ?_, hx43⟩, by show xs.length - ((((oneL xs k hk1).2.fin : Nat) : Int) - 1 + 1).toNat < _; rw [hm7]; simp [intOf]; omega⟩
                 rw [hc0] at hcut
                 rw [hcut]; simp)
              | (have hC : (xs[k]).toNat = 35 := by omega
                 refine ⟨⟨k + 1, ts, v5, true, by omega, by omega, h0, h5, rfl, rfl, hown, ?_, hx⟩, by show xs.length - ((k : Int) + 1).toNat < _; rw [hm7]; simp [intOf]; omega⟩
                 rw [hc0, if_pos hC] at hcut
                 exact hcut)
    · skip
      rw [dif_neg hk1] at hc0
      refine W.region ?_
      refine WL.c rfl (o_mvh h7 ?_)
      refine WL.c rfl (o_mvh h0 ?_)
      refine WL.c rfl (o_lenT TI9 rfl ?_)
      refine WL.c rfl (o_lt rfl rfl ?_)
      refine WL.nil ?_
      refine W.condF' rfl (by simp; omega) ?_
      refine W.exit ?_
      refine W.seq ?_
      refine W.region ?_
      refine WL.c rfl (o_mvh h5 ?_)
      refine WL.c rfl (o_as ?_)
      refine WL.c rfl (o_as ?_)
      refine WL.c rfl (o_as ?_)
      refine WL.nil ?_
      refine W.ret ?_
      refine ret3v rfl rfl (show _ = Value.int _ _ from rfl) (show _ = Value.int _ _ from rfl) ?_
      have hk2 : k = xs.length := by omega
      have hz : (if rm = true then runL nnlB xs k else k) = k := by cases rm <;> simp [runL_end (p := nnlB) (xs := xs) (k := k) (by omega)]
      have ha : cutA xs = (ts, 0, 0) := by unfold cutA; rw [if_neg (by omega), hcut, hz, hc0]; simp
      rw [ha]; exact ⟨_, rfl, hown, hx⟩
end Go.Proofs.Ytiabjbaegdgmmaa
