/-
  Walks. Written by program out of specs of mine.
-/
import Derived.Test.YtiabjbaegdgmmaaE
set_option linter.unusedSimpArgs false
set_option linter.unusedVariables false
namespace Go.Proofs.Ytiabjbaegdgmmaa
open Go Go.Vc Go.RowKit Go.Proofs

theorem oneL_fin (xs : List UInt8) (k : Nat) (h : k < xs.length) (he : (oneL xs k h).1 = 0) : k < (oneL xs k h).2.fin ∧ (oneL xs k h).2.fin ≤ xs.length := by
  have go : ∀ p : UInt8 → Bool, p xs[k] = true → k < runL p xs k ∧ runL p xs k ≤ xs.length := fun p hp => by
    have h1 := runL_go h hp
    have h2 := runL_le (p := p) (k := k + 1) (xs := xs) (by omega)
    omega
  unfold oneL at he ⊢
  split
  · rename_i hl
    have := go goeB (by simp [goeB, hl])
    split
    · exact this
    · exact this
  · split
    · rename_i hd; exact go digB hd
    · split
      · exact ⟨by show k < k + 1; omega, by show k + 1 ≤ _; omega⟩
      · rename_i h1 h2 h3; rw [if_neg h1, if_neg h2, if_neg h3] at he; simp at he
def blankB (c : UInt8) : Bool := decide (c.toNat = 9) || decide (c.toNat = 10) || decide (c.toNat = 32)
/-- the tokens from a place on; the first error and its place -/
def cutL (xs : List UInt8) (k : Nat) : List Tk × Nat × Nat :=
  if h : k < xs.length then
    if (xs[k]).toNat = 35 then cutL xs (runL nnlB xs (k + 1))
    else if blankB xs[k] then cutL xs (k + 1)
    else if he : (oneL xs k h).1 = 0 then ((oneL xs k h).2 :: (cutL xs (oneL xs k h).2.fin).1, (cutL xs (oneL xs k h).2.fin).2)
    else ([], (oneL xs k h).1, k)
  else ([], 0, 0)
termination_by xs.length - k
decreasing_by
  · have := (runL_le (p := nnlB) (k := k + 1) (xs := xs) (by omega)).1; omega
  · omega
  · have := oneL_fin xs k h he; omega
theorem cutL_eq (xs : List UInt8) (k : Nat) : cutL xs k = if h : k < xs.length then
    if (xs[k]).toNat = 35 then cutL xs (runL nnlB xs (k + 1))
    else if blankB xs[k] then cutL xs (k + 1)
    else if he : (oneL xs k h).1 = 0 then ((oneL xs k h).2 :: (cutL xs (oneL xs k h).2.fin).1, (cutL xs (oneL xs k h).2.fin).2)
    else ([], (oneL xs k h).1, k)
  else ([], 0, 0) := by rw [cutL]
/-- what Cut answers -/
def cutA (xs : List UInt8) : List Tk × Nat × Nat := if 65536 < xs.length then ([], 4, 0) else if (cutL xs 0).2.1 = 0 then cutL xs 0 else ([], (cutL xs 0).2)
def flat (ts : List Tk) : List Value := ts.flatMap fun t => (tokV t).toList
theorem flat_snoc (ts : List Tk) (t : Tk) : flat (ts ++ [t]) = flat ts ++ (Value.agg (tokV t)).cells.toList := by simp [flat, Value.cells]
theorem tok_one (t : Tk) : ∀ a ∈ (Value.agg (tokV t)).cells.toList, a.oneCell' = true := by
  intro a ha
  simp [Value.cells, tokV] at ha
  rcases ha with rfl | rfl | rfl | rfl | rfl <;> rfl
def faultV (e k : Nat) : Array Value := #[.int .i64 (e : Int), .int .i64 (k : Int)]
theorem maxLen_eq : maxLen = 9223372036854775807 := rfl

set_option maxHeartbeats 1000000 in
theorem cut_spec (xs : List UInt8) (w0 : World) (hlen : xs.length ≤ 9223372036854775807) : Ca Try.prog 15 #[st xs] w0 (fun v w' => ∃ v1, v = .tuple #[v1, .agg (faultV (cutA xs).2.1 (cutA xs).2.2)] ∧ w'.ownsRow w0.heap.size 33 5 v1 (cutA xs).1.length (flat (cutA xs).1) ∧ Ext w0 w') := by
  refine Ca.of Try.func15 Try.ntmps15 rfl rfl ?_
  refine W.seq ?_
  refine W.region ?_
  refine WL.c rfl (o_as ?_)
  refine WL.c rfl (o_alB TI29 ?_)
  intro w3 hB3 hx3 hs3
  refine WL.nil ?_
  refine W.scope ?_
  refine W.seq ?_
  refine W.seq ?_
  refine W.region ?_
  refine WL.c rfl (o_mv ?_)
  refine WL.c rfl (o_lenT TI9 rfl ?_)
  refine WL.c rfl (o_gt rfl rfl ?_)
  refine WL.nil ?_
  refine W.cond rfl (fun c10 => ?_) (fun c10 => ?_)
  · try simp only [decide_eq_true_eq, decide_eq_false_iff_not, Bool.not_eq_true', Bool.not_eq_false', Bool.and_eq_true, Bool.or_eq_true, Bool.and_eq_false_iff, Bool.or_eq_false_iff] at c10
    refine W.seq ?_
    refine W.region ?_
    refine WL.c rfl (o_bldC (cs := [(.int .i64 4), (.int .i64 0)]) TI29 (Sizes.cons TI27 (Sizes.cons TI3 Sizes.nil)) rfl (lcp (show _ = Value.int _ _ from rfl) lnp) rfl rfl ?_)
    refine WL.c rfl (o_as ?_)
    refine WL.u (o_stA TI29 rfl (show _ = Value.agg (faultV 4 0) from rfl) rfl rfl hB3 rfl ?_)
    intro wE hE hoE hsE
    have hxE := Ext.own hx3 (Nat.le_refl _) hoE
    refine WL.nil ?_
    refine W.ret ?_
    refine retTC rfl TI29 rfl (show _ = Value.slice _ _ _ from rfl) rfl (cells_all hE) rfl ?_
    have ha : cutA xs = ([], 4, 0) := by unfold cutA; rw [if_pos (by omega)]
    rw [ha]; exact ⟨_, rfl, World.ownsRow_nil _ _ _ _, hxE⟩
  · try simp only [decide_eq_true_eq, decide_eq_false_iff_not, Bool.not_eq_true', Bool.not_eq_false', Bool.and_eq_true, Bool.or_eq_true, Bool.and_eq_false_iff, Bool.or_eq_false_iff] at c10
    refine W.skip ?_
    refine W.seq ?_
    refine W.region ?_
    refine WL.c rfl (o_as ?_)
    refine WL.nil ?_
    refine W.seq ?_
    refine W.region ?_
    refine WL.c rfl (o_as ?_)
    refine WL.nil ?_
    refine W.seq ?_
    refine W.label ?_
    refine W.seq ?_
    refine W.block ?_
    refine W.loop (fun e w => ∃ (k : Nat) (ts : List Tk) (v4 : Value), k ≤ xs.length ∧ ts.length ≤ k ∧ e 0 = st xs ∧ e 3 = .pointer (some ⟨w0.heap.size, 0, none⟩) ∧ e 4 = v4 ∧ e 5 = .int .i64 (k : Int) ∧ w.ownsRow (w0.heap.size + 1) 33 5 v4 ts.length (flat ts) ∧ w.heap[w0.heap.size]? = some (.cells (faultV 0 0) 29 (0, 0)) ∧ cutL xs 0 = (ts ++ (cutL xs k).1, (cutL xs k).2) ∧ Ext w0 w ∧ w0.heap.size + 1 ≤ w.heap.size) (fun e w => xs.length - (intOf (e 5)).toNat) ?_ ?_
    · exact ⟨0, [], _, Nat.zero_le _, Nat.le_refl _, rfl, rfl, rfl, rfl, World.ownsRow_nil _ _ _ _, hB3, by simp, hx3, by omega⟩
    rintro e w ⟨k, ts, v4, hk, hts, h0, h3, h4, h5, hown, hB3, hcut, hx3, hsz⟩
    have hm5 := h5
    have hc0 := cutL_eq xs k
    refine W.seq ?_
    refine W.seq ?_
    by_cases hk1 : k < xs.length
    · skip
      rw [dif_pos hk1] at hc0
      have hlen5 : k < 65536 := by omega
      refine W.region ?_
      refine WL.c rfl (o_mvh h5 ?_)
      refine WL.c rfl (o_mvh h0 ?_)
      refine WL.c rfl (o_lenT TI9 rfl ?_)
      refine WL.c rfl (o_lt rfl rfl ?_)
      refine WL.nil ?_
      refine W.condT' rfl (by simp; omega) ?_
      refine W.skip ?_
      refine W.block ?_
      refine W.seq ?_
      refine W.seq ?_
      refine W.region ?_
      refine WL.c rfl (o_mvh h0 ?_)
      refine WL.c rfl (o_mvh h5 ?_)
      refine WL.c rfl (o_idT TI9 rfl rfl (hk1) ?_)
      refine WL.nil ?_
      refine W.block ?_
      refine W.seq ?_
      refine W.block ?_
      refine W.block ?_
      refine W.block ?_
      refine W.seq ?_
      refine W.block ?_
      refine W.seq ?_
      refine W.seq ?_
      refine W.seq ?_
      refine W.region ?_
      refine WL.c rfl (o_eq rfl rfl ?_)
      refine WL.c rfl (o_as ?_)
      refine WL.nil ?_
      refine W.cond rfl (fun c19 => ?_) (fun c19 => ?_)
      · try simp only [decide_eq_true_eq, decide_eq_false_iff_not, Bool.not_eq_true', Bool.not_eq_false', Bool.and_eq_true, Bool.or_eq_true, Bool.and_eq_false_iff, Bool.or_eq_false_iff] at c19
        refine W.exit ?_
        refine W.seq ?_
        refine W.seq ?_
        refine W.region ?_
        refine WL.c rfl (o_mvh h0 ?_)
        refine WL.c rfl (o_mvh h5 ?_)
        refine WL.c rfl (o_call Try.call22 (lc rfl (lc rfl (lc rfl ln))) ((run_spec nnlB 26 xs k _ (by omega) hlen nnl_spec Try.call26).mono ?_))
        rintro v29 w29 ⟨rfl, rfl⟩
        refine WL.c rfl (o_as ?_)
        refine WL.nil ?_
        refine W.exit ?_
        have hgo : runL nnlB xs k = runL nnlB xs (k + 1) := runL_go hk1 (by simp [nnlB]; omega)
        have hrl := runL_le (p := nnlB) (k := k + 1) (xs := xs) (by omega)
        rw [if_pos (by omega)] at hc0
        refine ⟨⟨runL nnlB xs k, ts, v4, by omega, by omega, h0, h3, h4, rfl, hown, hB3, by rw [hcut, hc0, hgo], hx3, hsz⟩, ?_⟩
        show xs.length - ((runL nnlB xs k : Nat) : Int).toNat < _
        rw [hm5]; simp [intOf]; omega
      · try simp only [decide_eq_true_eq, decide_eq_false_iff_not, Bool.not_eq_true', Bool.not_eq_false', Bool.and_eq_true, Bool.or_eq_true, Bool.and_eq_false_iff, Bool.or_eq_false_iff] at c19
        refine W.skip ?_
        refine W.seq ?_
        refine W.seq ?_
        refine W.region ?_
        refine WL.c rfl (o_eq rfl rfl ?_)
        refine WL.c rfl (o_as ?_)
        refine WL.nil ?_
        refine W.cond rfl (fun c21 => ?_) (fun c21 => ?_)
        · try simp only [decide_eq_true_eq, decide_eq_false_iff_not, Bool.not_eq_true', Bool.not_eq_false', Bool.and_eq_true, Bool.or_eq_true, Bool.and_eq_false_iff, Bool.or_eq_false_iff] at c21
          refine W.exit ?_
          refine W.seq ?_
          refine W.seq ?_
          refine W.region ?_
          refine WL.c rfl (o_mvh h5 ?_)
          refine WL.c rfl (o_addi rfl rfl (by omega) ?_)
          refine WL.c rfl (o_as ?_)
          refine WL.nil ?_
          refine W.exit ?_
          rw [if_neg (by omega), if_pos (by simp [blankB]; omega)] at hc0
          refine ⟨⟨k + 1, ts, v4, by omega, by omega, h0, h3, h4, rfl, hown, hB3, by rw [hcut, hc0], hx3, hsz⟩, ?_⟩
          show xs.length - ((k : Int) + 1).toNat < _
          rw [hm5]; simp [intOf]; omega
        · try simp only [decide_eq_true_eq, decide_eq_false_iff_not, Bool.not_eq_true', Bool.not_eq_false', Bool.and_eq_true, Bool.or_eq_true, Bool.and_eq_false_iff, Bool.or_eq_false_iff] at c21
          refine W.skip ?_
          refine W.seq ?_
          refine W.seq ?_
          refine W.region ?_
          refine WL.c rfl (o_eq rfl rfl ?_)
          refine WL.c rfl (o_as ?_)
          refine WL.nil ?_
          refine W.cond rfl (fun c23 => ?_) (fun c23 => ?_)
          · try simp only [decide_eq_true_eq, decide_eq_false_iff_not, Bool.not_eq_true', Bool.not_eq_false', Bool.and_eq_true, Bool.or_eq_true, Bool.and_eq_false_iff, Bool.or_eq_false_iff] at c23
            refine W.exit ?_
            refine W.seq ?_
            refine W.seq ?_
            refine W.region ?_
            refine WL.c rfl (o_mvh h5 ?_)
            refine WL.c rfl (o_addi rfl rfl (by omega) ?_)
            refine WL.c rfl (o_as ?_)
            refine WL.nil ?_
            refine W.exit ?_
            rw [if_neg (by omega), if_pos (by simp [blankB]; omega)] at hc0
            refine ⟨⟨k + 1, ts, v4, by omega, by omega, h0, h3, h4, rfl, hown, hB3, by rw [hcut, hc0], hx3, hsz⟩, ?_⟩
            show xs.length - ((k : Int) + 1).toNat < _
            rw [hm5]; simp [intOf]; omega
          · try simp only [decide_eq_true_eq, decide_eq_false_iff_not, Bool.not_eq_true', Bool.not_eq_false', Bool.and_eq_true, Bool.or_eq_true, Bool.and_eq_false_iff, Bool.or_eq_false_iff] at c23
            refine W.skip ?_
            refine W.seq ?_
            refine W.region ?_
            refine WL.c rfl (o_eq rfl rfl ?_)
            refine WL.c rfl (o_as ?_)
            refine WL.nil ?_
            refine W.cond rfl (fun c25 => ?_) (fun c25 => ?_)
            · try simp only [decide_eq_true_eq, decide_eq_false_iff_not, Bool.not_eq_true', Bool.not_eq_false', Bool.and_eq_true, Bool.or_eq_true, Bool.and_eq_false_iff, Bool.or_eq_false_iff] at c25
              refine W.exit ?_
              refine W.seq ?_
              refine W.seq ?_
              refine W.region ?_
              refine WL.c rfl (o_mvh h5 ?_)
              refine WL.c rfl (o_addi rfl rfl (by omega) ?_)
              refine WL.c rfl (o_as ?_)
              refine WL.nil ?_
              refine W.exit ?_
              rw [if_neg (by omega), if_pos (by simp [blankB]; omega)] at hc0
              refine ⟨⟨k + 1, ts, v4, by omega, by omega, h0, h3, h4, rfl, hown, hB3, by rw [hcut, hc0], hx3, hsz⟩, ?_⟩
              show xs.length - ((k : Int) + 1).toNat < _
              rw [hm5]; simp [intOf]; omega
            · try simp only [decide_eq_true_eq, decide_eq_false_iff_not, Bool.not_eq_true', Bool.not_eq_false', Bool.and_eq_true, Bool.or_eq_true, Bool.and_eq_false_iff, Bool.or_eq_false_iff] at c25
              refine W.skip ?_
              refine W.exit ?_
              refine W.seq ?_
              have hnb : ¬ blankB xs[k] = true := by simp [blankB]; omega
              rw [if_neg (by omega), if_neg hnb] at hc0
              refine W.region ?_
              refine WL.c rfl (o_mvh h0 ?_)
              refine WL.c rfl (o_mvh h5 ?_)
              refine WL.c rfl (o_call Try.call27 (lc rfl (lc rfl ln)) ((token_spec xs k hk1 _ hlen).mono ?_))
              rintro v35 w35 ⟨rfl, hx35⟩
              replace hB3 := hx35.blk hB3 (fun h => h)
              replace hown := own_ext hown hx35
              have hsz35 := hx35.size
              replace hx3 := hx3.tr hx35
              refine WL.c rfl (o_mv ?_)
              refine WL.c rfl (o_ext rfl rfl ?_)
              refine WL.c rfl (o_ext rfl rfl ?_)
              refine WL.c rfl (o_alB TI33 ?_)
              intro w6 hB6 hx6 hs6
              replace hB3 := hx6.blk hB3 (fun h => h)
              have hlt := hown.lt
              replace hown := own_ext hown hx6
              replace hx3 := hx3.tr hx6
              refine WL.u (o_stA TI33 rfl rfl rfl rfl hB6 rfl ?_)
              intro w36 hB6 ho6 hs36
              replace hB3 := ho6.blk hB3 (by show ¬ _ = _; omega)
              replace hown := own_only hown ho6 (fun j hj he => by have := hlt j hj; omega)
              replace hx3 := Ext.own hx3 (by omega) ho6
              refine WL.c rfl (o_as ?_)
              refine WL.nil ?_
              refine W.seq ?_
              refine W.seq ?_
              refine W.region ?_
              refine WL.c rfl (o_mv ?_)
              refine WL.c rfl (o_ne rfl rfl ?_)
              refine WL.nil ?_
              refine W.cond rfl (fun c39 => ?_) (fun c39 => ?_)
              · try simp only [decide_eq_true_eq, decide_eq_false_iff_not, Bool.not_eq_true', Bool.not_eq_false', Bool.and_eq_true, Bool.or_eq_true, Bool.and_eq_false_iff, Bool.or_eq_false_iff] at c39
                refine W.seq ?_
                refine W.region ?_
                refine WL.c rfl (o_mv ?_)
                refine WL.c rfl (o_mvh h5 ?_)
                refine WL.c rfl (o_bldC (cs := [_, _]) TI29 (Sizes.cons TI27 (Sizes.cons TI3 Sizes.nil)) rfl (lcp (show _ = Value.int _ _ from rfl) (lcp (show _ = Value.int _ _ from rfl) lnp)) rfl rfl ?_)
                refine WL.c rfl (o_as ?_)
                refine WL.u (o_stA TI29 h3 (show _ = Value.agg (faultV (oneL xs k hk1).1 k) from rfl) rfl rfl hB3 rfl ?_)
                intro wE hE hoE hsE
                have hxE := Ext.own hx3 (Nat.le_refl _) hoE
                refine WL.nil ?_
                refine W.ret ?_
                refine retTC rfl TI29 rfl (show _ = Value.slice _ _ _ from rfl) h3 (cells_all hE) rfl ?_
                rw [dif_neg (by omega)] at hc0
                have ha : cutA xs = ([], (oneL xs k hk1).1, k) := by unfold cutA; rw [if_neg (by omega), hcut, hc0, if_neg (by show ¬ (oneL xs k hk1).1 = 0; omega)]
                rw [ha]; exact ⟨_, rfl, World.ownsRow_nil _ _ _ _, hxE⟩
              · try simp only [decide_eq_true_eq, decide_eq_false_iff_not, Bool.not_eq_true', Bool.not_eq_false', Bool.and_eq_true, Bool.or_eq_true, Bool.and_eq_false_iff, Bool.or_eq_false_iff] at c39
                have hz : (oneL xs k hk1).1 = 0 := by omega
                have hfin := oneL_fin xs k hk1 hz
                rw [dif_pos hz] at hc0
                refine W.skip ?_
                refine W.seq ?_
                refine W.region ?_
                refine WL.c rfl (o_mvh h4 ?_)
                refine WL.c rfl (o_ldA TI33 rfl rfl (cells_all hB6) rfl ?_)
                refine WL.ap1 ((w0.heap.size + 1)) rfl rfl TI26 TI33 (show _ = Value.agg (tokV (oneL xs k hk1).2) from rfl) rfl hown (by decide) (by decide) rfl (tok_one _) rfl (by rw [maxLen_eq]; omega) (by omega) (by omega) ?_
                intro v46 w46 hown46 ho46
                replace hB3 := ho46.blk hB3 (fun h => by have := (hown.lt _ h).1; omega)
                replace hB6 := ho46.blk hB6 (fun h => by have := (hlt _ h).2; omega)
                rw [← flat_snoc] at hown46
                have hx46 : Ext w0 w46 := hx3.trans' ho46 (fun _ h => h) (fun j hj he => by have := (hown.lt _ he).1; omega)
                refine WL.c rfl (o_as ?_)
                refine WL.nil ?_
                refine W.region ?_
                refine WL.c rfl (o_fa 4 TI33 rfl TI3 rfl rfl ?_)
                refine WL.c rfl (o_ld TI3 rfl rfl (cell_of hB6 rfl) ?_)
                refine WL.c rfl (o_as ?_)
                refine WL.nil ?_
                refine ⟨⟨(oneL xs k hk1).2.fin, ts ++ [(oneL xs k hk1).2], v46, by omega, by simp; omega, h0, h3, rfl, rfl, by rw [List.length_append]; exact hown46, hB3, by rw [hcut, hc0]; simp, hx46, by have := ho46.size; omega⟩, ?_⟩
                show xs.length - (((oneL xs k hk1).2.fin : Nat) : Int).toNat < _
                rw [hm5]; simp [intOf]; omega
    · skip
      rw [dif_neg hk1] at hc0
      refine W.region ?_
      refine WL.c rfl (o_mvh h5 ?_)
      refine WL.c rfl (o_mvh h0 ?_)
      refine WL.c rfl (o_lenT TI9 rfl ?_)
      refine WL.c rfl (o_lt rfl rfl ?_)
      refine WL.nil ?_
      refine W.condF' rfl (by simp; omega) ?_
      refine W.exit ?_
      refine W.seq ?_
      refine W.region ?_
      refine WL.c rfl (o_mvh h4 ?_)
      refine WL.c rfl (o_bldC (cs := [(.int .i64 0), (.int .i64 0)]) TI29 (Sizes.cons TI27 (Sizes.cons TI3 Sizes.nil)) rfl lnp rfl rfl ?_)
      refine WL.c rfl (o_as ?_)
      refine WL.u (o_stA TI29 h3 (show _ = Value.agg (faultV 0 0) from rfl) rfl rfl hB3 rfl ?_)
      intro wE hE hoE hsE
      have hxE := Ext.own hx3 (Nat.le_refl _) hoE
      refine WL.nil ?_
      refine W.ret ?_
      refine retTC rfl TI29 rfl (show _ = v4 from rfl) h3 (cells_all hE) rfl ?_
      have ha : cutA xs = (ts, 0, 0) := by unfold cutA; rw [if_neg (by omega), hcut, hc0]; simp
      rw [ha]; exact ⟨_, rfl, own_mono (own_only hown hoE (fun j hj he => by have := (hown.lt j hj).1; omega)) (by omega), hxE⟩
end Go.Proofs.Ytiabjbaegdgmmaa
