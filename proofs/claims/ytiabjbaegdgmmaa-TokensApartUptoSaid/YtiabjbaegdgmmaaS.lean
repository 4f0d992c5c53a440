/-
  Walks. Written by program out of specs of mine.
-/
import Derived.Test.YtiabjbaegdgmmaaL
import Derived.Test.YtiabjbaegdgmmaaBook
set_option linter.unusedSimpArgs false
set_option linter.unusedVariables false
namespace Go.Proofs.Ytiabjbaegdgmmaa
open Go Go.Vc Go.RowKit Go.Proofs

def five : List Tk := [⟨1, [116, 121, 112, 101], 0, 0, 4⟩, ⟨1, [97], 0, 5, 6⟩, ⟨3, [61], 0, 7, 8⟩, ⟨1, [117, 56], 0, 9, 11⟩, ⟨3, [59], 0, 11, 12⟩]
theorem five_cut : cutA [116, 121, 112, 101, 32, 97, 32, 61, 32, 117, 56, 59] = (five, 0, 0) := by decide +kernel
theorem cutA_few (xs : List UInt8) : (cutA xs).1.length ≤ 65536 := by
  have := cutL_count xs 0 (Nat.zero_le _)
  unfold cutA
  split
  · simp
  · split
    · omega
    · simp
/-- what the rows hold, in the order of making -/
def tc (ss : List (List UInt8)) (j : Nat) : List Tk := if j % 2 = 0 then (cutA (ss.getD (j / 8) [])).1 else five
theorem tc_few (ss : List (List UInt8)) (j : Nat) : (tc ss j).length ≤ 65536 := by
  unfold tc
  split
  · exact cutA_few _
  · decide
theorem tc_x {ss : List (List UInt8)} {i k : Nat} (hi : i < ss.length) (hk : k < 2) : tc ss (8 * i + 4 * k) = (cutA ss[i]).1 := by
  unfold tc
  rw [if_pos (by omega), show (8 * i + 4 * k) / 8 = i by omega]
  simp [hi]
theorem tc_x2 {ss : List (List UInt8)} {i k : Nat} (hi : i < ss.length) (hk : k < 2) : tc ss (8 * i + 4 * k + 1 + 1) = (cutA ss[i]).1 := by
  unfold tc
  rw [if_pos (by omega), show (8 * i + 4 * k + 1 + 1) / 8 = i by omega]
  simp [hi]
theorem tc_y {ss : List (List UInt8)} {j : Nat} (h : j % 2 = 1) : tc ss j = five := by unfold tc; rw [if_neg (by omega)]
def gi (j : Nat) : Nat := j + 2 * (j / 2)
def wi (j : Nat) : Nat := gi j + 2
theorem tc_wi (ss : List (List UInt8)) (j : Nat) : tc ss (wi j) = tc ss (gi j) := by
  unfold tc wi
  have h1 : (gi j + 2) % 2 = gi j % 2 := by omega
  have h2 : (gi j + 2) / 8 = gi j / 8 := by unfold gi; omega
  rw [h1, h2]
theorem gi_inj {q q' : Nat} (h : gi q = gi q') : q = q' := by unfold gi at h; omega
theorem gi_wi {q q' : Nat} : gi q ≠ wi q' := by unfold wi gi; omega
def mc (q k : Nat) : List Value := [.int .i64 (-1 - (q : Int)), st [], .int .i64 (k : Int), .int .i64 0, .int .i64 0]
theorem mc_one (q k : Nat) : ∀ a ∈ mc q k, a.oneCell' = true := fun a ha => List.all_eq_true.1 (show List.all (mc q k) (·.oneCell') = true from rfl) a ha
def full (q n : Nat) : List Value := (List.range n).flatMap (mc q)
theorem full_succ (q n : Nat) : full q (n + 1) = full q n ++ mc q n := by unfold full; rw [List.range_succ, List.flatMap_append]; simp
theorem full_len (q : Nat) : ∀ n, (full q n).length = n * 5
  | 0 => rfl
  | n + 1 => by rw [full_succ, List.length_append, full_len q n]; show _ + 5 = _; omega
theorem full_at (q : Nat) : ∀ n r, r < n → ((full q n).drop (r * 5)).take 5 = mc q r
  | 0, r, h => by omega
  | n + 1, r, h => by
    rw [full_succ]
    by_cases e : r < n
    · rw [List.drop_append_of_le_length (by rw [full_len]; omega), List.take_append_of_le_length (by rw [List.length_drop, full_len]; omega), full_at q n r e]
    · have e2 : r = n := by omega
      subst e2
      rw [← full_len q r, List.drop_left]; rfl
theorem rep5 (q : Nat) (ts : List Tk) (r : Nat) (h : r < ts.length) : (full q r ++ (flat ts).drop (r * 5)).take (r * 5) ++ mc q r ++ (full q r ++ (flat ts).drop (r * 5)).drop (r * 5 + 5) = full q (r + 1) ++ (flat ts).drop ((r + 1) * 5) := by
  have h1 : (full q r ++ (flat ts).drop (r * 5)).take (r * 5) = full q r := by rw [← full_len q r, List.take_left]
  have h2 : (full q r ++ (flat ts).drop (r * 5)).drop (r * 5 + 5) = (flat ts).drop ((r + 1) * 5) := by
    rw [← List.drop_drop, ← full_len q r, List.drop_left, full_len, List.drop_drop]
    congr 1; omega
  rw [h1, h2, full_succ]
theorem st_one (ss : List (List UInt8)) (i : Nat) (h : i < ss.length) : (ss.map st)[i]? = some (st ss[i]) := by simp [h]
theorem tok_ones (ts : List Tk) : ∀ a ∈ flat ts, a.oneCell' = true := by
  intro a ha
  simp only [flat, List.mem_flatMap] at ha
  obtain ⟨t, -, ht⟩ := ha
  exact tok_one t a (by simpa [Value.cells] using ht)
theorem range2 (V : Nat → Value) (f : Nat → Nat) (q : Nat) : (List.range (q + 2)).map (fun j => V (f j)) = (List.range q).map (fun j => V (f j)) ++ [V (f q), V (f (q + 1))] := by
  rw [list_snocF V f (q + 1), list_snocF V f q]; simp

set_option maxHeartbeats 4000000 in
theorem tapart_walk (w0 : World) (v : Value) (ss : List (List UInt8)) (hsl : ss.length ≤ 9223372036854775807) (hss : ∀ s ∈ ss, s.length ≤ 9223372036854775807) (hS : Sl w0 1 v ss.length (ss.map st)) : Ca Try.prog 8 #[v] w0 (fun v w' => v = .bool true ∧ Ext w0 w') := by
  refine Ca.of Try.func8 Try.ntmps8 rfl rfl ?_
  refine W.seq ?_
  refine W.region ?_
  refine WL.c rfl (o_as ?_)
  refine WL.nil ?_
  refine W.seq ?_
  refine W.seq ?_
  refine W.region ?_
  refine WL.c rfl (o_call Try.call9 ln ((first_spec _).mono ?_))
  rintro v21 w21 ⟨rfl, hx⟩
  refine WL.c rfl (o_not' rfl ?_)
  refine WL.nil ?_
  refine W.condF' rfl (rfl) ?_
  refine W.skip ?_
  refine W.seq ?_
  refine W.region ?_
  refine WL.c rfl (o_as ?_)
  refine WL.c rfl (o_as ?_)
  refine WL.nil ?_
  refine W.seq ?_
  refine W.seq ?_
  have hz0 := hx.size
  generalize hH0 : w21.heap.size = H0 at hz0
  refine W.region ?_
  refine WL.c rfl (o_as ?_)
  refine WL.nil ?_
  refine W.block ?_
  refine W.loop (fun e w => ∃ (i : Nat) (V : Nat → Value) (vg vw : Value), i ≤ ss.length ∧ i ≤ 20 ∧ e 0 = v ∧ e 3 = vg ∧ e 4 = vw ∧ e 5 = .int .i64 (i : Int) ∧ Many w H0 33 5 (8 * i) V (fun j => (tc ss j).length) (fun j => flat (tc ss j)) ∧ w.ownsRow H0 26 1 vg (4 * i) ((List.range (4 * i)).map fun j => V (gi j)) ∧ w.ownsRow H0 26 1 vw (4 * i) ((List.range (4 * i)).map fun j => V (wi j)) ∧ Dj vg vw ∧ H0 ≤ w.heap.size ∧ Ext w0 w) (fun e w => 20 - (intOf (e 5)).toNat) ?_ ?_
  · exact ⟨0, fun _ => undef, _, _, Nat.zero_le _, by omega, rfl, rfl, rfl, rfl, Many.zero, World.ownsRow_nil _ _ _ _, World.ownsRow_nil _ _ _ _, Dj.none, by omega, hx⟩
  rintro e w ⟨i, V, vg, vw, hi, hi20, h0, h3, h4, h5, hM, hg, hw, hD, hzw, hx⟩
  have hm5 := h5
  refine W.seq ?_
  refine W.seq ?_
  refine W.region ?_
  refine WL.cut (fun e1 w1 => e1 30 = .bool (decide (i < ss.length) && decide (i < 20)) ∧ e1 0 = v ∧ e1 3 = vg ∧ e1 4 = vw ∧ e1 5 = .int .i64 (i : Int) ∧ w1 = w) ?_ ?_
  · -- region 5
    refine WL.c rfl (o_mvh h5 ?_)
    refine WL.c rfl (o_mvh h0 ?_)
    refine WL.c rfl (o_lenR TI41 rfl (hS.ext hx) ?_)
    refine WL.c rfl (o_lt rfl rfl ?_)
    refine WL.c rfl (o_mv ?_)
    refine WL.sp 4 rfl (fun g27 => ?_) (fun g27 => ?_)
    · skip
      refine WL.g rfl (g27) rfl (o_mvh h5 ?_)
      refine WL.g rfl (g27) rfl (o_lt rfl rfl ?_)
      refine WL.c rfl (o_pickA rfl rfl ?_)
      exact WL.nil (⟨congrArg Value.bool (by rw [Bool.eq_iff_iff]; simp_all <;> omega), h0, h3, h4, h5, rfl⟩)
    · skip
      refine WL.s rfl (g27) rfl ?_
      refine WL.s rfl (g27) rfl ?_
      refine WL.c rfl (o_pickF rfl (g27) ?_)
      exact WL.nil (⟨congrArg Value.bool (by rw [Bool.eq_iff_iff]; simp_all <;> omega), h0, h3, h4, h5, rfl⟩)
  rintro e w ⟨h30, h0, h3, h4, h5, rfl⟩
  refine W.cond h30 (fun c30 => ?_) (fun c30 => ?_)
  · try simp only [decide_eq_true_eq, decide_eq_false_iff_not, Bool.not_eq_true', Bool.not_eq_false', Bool.and_eq_true, Bool.or_eq_true, Bool.and_eq_false_iff, Bool.or_eq_false_iff] at c30
    obtain ⟨hi1, hi2⟩ := c30
    refine W.skip ?_
    refine W.seq ?_
    refine W.block ?_
    refine W.seq ?_
    refine W.region ?_
    refine WL.c rfl (o_as ?_)
    refine WL.nil ?_
    refine W.block ?_
    refine W.loop (fun e w => ∃ (k : Nat) (V : Nat → Value) (vg vw : Value), k ≤ 2 ∧ e 0 = v ∧ e 3 = vg ∧ e 4 = vw ∧ e 5 = .int .i64 (i : Int) ∧ e 6 = .int .i64 (k : Int) ∧ Many w H0 33 5 (8 * i + 4 * k) V (fun j => (tc ss j).length) (fun j => flat (tc ss j)) ∧ w.ownsRow H0 26 1 vg (4 * i + 2 * k) ((List.range (4 * i + 2 * k)).map fun j => V (gi j)) ∧ w.ownsRow H0 26 1 vw (4 * i + 2 * k) ((List.range (4 * i + 2 * k)).map fun j => V (wi j)) ∧ Dj vg vw ∧ H0 ≤ w.heap.size ∧ Ext w0 w) (fun e w => 2 - (intOf (e 6)).toNat) ?_ ?_
    · exact ⟨0, V, vg, vw, by omega, h0, h3, h4, h5, rfl, hM, hg, hw, hD, hzw, hx⟩
    rintro e w ⟨k, V, vg, vw, hk, h0, h3, h4, h5, h6, hM, hg, hw, hD, hzw, hx⟩
    have hm6 := h6
    refine W.seq ?_
    refine W.seq ?_
    by_cases hk2 : k < 2
    · skip
      refine W.region ?_
      refine WL.c rfl (o_mvh h6 ?_)
      refine WL.c rfl (o_lt rfl rfl ?_)
      refine WL.nil ?_
      refine W.condT' rfl (by simp; omega) ?_
      refine W.skip ?_
      refine W.seq ?_
      refine W.block ?_
      refine W.seq ?_
      have hlt0 := fun (j : Nat) (hj : j < 8 * i + 4 * k) (b : Nat) (hb : (V j).ownBlock = some b) => (hM.lt (j := j) hj hb).2
      have hg_lt := hg.lt
      have hw_lt := hw.lt
      refine W.region ?_
      refine WL.c rfl (o_mvh h0 ?_)
      refine WL.c rfl (o_mvh h5 ?_)
      refine WL.c rfl (o_ix1 TI41 TI9 rfl rfl (hS.ext hx) (by omega) ?_)
      intro b40 o40 hc40 hb40
      refine WL.c rfl (o_ld TI9 rfl rfl (hc40.trans (st_one ss i hi1)) ?_)
      refine WL.c rfl (o_call Try.call15 (lc rfl ln) ((cut_spec (ss[i]) _ (hss _ (List.getElem_mem hi1))).mono ?_))
      rintro v42 w42 ⟨vX, rfl, ownX, hx42⟩
      replace hM := hM.ext hx42
      replace hg := own_ext hg hx42
      replace hw := own_ext hw hx42
      replace hx := hx.tr hx42
      have hzX := hx.size
      have ownX_lt := ownX.lt
      have hM_lt := fun (j : Nat) (hj : j < _) (k : Nat) (hk : _ = some k) => (hM.lt (j := j) hj hk).2
      have hg_lt := hg.lt
      have hw_lt := hw.lt
      refine WL.c rfl (o_mv ?_)
      refine WL.c rfl (o_ext rfl rfl ?_)
      refine WL.c rfl (o_ext rfl rfl ?_)
      refine WL.c rfl (o_alB TI29 ?_)
      intro wa8 hFX hxa hsa
      replace hM := hM.ext hxa
      replace hg := own_ext hg hxa
      replace hw := own_ext hw hxa
      replace ownX := own_ext ownX hxa
      replace hx := hx.tr hxa
      refine WL.c rfl (o_as ?_)
      refine WL.u (o_stA TI29 rfl rfl rfl rfl hFX rfl ?_)
      intro wb8 hFX hob hsb
      replace hM := hM.only hob (fun j hj k hk he => by have := hM_lt j hj k hk; omega)
      replace hg := own_only hg hob (fun j hj he => by have := (hg_lt j hj).2; omega)
      replace hw := own_only hw hob (fun j hj he => by have := (hw_lt j hj).2; omega)
      replace ownX := own_only ownX hob (fun j hj he => by have := (ownX_lt j hj).2; omega)
      replace hx := Ext.own hx hzX hob
      clear hob hsb hxa hsa
      have ownX_l0 := ownX_lt
      have hFXl := (Array.getElem?_eq_some_iff.1 hFX).1
      refine WL.nil ?_
      refine W.seq ?_
      refine W.region ?_
      refine WL.c rfl (o_call Try.call15 (lc rfl ln) ((cut_spec ([116, 121, 112, 101, 32, 97, 32, 61, 32, 117, 56, 59]) _ (by decide)).mono ?_))
      rintro v46 w46 ⟨vY, rfl, ownY, hx46⟩
      replace hM := hM.ext hx46
      replace hg := own_ext hg hx46
      replace hw := own_ext hw hx46
      replace ownX := own_ext ownX hx46
      replace hx := hx.tr hx46
      have hzY := hx.size
      have ownY_lt := ownY.lt
      have hM_lt := fun (j : Nat) (hj : j < _) (k : Nat) (hk : _ = some k) => (hM.lt (j := j) hj hk).2
      have hg_lt := hg.lt
      have hw_lt := hw.lt
      have ownX_lt := ownX.lt
      refine WL.c rfl (o_mv ?_)
      refine WL.c rfl (o_ext rfl rfl ?_)
      refine WL.c rfl (o_ext rfl rfl ?_)
      refine WL.c rfl (o_alB TI29 ?_)
      intro wa10 hFY hxa hsa
      replace hM := hM.ext hxa
      replace hg := own_ext hg hxa
      replace hw := own_ext hw hxa
      replace ownX := own_ext ownX hxa
      replace ownY := own_ext ownY hxa
      replace hx := hx.tr hxa
      refine WL.c rfl (o_as ?_)
      refine WL.u (o_stA TI29 rfl rfl rfl rfl hFY rfl ?_)
      intro wb10 hFY hob hsb
      replace hM := hM.only hob (fun j hj k hk he => by have := hM_lt j hj k hk; omega)
      replace hg := own_only hg hob (fun j hj he => by have := (hg_lt j hj).2; omega)
      replace hw := own_only hw hob (fun j hj he => by have := (hw_lt j hj).2; omega)
      replace ownX := own_only ownX hob (fun j hj he => by have := (ownX_lt j hj).2; omega)
      replace ownY := own_only ownY hob (fun j hj he => by have := (ownY_lt j hj).2; omega)
      replace hx := Ext.own hx hzY hob
      clear hob hsb hxa hsa
      have hFYl := (Array.getElem?_eq_some_iff.1 hFY).1
      refine WL.nil ?_
      refine W.seq ?_
      refine W.region ?_
      refine WL.c rfl (o_as ?_)
      refine WL.c rfl (o_as ?_)
      refine WL.nil ?_
      refine W.seq ?_
      have zx := hx42.size
      have zy := hx46.size
      rw [five_cut] at ownY hFY
      have hfewx := cutA_few ss[i]
      have s1 := hM.snocG ownX hzw hlt0 (by rw [tc_x hi1 hk2]) (by rw [tc_x hi1 hk2])
      have s2 := s1.snocG ownY (by omega) (ite_lt (fun j hj k hk => by have := hlt0 j hj k hk; omega) (fun k hk => by have := (ownX_l0 k hk).2; omega)) (by rw [tc_y (by omega)]) (by rw [tc_y (by omega)])
      have hgl := hg.lt
      have hwl := hw.lt
      refine W.region ?_
      refine WL.c rfl (o_mvh h3 ?_)
      refine WL.c rfl (o_mv ?_)
      refine WL.c rfl (o_mv ?_)
      refine WL.c rfl (o_bsn (vs := [vX, vY]) (xs := [(.tmp 50), (.tmp 51)]) TI42 TI26 rfl (lc rfl (lc rfl ln)) (by show List.all [vX, vY] (·.oneCell') = true; simp [own_one ownX, own_one ownY]) rfl (by decide) (by decide) ?_)
      have hbl : (wb10.alloc (Obj.cells [vX, vY].toArray 26)).heap[wb10.heap.size]? = some (.cells [vX, vY].toArray 26 (0, 0)) := heap_alloc_new _ _
      have hxl := Only.alloc wb10 (Obj.cells [vX, vY].toArray 26)
      have hzl : (wb10.alloc (Obj.cells [vX, vY].toArray 26)).heap.size = wb10.heap.size + 1 := by show (Array.push _ _).size = _; simp
      generalize wb10.alloc (Obj.cells [vX, vY].toArray 26) = w52 at hbl hxl hzl ⊢
      have hl52 : w52.ownsRow H0 26 1 (.slice (some ⟨wb10.heap.size, 0, none⟩) 2 2) 2 [vX, vY] := ⟨rfl, .inr ⟨_, _, _, rfl, by omega, hbl, by omega, by rw [maxLen_eq]; omega, rfl, rfl⟩⟩
      replace s2 := s2.ext hxl
      replace hg := own_ext hg hxl
      replace hw := own_ext hw hxl
      replace ownX := own_ext ownX hxl
      replace ownY := own_ext ownY hxl
      replace hFY := hxl.blk hFY (fun h => h)
      replace hx := hx.tr hxl
      refine WL.c rfl (o_apO (H0) TI42 TI26 rfl (show _ = Value.slice _ _ _ from rfl) hg (Sl.own hl52) rfl (by decide) (by intro a ha; simp at ha; rcases ha with rfl | rfl; exact own_one ownX; exact own_one ownY) (by rw [maxLen_eq]; omega) (by omega) (by omega) ?_)
      intro vg1 w53 hg1 hog hbg hSg
      have hgt := own_off hg hFY (by decide)
      replace hFY := hog.blk hFY hgt
      replace ownX := own_only ownX hog (own_row_off hg ownX (by decide))
      replace ownY := own_only ownY hog (own_row_off hg ownY (by decide))
      replace s2 := s2.other hg (by decide) hog
      replace hw := own_only hw hog hD.symm
      have hD1 : Dj vg1 vw := hD.step hbg (fun k hk => by have := (hwl k hk).2; omega)
      replace hx := Ext.many hx hz0 hog (fun k hk => (hg.lt k hk).1)
      have hz53 := hog.size
      clear hog hSg hbg hg
      refine WL.c rfl (o_as ?_)
      refine WL.nil ?_
      refine W.seq ?_
      refine W.region ?_
      refine WL.c rfl (o_mvh h4 ?_)
      refine WL.c rfl (o_mv ?_)
      refine WL.c rfl (o_mv ?_)
      refine WL.c rfl (o_apO (w53.heap.size) TI26 TI33 rfl rfl (World.ownsRow_nil _ _ _ _) (Sl.own ownX) rfl (by decide) (tok_ones _) (by rw [maxLen_eq]; omega) (by omega) (Nat.le_refl _) ?_)
      intro v57 w57 hc57 hoc hbc hSc
      rw [Nat.zero_add, List.nil_append] at hc57
      have hec : Ext w53 w57 := hoc.mono (fun j _ h => by cases h)
      have s3 := (s2.ext hec).snocG hc57 (by omega) (fun j hj k hk => (s2.lt hj hk).2) (by rw [tc_x2 hi1 hk2]) (by rw [tc_x2 hi1 hk2])
      replace ownY := own_ext ownY hec
      replace hFY := hec.blk hFY (fun h => h)
      replace hg1 := own_ext hg1 hec
      replace hw := own_ext hw hec
      replace hx := hx.tr hec
      have hz57 := hec.size
      clear hoc hbc hSc hec
      refine WL.c rfl (o_mv ?_)
      refine WL.c rfl (o_mv ?_)
      refine WL.c rfl (o_apO (w57.heap.size) TI26 TI33 rfl rfl (World.ownsRow_nil _ _ _ _) (Sl.own ownY) rfl (by decide) (tok_ones _) (by decide) (by decide) (Nat.le_refl _) ?_)
      intro v60 w60 hc60 hoc hbc hSc
      rw [Nat.zero_add, List.nil_append] at hc60
      have hec : Ext w57 w60 := hoc.mono (fun j _ h => by cases h)
      have s4 := (s3.ext hec).snocG hc60 (by omega) (fun j hj k hk => (s3.lt hj hk).2) (by rw [tc_y (by omega)]) (by rw [tc_y (by omega)])
      obtain ⟨V4, hV4⟩ : ∃ V4 : Nat → Value, V4 = fun j => if j = 8 * i + 4 * k + 1 + 1 + 1 then v60 else if j = 8 * i + 4 * k + 1 + 1 then v57 else if j = 8 * i + 4 * k + 1 then vY else if j = 8 * i + 4 * k then vX else V j := ⟨_, rfl⟩
      rw [← hV4] at s4
      have hM4 : Many w60 H0 33 5 (8 * i + 4 * (k + 1)) V4 (fun j => (tc ss j).length) (fun j => flat (tc ss j)) := s4
      have eo : ∀ j, j < 8 * i + 4 * k → V4 j = V j := fun j hj => by rw [hV4]; dsimp only; rw [if_neg (by omega), if_neg (by omega), if_neg (by omega), if_neg (by omega)]
      have e0 : V4 (8 * i + 4 * k) = vX := by rw [hV4]; dsimp only; rw [if_neg (by omega), if_neg (by omega), if_neg (by omega), if_pos rfl]
      have e1 : V4 (8 * i + 4 * k + 1) = vY := by rw [hV4]; dsimp only; rw [if_neg (by omega), if_neg (by omega), if_pos rfl]
      have e2 : V4 (8 * i + 4 * k + 2) = v57 := by rw [hV4]; dsimp only; rw [if_neg (by omega), if_pos rfl]
      have e3 : V4 (8 * i + 4 * k + 3) = v60 := by rw [hV4]; dsimp only; rw [if_pos rfl]
      have gq : gi (4 * i + 2 * k) = 8 * i + 4 * k := by unfold gi; omega
      have gq1 : gi (4 * i + 2 * k + 1) = 8 * i + 4 * k + 1 := by unfold gi; omega
      replace hg1 := own_ext hg1 hec
      replace hw := own_ext hw hec
      rw [← list_congrF (V' := V4) (fun j hj => eo _ (by unfold gi; omega))] at hg1
      rw [← list_congrF (V' := V4) (fun j hj => eo _ (by unfold wi gi; omega))] at hw
      replace hg1 : w60.ownsRow H0 26 1 vg1 (4 * i + 2 * (k + 1)) ((List.range (4 * i + 2 * (k + 1))).map fun j => V4 (gi j)) := by
        rw [show 4 * i + 2 * (k + 1) = 4 * i + 2 * k + 2 by omega, range2 V4 gi, gq, gq1, e0, e1]; exact hg1
      replace hFY := hec.blk hFY (fun h => h)
      replace hx := hx.tr hec
      have hz60 := hec.size
      have hc57' := own_ext hc57 hec
      have hgl1 := hg1.lt
      refine WL.c rfl (o_bsn (vs := [v57, v60]) (xs := [(.tmp 57), (.tmp 60)]) TI42 TI26 rfl (lc rfl (lc rfl ln)) (by show List.all [v57, v60] (·.oneCell') = true; simp [own_one hc57', own_one hc60]) rfl (by decide) (by decide) ?_)
      have hbl : (w60.alloc (Obj.cells [v57, v60].toArray 26)).heap[w60.heap.size]? = some (.cells [v57, v60].toArray 26 (0, 0)) := heap_alloc_new _ _
      have hxl := Only.alloc w60 (Obj.cells [v57, v60].toArray 26)
      have hzl : (w60.alloc (Obj.cells [v57, v60].toArray 26)).heap.size = w60.heap.size + 1 := by show (Array.push _ _).size = _; simp
      generalize w60.alloc (Obj.cells [v57, v60].toArray 26) = w61 at hbl hxl hzl ⊢
      have hl61 : w61.ownsRow H0 26 1 (.slice (some ⟨w60.heap.size, 0, none⟩) 2 2) 2 [v57, v60] := ⟨rfl, .inr ⟨_, _, _, rfl, by omega, hbl, by omega, by rw [maxLen_eq]; omega, rfl, rfl⟩⟩
      replace hM4 := hM4.ext hxl
      replace hg1 := own_ext hg1 hxl
      replace hw := own_ext hw hxl
      replace hFY := hxl.blk hFY (fun h => h)
      replace hx := hx.tr hxl
      refine WL.c rfl (o_apO (H0) TI42 TI26 rfl (show _ = Value.slice _ _ _ from rfl) hw (Sl.own hl61) rfl (by decide) (by intro a ha; simp at ha; rcases ha with rfl | rfl; exact own_one hc57'; exact own_one hc60) (by rw [maxLen_eq]; omega) (by omega) (by omega) ?_)
      intro vw1 w62 hw1 how hbw hSw
      have hwt := own_off hw hFY (by decide)
      replace hFY := how.blk hFY hwt
      replace hM4 := hM4.other hw (by decide) how
      replace hg1 := own_only hg1 how hD1
      replace hD1 : Dj vg1 vw1 := (hD1.symm.step hbw (fun k hk => by have := (hgl1 k hk).2; omega)).symm
      replace hw1 : w62.ownsRow H0 26 1 vw1 (4 * i + 2 * (k + 1)) ((List.range (4 * i + 2 * (k + 1))).map fun j => V4 (wi j)) := by
        rw [show 4 * i + 2 * (k + 1) = 4 * i + 2 * k + 2 by omega, range2 V4 wi, show wi (4 * i + 2 * k) = 8 * i + 4 * k + 2 by unfold wi; omega, show wi (4 * i + 2 * k + 1) = 8 * i + 4 * k + 3 by unfold wi; omega, e2, e3]; exact hw1
      replace hx := Ext.many hx hz0 how (fun k hk => (hw.lt k hk).1)
      have hz62 := how.size
      have hSY : Sl w62 5 vY 5 (flat five) := by have := hM4.row (8 * i + 4 * k + 1) (by omega); rw [e1] at this; have h2 := Sl.own this; rw [tc_y (by omega)] at h2; exact h2
      clear how hSw hbw hw
      refine WL.c rfl (o_as ?_)
      refine WL.nil ?_
      refine W.seq ?_
      refine W.region ?_
      refine WL.c rfl (o_ldA TI29 rfl rfl (cells_all hFY) rfl ?_)
      refine WL.c rfl (o_bldC (cs := [(.int .i64 0), (.int .i64 0)]) TI29 (Sizes.cons TI27 (Sizes.cons TI3 Sizes.nil)) rfl lnp rfl rfl ?_)
      refine WL.c rfl (o_neR TI29 (by kernel_rfl) (by kernel_rfl) rfl rfl (.int TI27 (by decide) rfl rfl (.int TI3 (by decide) rfl rfl .nil)) ?_)
      refine WL.c rfl (o_mv ?_)
      refine WL.g rfl (by simp) rfl (o_mv ?_)
      refine WL.g rfl (by simp) rfl (o_lenR TI26 rfl hSY ?_)
      refine WL.g rfl (by simp) rfl (o_ne rfl rfl ?_)
      refine WL.c rfl (o_pickO rfl rfl ?_)
      refine WL.nil ?_
      refine W.condF' rfl (by simp) ?_
      refine W.skip ?_
      refine W.region ?_
      refine WL.c rfl (o_mvh h6 ?_)
      refine WL.c rfl (o_addi rfl rfl (by omega) ?_)
      refine WL.c rfl (o_as ?_)
      refine WL.nil ?_
      refine ⟨⟨k + 1, V4, vg1, vw1, by omega, h0, rfl, rfl, h5, rfl, hM4, hg1, hw1, hD1, by omega, hx⟩, ?_⟩
      show 2 - ((k : Int) + 1).toNat < _
      rw [hm6]; simp [intOf]; omega
    · skip
      have hk : k = 2 := by omega
      subst hk
      replace hM := (show 8 * i + 4 * 2 = 8 * (i + 1) by omega) ▸ hM
      replace hg := (show 4 * i + 2 * 2 = 4 * (i + 1) by omega) ▸ hg
      replace hw := (show 4 * i + 2 * 2 = 4 * (i + 1) by omega) ▸ hw
      refine W.region ?_
      refine WL.c rfl (o_mvh h6 ?_)
      refine WL.c rfl (o_lt rfl rfl ?_)
      refine WL.nil ?_
      refine W.condF' rfl (by simp) ?_
      refine W.exit ?_
      refine W.region ?_
      refine WL.c rfl (o_mvh h5 ?_)
      refine WL.c rfl (o_addi rfl rfl (by omega) ?_)
      refine WL.c rfl (o_as ?_)
      refine WL.nil ?_
      refine ⟨⟨i + 1, V, vg, vw, by omega, by omega, h0, h3, h4, rfl, hM, hg, hw, hD, hzw, hx⟩, ?_⟩
      show 20 - ((i : Int) + 1).toNat < _
      rw [hm5]; simp [intOf]; omega
  · try simp only [decide_eq_true_eq, decide_eq_false_iff_not, Bool.not_eq_true', Bool.not_eq_false', Bool.and_eq_true, Bool.or_eq_true, Bool.and_eq_false_iff, Bool.or_eq_false_iff] at c30
    refine W.exit ?_
    refine W.seq ?_
    refine W.seq ?_
    refine W.region ?_
    refine WL.c rfl (o_as ?_)
    refine WL.nil ?_
    refine W.block ?_
    refine W.loop (fun e w => ∃ q : Nat, q ≤ 4 * i ∧ e 3 = vg ∧ e 4 = vw ∧ e 13 = .int .i64 (q : Int) ∧ Many w H0 33 5 (8 * i) V (fun j => (tc ss j).length) (fun j => flat (tc ss j)) ∧ w.ownsRow H0 26 1 vg (4 * i) ((List.range (4 * i)).map fun j => V (gi j)) ∧ w.ownsRow H0 26 1 vw (4 * i) ((List.range (4 * i)).map fun j => V (wi j)) ∧ H0 ≤ w.heap.size ∧ Ext w0 w) (fun e w => 4 * i - (intOf (e 13)).toNat) ?_ ?_
    · exact ⟨0, by omega, h3, h4, rfl, hM, hg, hw, hzw, hx⟩
    rintro e w ⟨q, hq, h3, h4, h13, hM, hg, hw, hzw, hx⟩
    have hm13 := h13
    have h3v := h3
    have h4v := h4
    refine W.seq ?_
    refine W.seq ?_
    by_cases hq1 : q < 4 * i
    · skip
      refine W.region ?_
      refine WL.c rfl (o_mvh h13 ?_)
      refine WL.c rfl (o_mvh h3 ?_)
      refine WL.c rfl (o_lenR TI42 rfl (Sl.own hg) ?_)
      refine WL.c rfl (o_lt rfl rfl ?_)
      refine WL.nil ?_
      refine W.condT' rfl (by simp; omega) ?_
      refine W.skip ?_
      refine W.seq ?_
      refine W.block ?_
      refine W.seq ?_
      obtain ⟨g1, cg, hvg, -⟩ := own_some hg (by omega)
      obtain ⟨g2, cw, hvw, -⟩ := own_some hw (by omega)
      rw [hvg] at h3
      rw [hvw] at h4
      have hge := hg
      have hwe := hw
      rw [hvg] at hge
      rw [hvw] at hwe
      have hai : ∀ k, Sl (w.drewN k) 5 (V (gi q)) (tc ss (gi q)).length (flat (tc ss (gi q))) := fun k => (Sl.own (hM.row (gi q) (by unfold gi; omega))).ext (Only.drewN _ _)
      have hbi : ∀ k, Sl (w.drewN k) 5 (V (wi q)) (tc ss (wi q)).length (flat (tc ss (wi q))) := fun k => (Sl.own (hM.row (wi q) (by unfold wi gi; omega))).ext (Only.drewN _ _)
      refine W.quiet rfl (by kernel_rfl) ?_
      refine WQ.c rfl ((QO.o rfl fun _ => o_mvh h3 ⟨rfl, rfl⟩)) ?_
      refine WQ.c rfl ((QO.o rfl fun _ => o_mvh h13 ⟨rfl, rfl⟩)) ?_
      refine WQ.c rfl ((QO.o rfl fun _ => o_ixB TI42 TI26 rfl rfl (by omega) ⟨rfl, rfl⟩)) ?_
      refine WQ.c rfl ((QO.o rfl fun _ => o_ld TI26 rfl rfl (own_at hge (list_atF hq1)) ⟨rfl, rfl⟩)) ?_
      refine WQ.c rfl ((QO.o rfl fun _ => o_mvh h4 ⟨rfl, rfl⟩)) ?_
      refine WQ.c rfl ((QO.o rfl fun _ => o_mvh h13 ⟨rfl, rfl⟩)) ?_
      refine WQ.c rfl ((QO.o rfl fun _ => o_ixB TI42 TI26 rfl rfl (by omega) ⟨rfl, rfl⟩)) ?_
      refine WQ.c rfl ((QO.o rfl fun _ => o_ld TI26 rfl rfl (own_at hwe (list_atF hq1)) ⟨rfl, rfl⟩)) ?_
      refine WQ.c rfl (QO.call Try.call19 (lc rfl (lc rfl ln)) (fun _ => Ca.drawn (same_spec (V (gi q)) (V (wi q)) (tc ss (gi q)) (tc ss (wi q)) _ (hai _) (hbi _) (by have := tc_few ss (gi q); omega)))) ?_
      refine WQ.c rfl ((QO.o rfl fun _ => o_not' rfl ⟨rfl, rfl⟩)) ?_
      refine WQ.nil ?_
      intro nq
      refine W.condF' rfl (by simp [tc_wi]) ?_
      refine W.skip ?_
      refine W.region ?_
      refine WL.c rfl (o_mvh h13 ?_)
      refine WL.c rfl (o_addi rfl rfl (by omega) ?_)
      refine WL.c rfl (o_as ?_)
      refine WL.nil ?_
      refine ⟨⟨q + 1, by omega, h3v, h4v, rfl, hM.ext (Only.drewN _ nq), own_ext hg (Only.drewN _ nq), own_ext hw (Only.drewN _ nq), hzw, hx.tr (Only.drewN _ nq)⟩, ?_⟩
      show 4 * i - ((q : Int) + 1).toNat < _
      rw [hm13]; simp [intOf]; omega
    · skip
      refine W.region ?_
      refine WL.c rfl (o_mvh h13 ?_)
      refine WL.c rfl (o_mvh h3 ?_)
      refine WL.c rfl (o_lenR TI42 rfl (Sl.own hg) ?_)
      refine WL.c rfl (o_lt rfl rfl ?_)
      refine WL.nil ?_
      refine W.condF' rfl (by simp; omega) ?_
      refine W.exit ?_
      refine W.seq ?_
      refine W.seq ?_
      refine W.region ?_
      refine WL.c rfl (o_as ?_)
      refine WL.nil ?_
      refine W.block ?_
      refine W.loop (fun e w => ∃ (k : Nat) (X : Nat → List Value), k ≤ 4 * i ∧ e 3 = vg ∧ e 14 = .int .i64 (k : Int) ∧ Many w H0 33 5 (8 * i) V (fun j => (tc ss j).length) X ∧ (∀ q, q < 4 * i → X (gi q) = if q < k then full q (tc ss (gi q)).length else flat (tc ss (gi q))) ∧ w.ownsRow H0 26 1 vg (4 * i) ((List.range (4 * i)).map fun j => V (gi j)) ∧ H0 ≤ w.heap.size ∧ Ext w0 w) (fun e w => 4 * i - (intOf (e 14)).toNat) ?_ ?_
      · exact ⟨0, _, by omega, h3v, rfl, hM, fun q _ => by simp, hg, hzw, hx⟩
      rintro e w ⟨k, X, hk, h3, h14, hM, hXg, hg, hzw, hx⟩
      have hm14 := h14
      have h3v := h3
      refine W.seq ?_
      refine W.seq ?_
      by_cases hk1 : k < 4 * i
      · skip
        refine W.region ?_
        refine WL.c rfl (o_mvh h14 ?_)
        refine WL.c rfl (o_mvh h3 ?_)
        refine WL.c rfl (o_lenR TI42 rfl (Sl.own hg) ?_)
        refine WL.c rfl (o_lt rfl rfl ?_)
        refine WL.nil ?_
        refine W.condT' rfl (by simp; omega) ?_
        refine W.skip ?_
        refine W.seq ?_
        refine W.block ?_
        refine W.seq ?_
        obtain ⟨g1, cg, hvg, -⟩ := own_some hg (by omega)
        refine W.region ?_
        refine WL.c rfl (o_as ?_)
        refine WL.nil ?_
        refine W.block ?_
        refine W.loop (fun e w => ∃ (r : Nat) (X : Nat → List Value), r ≤ (tc ss (gi k)).length ∧ e 3 = vg ∧ e 14 = .int .i64 (k : Int) ∧ e 15 = .int .i64 (r : Int) ∧ Many w H0 33 5 (8 * i) V (fun j => (tc ss j).length) X ∧ (∀ q, q < 4 * i → X (gi q) = if q < k then full q (tc ss (gi q)).length else if q = k then full k r ++ (flat (tc ss (gi k))).drop (r * 5) else flat (tc ss (gi q))) ∧ w.ownsRow H0 26 1 vg (4 * i) ((List.range (4 * i)).map fun j => V (gi j)) ∧ H0 ≤ w.heap.size ∧ Ext w0 w) (fun e w => (tc ss (gi k)).length - (intOf (e 15)).toNat) ?_ ?_
        · refine ⟨0, X, Nat.zero_le _, h3v, h14, rfl, hM, fun q hq => ?_, hg, hzw, hx⟩
          rw [hXg q hq]
          by_cases e1 : q < k
          · rw [if_pos e1, if_pos e1]
          · rw [if_neg e1, if_neg e1]
            by_cases e2 : q = k
            · subst e2; rw [if_pos rfl]; rfl
            · rw [if_neg e2]
        rintro e w ⟨r, X, hr, h3, h14, h15, hM, hXg, hg, hzw, hx⟩
        have hm15 := h15
        have h3v := h3
        rw [hvg] at h3
        have hge := hg
        rw [hvg] at hge
        have hgk24 : gi k < 8 * i := by unfold gi; omega
        have hrk := hM.row (gi k) hgk24
        rw [hXg k hk1, if_neg (by omega), if_pos rfl] at hrk
        have hkl := tc_few ss (gi k)
        refine W.seq ?_
        refine W.seq ?_
        by_cases hr2 : r < (tc ss (gi k)).length
        · skip
          refine W.region ?_
          refine WL.c rfl (o_mvh h15 ?_)
          refine WL.c rfl (o_mvh h3 ?_)
          refine WL.c rfl (o_mvh h14 ?_)
          refine WL.c rfl (o_ixB TI42 TI26 rfl rfl (by omega) ?_)
          refine WL.c rfl (o_ld TI26 rfl rfl (own_at hge (list_atF hk1)) ?_)
          refine WL.c rfl (o_lenR TI26 rfl (Sl.own hrk) ?_)
          refine WL.c rfl (o_lt rfl rfl ?_)
          refine WL.nil ?_
          refine W.condT' rfl (by simp; omega) ?_
          refine W.skip ?_
          refine W.seq ?_
          refine W.block ?_
          have hgk := own_row_off hrk hg (by decide)
          obtain ⟨gk, ck, hvk, hbk⟩ := own_some hrk (by omega)
          refine W.region ?_
          refine WL.c rfl (o_mvh h3 ?_)
          refine WL.c rfl (o_mvh h14 ?_)
          refine WL.c rfl (o_ixB TI42 TI26 rfl rfl (by omega) ?_)
          refine WL.c rfl (o_ld TI26 rfl rfl ((own_at hge (list_atF hk1)).trans (congrArg some hvk)) ?_)
          refine WL.c rfl (o_mvh h15 ?_)
          refine WL.c rfl (o_mvh h14 ?_)
          refine WL.c rfl (o_subi rfl rfl (by omega) ?_)
          refine WL.c rfl (o_mvh h15 ?_)
          refine WL.c rfl (o_bldC (cs := [_, (.string ⟨#[]⟩), _, (.int .i64 0), (.int .i64 0)]) TI33 (Sizes.cons TI3 (Sizes.cons TI9 (Sizes.cons TI3 (Sizes.cons TI3 (Sizes.cons TI3 Sizes.nil))))) rfl (lcp (show _ = Value.int _ _ from rfl) (lcp (show _ = Value.int _ _ from rfl) lnp)) rfl rfl ?_)
          refine WL.c rfl (o_ixB TI26 TI33 rfl rfl (hr2) ?_)
          refine WL.u (o_stRA (i := r) TI33 rfl (by omega) rfl rfl rfl hrk hbk hr2 ?_)
          intro w28 hr28 ho28 hs28
          have hr28' : w28.ownsRow H0 33 5 (V (gi k)) (tc ss (gi k)).length (full k (r + 1) ++ (flat (tc ss (gi k))).drop ((r + 1) * 5)) := by rw [← rep5 k _ r hr2]; exact hr28
          have hM28 := (hM.set hgk24 ho28 hr28').congr (n' := fun j => (tc ss j).length) (fun _ _ => rfl) (fun j _ => by by_cases e : j = gi k <;> simp [e]) (fun _ _ => rfl)
          refine WL.nil ?_
          refine W.region ?_
          refine WL.c rfl (o_mvh h15 ?_)
          refine WL.c rfl (o_addi rfl rfl (by omega) ?_)
          refine WL.c rfl (o_as ?_)
          refine WL.nil ?_
          refine ⟨⟨r + 1, _, by omega, h3v, h14, rfl, hM28, fun q hq => ?_, own_only hg ho28 hgk, by omega, Ext.many hx hz0 ho28 (fun k hk => (hrk.lt k hk).1)⟩, ?_⟩
          · by_cases e2 : q = k
            · subst e2
              simp only [if_pos]
              rw [if_neg (by omega)]
            · have e3 : gi q ≠ gi k := fun h => e2 (gi_inj h)
              simp only [if_neg e3]
              rw [hXg q hq, if_neg e2, if_neg e2]
          · show (tc ss (gi k)).length - ((r : Int) + 1).toNat < _
            rw [hm15]; simp [intOf]; omega
        · skip
          refine W.region ?_
          refine WL.c rfl (o_mvh h15 ?_)
          refine WL.c rfl (o_mvh h3 ?_)
          refine WL.c rfl (o_mvh h14 ?_)
          refine WL.c rfl (o_ixB TI42 TI26 rfl rfl (by omega) ?_)
          refine WL.c rfl (o_ld TI26 rfl rfl (own_at hge (list_atF hk1)) ?_)
          refine WL.c rfl (o_lenR TI26 rfl (Sl.own hrk) ?_)
          refine WL.c rfl (o_lt rfl rfl ?_)
          refine WL.nil ?_
          refine W.condF' rfl (by simp; omega) ?_
          refine W.exit ?_
          refine W.region ?_
          refine WL.c rfl (o_mvh h14 ?_)
          refine WL.c rfl (o_addi rfl rfl (by omega) ?_)
          refine WL.c rfl (o_as ?_)
          refine WL.nil ?_
          refine ⟨⟨k + 1, X, by omega, h3v, rfl, hM, fun q hq => ?_, hg, hzw, hx⟩, ?_⟩
          · rw [hXg q hq]
            by_cases e1 : q < k
            · rw [if_pos e1, if_pos (by omega)]
            · rw [if_neg e1]
              by_cases e2 : q = k
              · subst e2
                rw [if_pos rfl, if_pos (by omega)]
                have : r = (tc ss (gi q)).length := by omega
                rw [this, List.drop_eq_nil_of_le (by rw [flat_len]; omega), List.append_nil]
              · rw [if_neg e2, if_neg (by omega)]
          · show 4 * i - ((k : Int) + 1).toNat < _
            rw [hm14]; simp [intOf]; omega
      · skip
        have hk : k = 4 * i := by omega
        subst hk
        refine W.region ?_
        refine WL.c rfl (o_mvh h14 ?_)
        refine WL.c rfl (o_mvh h3 ?_)
        refine WL.c rfl (o_lenR TI42 rfl (Sl.own hg) ?_)
        refine WL.c rfl (o_lt rfl rfl ?_)
        refine WL.nil ?_
        refine W.condF' rfl (by simp) ?_
        refine W.exit ?_
        refine W.seq ?_
        refine W.region ?_
        refine WL.c rfl (o_as ?_)
        refine WL.nil ?_
        have hi80 : i ≤ 20 := by omega
        have hoff : ∀ q q', q < 4 * i → q' < 4 * i → q ≠ q' → Dj (V (gi q)) (V (gi q')) := fun q q' h1 h2 hne k hk => hM.off (gi q) (gi q') (by unfold gi; omega) (by unfold gi; omega) (fun h => hne (gi_inj h)) k hk
        have hlt4 : ∀ q, q < 4 * i → ∀ j, (V (gi q)).ownBlock = some j → j < w.heap.size := fun q hq j hj => (hM.lt (j := gi q) (by unfold gi; omega) hj).2
        have hgl4 := hg.lt
        generalize hHm : w.heap.size = Hm at hlt4 hgl4 hzw
        refine W.seq ?_
        refine W.seq ?_
        refine W.region ?_
        refine WL.c rfl (o_as ?_)
        refine WL.nil ?_
        refine W.block ?_
        refine W.loop (fun e w => ∃ (k : Nat) (V1 : Nat → Value) (n1 : Nat → Nat) (X : Nat → List Value) (vm : Value), k ≤ 4 * i ∧ e 3 = vg ∧ e 16 = vm ∧ e 17 = .int .i64 (k : Int) ∧ Many w H0 33 5 (8 * i) V1 n1 X ∧ (∀ q, q < 4 * i → k ≤ q → V1 (gi q) = V (gi q) ∧ n1 (gi q) = (tc ss (gi q)).length ∧ X (gi q) = full q (tc ss (gi q)).length) ∧ (∀ q, q < k → n1 (gi q) = (tc ss (gi q)).length + 1 ∧ X (gi q) = full q ((tc ss (gi q)).length + 1) ∧ Sl w 5 (V (gi q)) (tc ss (gi q)).length (full q (tc ss (gi q)).length)) ∧ w.ownsRow H0 26 1 vg (4 * i) ((List.range (4 * i)).map fun j => V (gi j)) ∧ w.ownsRow Hm 26 1 vm k ((List.range k).map fun q => V1 (gi q)) ∧ Hm ≤ w.heap.size ∧ Ext w0 w) (fun e w => 4 * i - (intOf (e 17)).toNat) ?_ ?_
        · exact ⟨0, V, _, X, _, by omega, h3v, rfl, rfl, hM, fun q hq _ => ⟨rfl, rfl, by rw [hXg q hq, if_pos hq]⟩, fun q hq => by omega, hg, World.ownsRow_nil _ _ _ _, Nat.le_of_eq hHm.symm, hx⟩
        rintro e w ⟨k, V1, n1, X, vm, hk, h3, h16, h17, hM, hN, hO, hg, hmo, hzm, hx⟩
        have hm17 := h17
        have h3v := h3
        refine W.seq ?_
        refine W.seq ?_
        by_cases hk1 : k < 4 * i
        · skip
          refine W.region ?_
          refine WL.c rfl (o_mvh h17 ?_)
          refine WL.c rfl (o_mvh h3 ?_)
          refine WL.c rfl (o_lenR TI42 rfl (Sl.own hg) ?_)
          refine WL.c rfl (o_lt rfl rfl ?_)
          refine WL.nil ?_
          refine W.condT' rfl (by simp; omega) ?_
          refine W.skip ?_
          refine W.seq ?_
          refine W.block ?_
          obtain ⟨g1, cg, hvg, -⟩ := own_some hg (by omega)
          rw [hvg] at h3
          have hHH : H0 ≤ Hm := hzw
          have hgk24 : gi k < 8 * i := by unfold gi; omega
          obtain ⟨eV, en, eX⟩ := hN k hk1 (Nat.le_refl _)
          have hMd := hM.ext (Only.drew w)
          have hold0 := hMd.row (gi k) hgk24
          rw [eV, en, eX] at hold0
          have hkl := tc_few ss (gi k)
          obtain ⟨ak, ck, hvk⟩ := (Sl.own hold0).isSlice
          have hgd := own_ext hg (Only.drew w)
          have hmod := own_ext hmo (Only.drew w)
          have hgkd := own_row_off hold0 hgd (by decide)
          have hmkd := own_row_off hold0 hmod (by decide)
          have hgde := hgd
          rw [hvg] at hgde
          have hgkde : ∀ j, (Value.slice (some ⟨g1, 0, none⟩) (4 * i) cg).ownBlock = some j → ¬ (V (gi k)).ownBlock = some j := by rw [← hvg]; exact hgkd
          have hxd := hx.tr (Only.drew w)
          have hOd := fun (q : Nat) (hq : q < k) => ((hO q hq).2.2).ext (Only.drew w)
          have hVl := fun (j : Nat) (hj : (V (gi k)).ownBlock = some j) => (hold0.lt j hj).2
          have hVl0 := fun (j : Nat) (hj : (V (gi k)).ownBlock = some j) => (hold0.lt j hj).1
          obtain ⟨Hm1, hHm1⟩ : ∃ x, x = w.drew.heap.size := ⟨_, rfl⟩
          rw [← hHm1] at hVl
          have hzm1 : Hm ≤ Hm1 := by rw [hHm1]; exact hzm
          refine W.drawT 16 (Keeps (V (gi k)) (fun w => w.ownsRow H0 33 5 (V (gi k)) (tc ss (gi k)).length (full k (tc ss (gi k)).length)) (fun w u => w.ownsRow H0 33 5 u ((tc ss (gi k)).length + 1) (full k ((tc ss (gi k)).length + 1)))) [(3, fun v _ => v = _), (16, fun v _ => v = _), (17, fun v _ => v = _)] rfl (by kernel_rfl) Keeps.refl (fun _ _ _ h k => h.trans k) ⟨Mono.eq, Mono.eq, Mono.eq, trivial⟩ ⟨h3, h16, h17, trivial⟩ ?_
          refine WD.p rfl (fun e w hR hh => by obtain ⟨h16, -⟩ := hh; exact SG.n (o_mvh h16 ⟨rfl, Keeps.refl _⟩)) ?_
          refine WD.p rfl (fun e w hR hh => by obtain ⟨h3, -⟩ := hh; exact SG.n (o_mvh h3 ⟨rfl, Keeps.refl _⟩)) ?_
          refine WD.p rfl (fun e w hR hh => by obtain ⟨h17, -⟩ := hh; exact SG.n (o_mvh h17 ⟨rfl, Keeps.refl _⟩)) ?_
          refine WD.p rfl (fun e w hR hh => by obtain ⟨h120, h119, -⟩ := hh; exact SG.n (o_ixB TI42 TI26 h119 h120 (by omega) ⟨rfl, Keeps.refl _⟩)) ?_
          refine WD.p rfl (fun e w hR hh => by obtain ⟨h121, -⟩ := hh; exact SG.n (o_ld TI26 rfl h121 (own_at (own_only hgde hR.only hgkde) (list_atF hk1)) ⟨rfl, Keeps.refl _⟩)) ?_
          refine WD.p rfl (fun e w hR hh => by obtain ⟨h17, -⟩ := hh; exact SG.n (o_mvh h17 ⟨rfl, Keeps.refl _⟩)) ?_
          refine WD.p rfl (fun e w hR hh => by obtain ⟨h123, -⟩ := hh; exact SG.n (o_subi rfl h123 (by omega) ⟨rfl, Keeps.refl _⟩)) ?_
          refine WD.p rfl (fun e w hR hh => by obtain ⟨h3, -⟩ := hh; exact SG.n (o_mvh h3 ⟨rfl, Keeps.refl _⟩)) ?_
          refine WD.p rfl (fun e w hR hh => by obtain ⟨h17, -⟩ := hh; exact SG.n (o_mvh h17 ⟨rfl, Keeps.refl _⟩)) ?_
          refine WD.p rfl (fun e w hR hh => by obtain ⟨h126, h125, -⟩ := hh; exact SG.n (o_ixB TI42 TI26 h125 h126 (by omega) ⟨rfl, Keeps.refl _⟩)) ?_
          refine WD.p rfl (fun e w hR hh => by obtain ⟨h127, -⟩ := hh; exact SG.n (o_ld TI26 rfl h127 ((own_at (own_only hgde hR.only hgkde) (list_atF hk1)).trans (congrArg some hvk)) ⟨rfl, Keeps.refl _⟩)) ?_
          refine WD.p rfl (fun e w hR hh => by obtain ⟨h128, -⟩ := hh; exact SG.n (o_len TI26 h128 ⟨rfl, Keeps.refl _⟩)) ?_
          refine WD.p rfl (fun e w hR hh => by obtain ⟨h129, h124, -⟩ := hh; exact SG.n (o_bldC (cs := [_, (.string ⟨#[]⟩), _, (.int .i64 0), (.int .i64 0)]) TI33 (Sizes.cons TI3 (Sizes.cons TI9 (Sizes.cons TI3 (Sizes.cons TI3 (Sizes.cons TI3 Sizes.nil))))) rfl (lcp h124 (lcp h129 lnp)) rfl rfl ⟨rfl, Keeps.refl _⟩)) ?_
          refine WD.q (fun u w => ∃ b, Hm1 ≤ b ∧ u = .slice (some ⟨b, 0, none⟩) 1 1 ∧ Sl w 5 u 1 (mc k (tc ss (gi k)).length)) (fun _ _ _ hR ⟨b, hb, hv, hS⟩ => ⟨b, hb, hv, hS.only hR.only (fun j hj he => by have := hVl j he; rw [hv] at hj; simp [Value.ownBlock] at hj; omega)⟩) rfl (fun e w hR hh => by obtain ⟨h130, -⟩ := hh; have hH1 : Hm1 ≤ w.heap.size := (by rw [hHm1]; exact hR.only.size); exact SG.n (o_bs1 TI26 TI33 h130 (by decide) (by decide) rfl ⟨⟨_, hH1, rfl, Sl.one rfl⟩, Keeps.ext (Only.alloc _ _) (fun h => own_ext h (Only.alloc _ _)) (fun _ h => own_ext h (Only.alloc _ _))⟩)) ?_
          refine WD.q (fun u w => w.ownsRow H0 33 5 u ((tc ss (gi k)).length + 1) (full k ((tc ss (gi k)).length + 1)) ∧ (u.ownBlock = (V (gi k)).ownBlock ∨ ∃ g, u.ownBlock = some g ∧ Hm1 ≤ g)) (fun _ _ _ hR ⟨h1, h2⟩ => ⟨hR.good _ h1, h2⟩) rfl (fun e w hR hh => by obtain ⟨h131, h122, -⟩ := hh; have hH1 : Hm1 ≤ w.heap.size := (by rw [hHm1]; exact hR.only.size); obtain ⟨b131, hb131, hv131, hS131⟩ := h131; exact SG.n (o_apO (H0) TI26 TI33 h122 rfl (hR.old hold0) hS131 rfl (by decide) (mc_one k _) (by rw [maxLen_eq]; omega) (by omega) (by omega) (fun v1 w1 hr1 ho1 hb1 hk1 => by have hr2 : w1.ownsRow H0 33 5 v1 ((tc ss (gi k)).length + 1) (full k ((tc ss (gi k)).length + 1)) := (by rw [full_succ]; exact hr1); exact ⟨⟨hr2, hb1.elim Or.inl (fun h => Or.inr ⟨_, h, hH1⟩)⟩, ⟨ho1, fun _ => hk1.1, fun u hu => own_keep (hR.old hold0) hk1.1 hr2 hk1.2 ho1 hu⟩⟩))) ?_
          refine WD.q (fun u w => ∃ x, w.ownsRow H0 33 5 x ((tc ss (gi k)).length + 1) (full k ((tc ss (gi k)).length + 1)) ∧ (x.ownBlock = (V (gi k)).ownBlock ∨ ∃ g, x.ownBlock = some g ∧ Hm1 ≤ g) ∧ Sl w 1 u 1 x.cells.toList ∧ ∃ b, Hm1 ≤ b ∧ u = .slice (some ⟨b, 0, none⟩) 1 1) (fun _ _ _ hR ⟨x, h1, h2, hS, b, hb, hv⟩ => ⟨x, hR.good _ h1, h2, hS.only hR.only (fun j hj he => by have := hVl j he; rw [hv] at hj; simp [Value.ownBlock] at hj; omega), b, hb, hv⟩) rfl (fun e w hR hh => by obtain ⟨h132, -⟩ := hh; have hH1 : Hm1 ≤ w.heap.size := (by rw [hHm1]; exact hR.only.size); exact SG.n (o_bs1 (v := e 132) TI42 TI26 rfl (by decide) (by decide) (by rw [own_cells h132.1]; rfl) ⟨⟨_, own_ext h132.1 (Only.alloc _ _), h132.2, Sl.one (by rw [own_cells h132.1]; rfl), _, hH1, rfl⟩, Keeps.ext (Only.alloc _ _) (fun h => own_ext h (Only.alloc _ _)) (fun _ h => own_ext h (Only.alloc _ _))⟩)) ?_
          rintro e w hR ⟨h133, h132, h131, h130, h129, h128, h127, h126, h125, h124, h123, h122, h121, h120, h119, h118, h3, h16, h17, -⟩
          obtain ⟨x, hGx, hbx, hSx, bx, hbx1, hvx⟩ := h133
          rw [own_cells hGx] at hSx
          have hM1 := hbx.elim (fun hb => hMd.grow hgk24 (g := Hm1) (by rw [eV]; exact hR.only) (by rw [eV]; exact .inl hb) (by omega) hGx) (fun ⟨g, hg, hgl⟩ => hMd.grow hgk24 (g := g) (by rw [eV]; exact hR.only) (.inr hg) (by omega) hGx)
          obtain ⟨V2, hV2⟩ : ∃ V2 : Nat → Value, V2 = fun j => if j = gi k then x else V1 j := ⟨_, rfl⟩
          rw [← hV2] at hM1
          have eo : ∀ j, j ≠ gi k → V2 j = V1 j := fun j hj => by rw [hV2]; dsimp only; rw [if_neg hj]
          have en2 : V2 (gi k) = x := by rw [hV2]; dsimp only; rw [if_pos rfl]
          replace hg := own_only hgd hR.only hgkd
          replace hmo := own_only hmod hR.only hmkd
          have hSO1 : ∀ q, q < k → Sl w 5 (V (gi q)) (tc ss (gi q)).length (full q (tc ss (gi q)).length) := fun q hq => (hOd q hq).only hR.only (fun j hj => hoff q k (by omega) hk1 (by omega) j hj)
          have hS132 := Sl.own (hR.old hold0)
          rw [← list_congrF (V' := V2) (fun j hj => eo _ (fun h => by have := gi_inj h; omega))] at hmo
          replace hx := Ext.many hxd hz0 hR.only (fun j hj => hVl0 j hj)
          have hz132 := hR.only.size
          rw [← hHm1] at hz132
          have hmo0 := hmo
          have hx0 := hx
          have h3v := h3.trans hvg.symm
          refine WL.c rfl (o_apO (Hm) TI42 TI26 h118 rfl hmo hSx rfl (by decide) (by intro a ha; simp at ha; rw [ha]; exact own_one hGx) (by rw [maxLen_eq]; omega) (by omega) (by omega) ?_)
          intro vm1 w134 hmo1 hom hbm hSm
          replace hmo1 : w134.ownsRow Hm 26 1 vm1 (k + 1) ((List.range (k + 1)).map fun q => V2 (gi q)) := by rw [list_snocF V2 gi, en2]; exact hmo1
          have hM2 := hM1.other hmo0 (by decide) hom
          replace hg := own_only hg hom (fun j hj he => by have := hgl4 j hj; have := (hmo0.lt j he).1; omega)
          have hSO : ∀ q, q < k → Sl w134 5 (V (gi q)) (tc ss (gi q)).length (full q (tc ss (gi q)).length) := fun q hq => (hSO1 q hq).only hom (fun j hj he => by have := hlt4 q (by omega) j hj; have := (hmo0.lt j he).1; omega)
          have hS2 := hS132.only hom (fun j hj he => by have := hlt4 k hk1 j hj; have := (hmo0.lt j he).1; omega)
          replace hx := Ext.many hx0 (show w0.heap.size ≤ Hm by omega) hom (fun k hk => (hmo0.lt k hk).1)
          have hz134 := hom.size
          refine WL.c rfl (o_as ?_)
          refine WL.nil ?_
          refine W.region ?_
          refine WL.c rfl (o_mvh h17 ?_)
          refine WL.c rfl (o_addi rfl rfl (by omega) ?_)
          refine WL.c rfl (o_as ?_)
          refine WL.nil ?_
          refine ⟨⟨k + 1, V2, _, _, vm1, by omega, h3v, rfl, rfl, hM2, fun q hq hkq => ?_, fun q hq => ?_, hg, hmo1, by omega, hx⟩, ?_⟩
          · have e3 : gi q ≠ gi k := fun h => by have := gi_inj h; omega
            rw [eo _ e3]
            simp only [if_neg e3]
            exact hN q hq (by omega)
          · by_cases e2 : q = k
            · subst e2
              simp only [if_pos]
              exact ⟨trivial, trivial, hS2⟩
            · have e3 : gi q ≠ gi k := fun h => e2 (gi_inj h)
              simp only [if_neg e3]
              exact ⟨(hO q (by omega)).1, (hO q (by omega)).2.1, hSO q (by omega)⟩
          · show 4 * i - ((k : Int) + 1).toNat < _
            rw [hm17]; simp [intOf]; omega
        · skip
          have hk : k = 4 * i := by omega
          subst hk
          refine W.region ?_
          refine WL.c rfl (o_mvh h17 ?_)
          refine WL.c rfl (o_mvh h3 ?_)
          refine WL.c rfl (o_lenR TI42 rfl (Sl.own hg) ?_)
          refine WL.c rfl (o_lt rfl rfl ?_)
          refine WL.nil ?_
          refine W.condF' rfl (by simp) ?_
          refine W.exit ?_
          refine W.seq ?_
          refine W.seq ?_
          refine W.region ?_
          refine WL.c rfl (o_as ?_)
          refine WL.nil ?_
          have hO1 : ∀ q, q < 4 * i → n1 (gi q) = (tc ss (gi q)).length + 1 ∧ X (gi q) = full q ((tc ss (gi q)).length + 1) := fun q hq => ⟨(hO q hq).1, (hO q hq).2.1⟩
          have hO2 := fun q hq => (hO q hq).2.2
          refine W.block ?_
          refine W.loop (fun e w => ∃ q : Nat, q ≤ 4 * i ∧ e 3 = vg ∧ e 16 = vm ∧ e 18 = .int .i64 (q : Int) ∧ Many w H0 33 5 (8 * i) V1 n1 X ∧ (∀ q, q < 4 * i → Sl w 5 (V (gi q)) (tc ss (gi q)).length (full q (tc ss (gi q)).length)) ∧ w.ownsRow H0 26 1 vg (4 * i) ((List.range (4 * i)).map fun j => V (gi j)) ∧ w.ownsRow Hm 26 1 vm (4 * i) ((List.range (4 * i)).map fun q => V1 (gi q)) ∧ Hm ≤ w.heap.size ∧ Ext w0 w) (fun e w => 4 * i - (intOf (e 18)).toNat) ?_ ?_
          · exact ⟨0, by omega, h3v, h16, rfl, hM, hO2, hg, hmo, hzm, hx⟩
          rintro e w ⟨q, hq, h3, h16, h18, hM, hO2, hg, hmo, hzm, hx⟩
          have hm18 := h18
          have h3v := h3
          have h16v := h16
          refine W.seq ?_
          refine W.seq ?_
          by_cases hq1 : q < 4 * i
          · skip
            refine W.region ?_
            refine WL.c rfl (o_mvh h18 ?_)
            refine WL.c rfl (o_mvh h16 ?_)
            refine WL.c rfl (o_lenR TI42 rfl (Sl.own hmo) ?_)
            refine WL.c rfl (o_lt rfl rfl ?_)
            refine WL.nil ?_
            refine W.condT' rfl (by simp; omega) ?_
            refine W.skip ?_
            refine W.seq ?_
            refine W.block ?_
            refine W.seq ?_
            refine W.region ?_
            refine WL.c rfl (o_as ?_)
            refine WL.nil ?_
            refine W.block ?_
            refine W.loop (fun e w => ∃ r : Nat, r ≤ (tc ss (gi q)).length + 1 ∧ e 3 = vg ∧ e 16 = vm ∧ e 18 = .int .i64 (q : Int) ∧ e 19 = .int .i64 (r : Int) ∧ Many w H0 33 5 (8 * i) V1 n1 X ∧ (∀ q, q < 4 * i → Sl w 5 (V (gi q)) (tc ss (gi q)).length (full q (tc ss (gi q)).length)) ∧ w.ownsRow H0 26 1 vg (4 * i) ((List.range (4 * i)).map fun j => V (gi j)) ∧ w.ownsRow Hm 26 1 vm (4 * i) ((List.range (4 * i)).map fun q => V1 (gi q)) ∧ Hm ≤ w.heap.size ∧ Ext w0 w) (fun e w => (tc ss (gi q)).length + 1 - (intOf (e 19)).toNat) ?_ ?_
            · exact ⟨0, by omega, h3v, h16v, h18, rfl, hM, hO2, hg, hmo, hzm, hx⟩
            rintro e w ⟨r, hr, h3, h16, h18, h19, hM, hO2, hg, hmo, hzm, hx⟩
            have hm19 := h19
            have h3v := h3
            have h16v := h16
            obtain ⟨g3, c3, hvm, -⟩ := own_some hmo (by omega)
            obtain ⟨g1, cg, hvg, -⟩ := own_some hg (by omega)
            rw [hvm] at h16
            rw [hvg] at h3
            have hme := hmo
            rw [hvm] at hme
            have hgq24 : gi q < 8 * i := by unfold gi; omega
            have hrq := hM.row (gi q) hgq24
            rw [(hO1 q hq1).1, (hO1 q hq1).2] at hrq
            obtain ⟨gq, cq, hvq, hbq⟩ := own_some hrq (by omega)
            have hql := tc_few ss (gi q)
            refine W.seq ?_
            refine W.seq ?_
            by_cases hr2 : r < (tc ss (gi q)).length + 1
            · skip
              refine W.region ?_
              refine WL.c rfl (o_mvh h19 ?_)
              refine WL.c rfl (o_mvh h16 ?_)
              refine WL.c rfl (o_mvh h18 ?_)
              refine WL.c rfl (o_ixB TI42 TI26 rfl rfl (by omega) ?_)
              refine WL.c rfl (o_ld TI26 rfl rfl (own_at hme (list_atF hq1)) ?_)
              refine WL.c rfl (o_lenR TI26 rfl (Sl.own hrq) ?_)
              refine WL.c rfl (o_lt rfl rfl ?_)
              refine WL.nil ?_
              refine W.condT' rfl (by simp; omega) ?_
              refine W.skip ?_
              refine W.seq ?_
              refine W.block ?_
              refine W.seq ?_
              have hMl := fun (j : Nat) (hj : j < 8 * i) (k : Nat) (hk : (V1 j).ownBlock = some k) => (hM.lt (j := j) hj hk).2
              have hgl := hg.lt
              have hml := hmo.lt
              have hxz := hx.size
              refine W.region ?_
              refine WL.c rfl (o_mvh h18 ?_)
              refine WL.c rfl (o_subi rfl rfl (by omega) ?_)
              refine WL.c rfl (o_mvh h19 ?_)
              refine WL.c rfl (o_bldC (cs := [_, (.string ⟨#[]⟩), _, (.int .i64 0), (.int .i64 0)]) TI33 (Sizes.cons TI3 (Sizes.cons TI9 (Sizes.cons TI3 (Sizes.cons TI3 (Sizes.cons TI3 Sizes.nil))))) rfl (lcp (show _ = Value.int _ _ from rfl) (lcp (show _ = Value.int _ _ from rfl) lnp)) rfl rfl ?_)
              refine WL.c rfl (o_alB TI33 ?_)
              intro w20 hB20 hx20 hs20
              replace hM := hM.ext hx20
              replace hO2 := fun q hq => (hO2 q hq).ext hx20
              replace hg := own_ext hg hx20
              replace hmo := own_ext hmo hx20
              replace hx := hx.tr hx20
              refine WL.u (o_stA TI33 rfl rfl rfl rfl hB20 rfl ?_)
              intro w21 hB20 ho20 hs21
              replace hB20 : w21.heap[w.heap.size]? = some (.cells (mc q r).toArray 33 (0, 0)) := hB20
              replace hM := hM.only ho20 (fun j hj k hk he => by have := hMl j hj k hk; omega)
              replace hO2 := fun q' hq' => (hO2 q' hq').only ho20 (fun j hj he => by have := hlt4 q' hq' j hj; omega)
              replace hg := own_only hg ho20 (fun j hj he => by have := (hgl j hj).2; omega)
              replace hmo := own_only hmo ho20 (fun j hj he => by have := (hml j hj).2; omega)
              replace hx := Ext.own hx (by omega) ho20
              refine WL.nil ?_
              refine W.seq ?_
              have hme2 := hmo
              rw [hvm] at hme2
              have hge2 := hg
              rw [hvg] at hge2
              have hrq2 := hM.row (gi q) hgq24
              rw [(hO1 q hq1).1, (hO1 q hq1).2, hvq] at hrq2
              have hcr := own_cellsAt hrq2 r
              rw [full_at q _ r hr2] at hcr
              obtain ⟨a2, c2, hv2⟩ := (hO2 q hq1).isSlice
              by_cases hrl : r < (tc ss (gi q)).length
              · skip
                rcases (hO2 q hq1).val with ⟨hz, -⟩ | ⟨b2, o2, c2', hv2', -, hc2⟩
                · omega
                have hcs2 := hc2.sub (r * 5) 5
                rw [full_at q _ r hrl] at hcs2
                refine W.quiet rfl (by kernel_rfl) ?_
                refine WQ.c rfl ((QO.o rfl fun _ => o_mvh h16 ⟨rfl, rfl⟩)) ?_
                refine WQ.c rfl ((QO.o rfl fun _ => o_mvh h18 ⟨rfl, rfl⟩)) ?_
                refine WQ.c rfl ((QO.o rfl fun _ => o_ixB TI42 TI26 rfl rfl (by omega) ⟨rfl, rfl⟩)) ?_
                refine WQ.c rfl ((QO.o rfl fun _ => o_ld TI26 rfl rfl ((own_at hme2 (list_atF hq1)).trans (congrArg some hvq)) ⟨rfl, rfl⟩)) ?_
                refine WQ.c rfl ((QO.o rfl fun _ => o_mvh h19 ⟨rfl, rfl⟩)) ?_
                refine WQ.c rfl ((QO.o rfl fun _ => o_ixB TI26 TI33 rfl rfl (hr2) ⟨rfl, rfl⟩)) ?_
                refine WQ.c rfl ((QO.o rfl fun _ => o_ldA TI33 rfl rfl hcr rfl ⟨rfl, rfl⟩)) ?_
                refine WQ.c rfl ((QO.o rfl fun _ => o_ldA TI33 rfl rfl (cells_all hB20) rfl ⟨rfl, rfl⟩)) ?_
                refine WQ.c rfl ((QO.o rfl fun _ => o_neR TI33 (by kernel_rfl) (by kernel_rfl) rfl rfl (.int TI3 (by decide) rfl rfl (.str TI9 (by decide) rfl rfl (.int TI3 (by decide) rfl rfl (.int TI3 (by decide) rfl rfl (.int TI3 (by decide) rfl rfl .nil))))) ⟨rfl, rfl⟩)) ?_
                refine WQ.c rfl ((QO.o rfl fun _ => o_mv ⟨rfl, rfl⟩)) ?_
                refine WQ.g rfl (by simp) rfl ((QO.o rfl fun _ => o_mvh h19 ⟨rfl, rfl⟩)) ?_
                refine WQ.g rfl (by simp) rfl ((QO.o rfl fun _ => o_mvh h3 ⟨rfl, rfl⟩)) ?_
                refine WQ.g rfl (by simp) rfl ((QO.o rfl fun _ => o_mvh h18 ⟨rfl, rfl⟩)) ?_
                refine WQ.g rfl (by simp) rfl ((QO.o rfl fun _ => o_ixB TI42 TI26 rfl rfl (by omega) ⟨rfl, rfl⟩)) ?_
                refine WQ.g rfl (by simp) rfl ((QO.o rfl fun _ => o_ld TI26 rfl rfl ((own_at hge2 (list_atF hq1)).trans (congrArg some hv2)) ⟨rfl, rfl⟩)) ?_
                refine WQ.g rfl (by simp) rfl ((QO.r fun _ => r_len TI26 rfl)) ?_
                refine WQ.g rfl (by simp) rfl ((QO.o rfl fun _ => o_lt rfl rfl ⟨rfl, rfl⟩)) ?_
                refine WQ.g rfl (by simp) rfl ((QO.o rfl fun _ => o_mv ⟨rfl, rfl⟩)) ?_
                refine WQ.g rfl (by simp; omega) rfl ((QO.o rfl fun _ => o_mvh h3 ⟨rfl, rfl⟩)) ?_
                refine WQ.g rfl (by simp; omega) rfl ((QO.o rfl fun _ => o_mvh h18 ⟨rfl, rfl⟩)) ?_
                refine WQ.g rfl (by simp; omega) rfl ((QO.o rfl fun _ => o_ixB TI42 TI26 rfl rfl (by omega) ⟨rfl, rfl⟩)) ?_
                refine WQ.g rfl (by simp; omega) rfl ((QO.o rfl fun _ => o_ld TI26 rfl rfl ((own_at hge2 (list_atF hq1)).trans (congrArg some hv2')) ⟨rfl, rfl⟩)) ?_
                refine WQ.g rfl (by simp; omega) rfl ((QO.o rfl fun _ => o_mvh h19 ⟨rfl, rfl⟩)) ?_
                refine WQ.g rfl (by simp; omega) rfl ((QO.o rfl fun _ => o_ixB TI26 TI33 rfl rfl (hrl) ⟨rfl, rfl⟩)) ?_
                refine WQ.g rfl (by simp; omega) rfl ((QO.o rfl fun _ => o_ldA TI33 rfl rfl hcs2 rfl ⟨rfl, rfl⟩)) ?_
                refine WQ.g rfl (by simp; omega) rfl ((QO.o rfl fun _ => o_ldA TI33 rfl rfl (cells_all hB20) rfl ⟨rfl, rfl⟩)) ?_
                refine WQ.g rfl (by simp; omega) rfl ((QO.o rfl fun _ => o_neR TI33 (by kernel_rfl) (by kernel_rfl) rfl rfl (.int TI3 (by decide) rfl rfl (.str TI9 (by decide) rfl rfl (.int TI3 (by decide) rfl rfl (.int TI3 (by decide) rfl rfl (.int TI3 (by decide) rfl rfl .nil))))) ⟨rfl, rfl⟩)) ?_
                refine WQ.g rfl (by simp) rfl ((QO.r fun _ => r_pickA rfl rfl)) ?_
                refine WQ.c rfl ((QO.r fun _ => r_pickO rfl rfl)) ?_
                refine WQ.nil ?_
                intro nq
                refine W.condF' rfl (by simp) ?_
                refine W.skip ?_
                refine W.region ?_
                refine WL.c rfl (o_mvh h19 ?_)
                refine WL.c rfl (o_addi rfl rfl (by omega) ?_)
                refine WL.c rfl (o_as ?_)
                refine WL.nil ?_
                refine ⟨⟨r + 1, by omega, h3v, h16v, h18, rfl, hM.ext (Only.drewN _ nq), fun q hq => (hO2 q hq).ext (Only.drewN _ nq), own_ext hg (Only.drewN _ nq), own_ext hmo (Only.drewN _ nq), (show Hm ≤ w21.heap.size by omega), hx.tr (Only.drewN _ nq)⟩, ?_⟩
                show (tc ss (gi q)).length + 1 - ((r : Int) + 1).toNat < _
                rw [hm19]; simp [intOf]; omega
              · skip
                refine W.quiet rfl (by kernel_rfl) ?_
                refine WQ.c rfl ((QO.o rfl fun _ => o_mvh h16 ⟨rfl, rfl⟩)) ?_
                refine WQ.c rfl ((QO.o rfl fun _ => o_mvh h18 ⟨rfl, rfl⟩)) ?_
                refine WQ.c rfl ((QO.o rfl fun _ => o_ixB TI42 TI26 rfl rfl (by omega) ⟨rfl, rfl⟩)) ?_
                refine WQ.c rfl ((QO.o rfl fun _ => o_ld TI26 rfl rfl ((own_at hme2 (list_atF hq1)).trans (congrArg some hvq)) ⟨rfl, rfl⟩)) ?_
                refine WQ.c rfl ((QO.o rfl fun _ => o_mvh h19 ⟨rfl, rfl⟩)) ?_
                refine WQ.c rfl ((QO.o rfl fun _ => o_ixB TI26 TI33 rfl rfl (hr2) ⟨rfl, rfl⟩)) ?_
                refine WQ.c rfl ((QO.o rfl fun _ => o_ldA TI33 rfl rfl hcr rfl ⟨rfl, rfl⟩)) ?_
                refine WQ.c rfl ((QO.o rfl fun _ => o_ldA TI33 rfl rfl (cells_all hB20) rfl ⟨rfl, rfl⟩)) ?_
                refine WQ.c rfl ((QO.o rfl fun _ => o_neR TI33 (by kernel_rfl) (by kernel_rfl) rfl rfl (.int TI3 (by decide) rfl rfl (.str TI9 (by decide) rfl rfl (.int TI3 (by decide) rfl rfl (.int TI3 (by decide) rfl rfl (.int TI3 (by decide) rfl rfl .nil))))) ⟨rfl, rfl⟩)) ?_
                refine WQ.c rfl ((QO.o rfl fun _ => o_mv ⟨rfl, rfl⟩)) ?_
                refine WQ.g rfl (by simp) rfl ((QO.o rfl fun _ => o_mvh h19 ⟨rfl, rfl⟩)) ?_
                refine WQ.g rfl (by simp) rfl ((QO.o rfl fun _ => o_mvh h3 ⟨rfl, rfl⟩)) ?_
                refine WQ.g rfl (by simp) rfl ((QO.o rfl fun _ => o_mvh h18 ⟨rfl, rfl⟩)) ?_
                refine WQ.g rfl (by simp) rfl ((QO.o rfl fun _ => o_ixB TI42 TI26 rfl rfl (by omega) ⟨rfl, rfl⟩)) ?_
                refine WQ.g rfl (by simp) rfl ((QO.o rfl fun _ => o_ld TI26 rfl rfl ((own_at hge2 (list_atF hq1)).trans (congrArg some hv2)) ⟨rfl, rfl⟩)) ?_
                refine WQ.g rfl (by simp) rfl ((QO.r fun _ => r_len TI26 rfl)) ?_
                refine WQ.g rfl (by simp) rfl ((QO.o rfl fun _ => o_lt rfl rfl ⟨rfl, rfl⟩)) ?_
                refine WQ.g rfl (by simp) rfl ((QO.o rfl fun _ => o_mv ⟨rfl, rfl⟩)) ?_
                refine WQ.s rfl (by simp; omega) rfl ?_
                refine WQ.s rfl (by simp; omega) rfl ?_
                refine WQ.s rfl (by simp; omega) rfl ?_
                refine WQ.s rfl (by simp; omega) rfl ?_
                refine WQ.s rfl (by simp; omega) rfl ?_
                refine WQ.s rfl (by simp; omega) rfl ?_
                refine WQ.s rfl (by simp; omega) rfl ?_
                refine WQ.s rfl (by simp; omega) rfl ?_
                refine WQ.s rfl (by simp; omega) rfl ?_
                refine WQ.g rfl (by simp) rfl ((QO.r fun _ => r_pickF rfl (by simp; omega))) ?_
                refine WQ.c rfl ((QO.r fun _ => r_pickO rfl rfl)) ?_
                refine WQ.nil ?_
                intro nq
                refine W.condF' rfl (by simp) ?_
                refine W.skip ?_
                refine W.region ?_
                refine WL.c rfl (o_mvh h19 ?_)
                refine WL.c rfl (o_addi rfl rfl (by omega) ?_)
                refine WL.c rfl (o_as ?_)
                refine WL.nil ?_
                refine ⟨⟨r + 1, by omega, h3v, h16v, h18, rfl, hM.ext (Only.drewN _ nq), fun q hq => (hO2 q hq).ext (Only.drewN _ nq), own_ext hg (Only.drewN _ nq), own_ext hmo (Only.drewN _ nq), (show Hm ≤ w21.heap.size by omega), hx.tr (Only.drewN _ nq)⟩, ?_⟩
                show (tc ss (gi q)).length + 1 - ((r : Int) + 1).toNat < _
                rw [hm19]; simp [intOf]; omega
            · skip
              refine W.region ?_
              refine WL.c rfl (o_mvh h19 ?_)
              refine WL.c rfl (o_mvh h16 ?_)
              refine WL.c rfl (o_mvh h18 ?_)
              refine WL.c rfl (o_ixB TI42 TI26 rfl rfl (by omega) ?_)
              refine WL.c rfl (o_ld TI26 rfl rfl (own_at hme (list_atF hq1)) ?_)
              refine WL.c rfl (o_lenR TI26 rfl (Sl.own hrq) ?_)
              refine WL.c rfl (o_lt rfl rfl ?_)
              refine WL.nil ?_
              refine W.condF' rfl (by simp; omega) ?_
              refine W.exit ?_
              refine W.region ?_
              refine WL.c rfl (o_mvh h18 ?_)
              refine WL.c rfl (o_addi rfl rfl (by omega) ?_)
              refine WL.c rfl (o_as ?_)
              refine WL.nil ?_
              refine ⟨⟨q + 1, by omega, h3v, h16v, rfl, hM, hO2, hg, hmo, hzm, hx⟩, ?_⟩
              show 4 * i - ((q : Int) + 1).toNat < _
              rw [hm18]; simp [intOf]; omega
          · skip
            refine W.region ?_
            refine WL.c rfl (o_mvh h18 ?_)
            refine WL.c rfl (o_mvh h16 ?_)
            refine WL.c rfl (o_lenR TI42 rfl (Sl.own hmo) ?_)
            refine WL.c rfl (o_lt rfl rfl ?_)
            refine WL.nil ?_
            refine W.condF' rfl (by simp; omega) ?_
            refine W.exit ?_
            refine W.seq ?_
            refine W.region ?_
            refine WL.c rfl (o_as ?_)
            refine WL.nil ?_
            refine W.ret ?_
            refine ret1v rfl (show _ = Value.bool _ from rfl) ?_
            exact ⟨rfl, hx⟩
end Go.Proofs.Ytiabjbaegdgmmaa
