/-
  Walks. Written by program out of specs of mine.
-/
import Derived.Test.YtcljkkfpcomdcaaR
set_option linter.unusedSimpArgs false
set_option linter.unusedVariables false
set_option maxRecDepth 100000
namespace Go.Proofs.Ytcljkkfpcomdcaa
open Go Go.Vc Go.RowKit Go.Proofs

theorem idx_cases (D : List Df) (d n : Int) : d < 0 ∨ (D.length : Int) ≤ d ∨ ∃ i : Nat, i < D.length ∧ d = (i : Int) ∧ (n < 0 ∨ ((tyD D i).length : Int) ≤ n ∨ ∃ j : Nat, j < (tyD D i).length ∧ n = (j : Int)) := by
  by_cases h1 : d < 0
  · exact .inl h1
  · by_cases h2 : (D.length : Int) ≤ d
    · exact .inr (.inl h2)
    · refine .inr (.inr ⟨d.toNat, by omega, by omega, ?_⟩)
      by_cases h3 : n < 0
      · exact .inl h3
      · by_cases h4 : ((tyD D d.toNat).length : Int) ≤ n
        · exact .inr (.inl h4)
        · exact .inr (.inr ⟨n.toNat, by omega, by omega⟩)
theorem tupE (r : Nat × Nat × Nat) : rs3 r = .tuple #[.int .i64 (r.1 : Int), .int .i64 (r.2.1 : Int), .int .i64 (r.2.2 : Int)] := rfl

set_option maxHeartbeats 2000000 in
theorem checks_walk (w0 : World) (D : List Df) (dv : Value) (V : Nat → Value) (hD : DefR w0 D dv V) (hlim : DOk D) (d : Int) (_ : -9223372036854775808 ≤ d ∧ d ≤ 9223372036854775807) (n : Int) (_ : -9223372036854775808 ≤ n ∧ n ≤ 9223372036854775807) (x : Ex) (hxo : ExOk x) : Ca Try.prog 4 #[.agg #[dv], .int .i64 d, .int .i64 n, .agg (exV x).toArray] w0 (fun v w' => v = .bool true ∧ Ext w0 w') := by
  refine Ca.of Try.func4 Try.ntmps4 rfl rfl ?_
  refine W.seq ?_
  refine W.region ?_
  refine WL.c rfl (o_boxB rfl ?_)
  intro w4 hC4 hx hs4
  replace hC4 : w4.heap[w0.heap.size]? = some (.cells #[dv] 28 (0, 0)) := hC4
  obtain ⟨c4, hc4⟩ : ∃ c, c = w0.heap.size := ⟨_, rfl⟩
  rw [← hc4] at hC4 ⊢
  refine WL.c rfl (o_boxB rfl ?_)
  intro w7 hC7 hx7 hs7
  replace hx := hx.tr hx7
  replace hC4 := hx7.blk hC4 (fun h => h)
  replace hC7 : w7.heap[w4.heap.size]? = some (.cells (exV x).toArray 30 (0, 0)) := hC7
  obtain ⟨c7, hc7⟩ : ∃ c, c = w4.heap.size := ⟨_, rfl⟩
  rw [← hc7] at hC7 ⊢
  refine WL.c rfl (o_ash (show _ = Value.bool _ from rfl) ?_)
  refine WL.nil ?_
  refine W.seq ?_
  refine W.seq ?_
  refine W.region ?_
  refine WL.c rfl (o_call Try.call11 ln ((first_spec _).mono ?_))
  rintro v16 w16 ⟨rfl, hx16⟩
  replace hx := hx.tr hx16
  replace hC4 := hx16.blk hC4 (fun h => h)
  replace hC7 := hx16.blk hC7 (fun h => h)
  refine WL.c rfl (o_not' rfl ?_)
  refine WL.nil ?_
  refine W.condF' rfl (rfl) ?_
  refine W.skip ?_
  refine W.seq ?_
  refine W.region ?_
  refine WL.c rfl (o_ldA TI28 rfl rfl (show Cells _ c4 0 [dv] from Cells.of hC4 0 _ (by simp)) rfl ?_)
  refine WL.c rfl (o_call Try.call13 (lc rfl ln) ((lent_spec D dv V _ (hD.ext hx) hlim).mono ?_))
  rintro v19 w19 ⟨gv, U, rfl, hL, hx19⟩
  have hz16 := hx.size
  replace hx := hx.tr hx19
  replace hC4 := hx19.blk hC4 (fun h => h)
  replace hC7 := hx19.blk hC7 (fun h => h)
  have hz19 := hx.size
  refine WL.c rfl (o_alB TI28 ?_)
  intro wa hC9a hx9 hs9
  refine WL.u (o_stA TI28 rfl (show _ = Value.agg #[shr gv] from rfl) rfl (by simp [own_one hL.defs.row]) hC9a rfl ?_)
  intro wb hC9 ho9 hs9b
  have hxn := Ext.own hx9 (Nat.le_refl _) ho9
  obtain ⟨c9, hc9⟩ : ∃ c, c = w19.heap.size := ⟨_, rfl⟩
  rw [← hc9] at hC9 ⊢
  clear hC9a hx9 hs9 ho9 hs9b
  replace hx := hx.tr hxn
  replace hC4 := hxn.blk hC4 (fun h => h)
  replace hC7 := hxn.blk hC7 (fun h => h)
  replace hL := hL.ext hxn
  refine WL.nil ?_
  refine W.seq ?_
  refine W.region ?_
  refine WL.c rfl (o_ldA TI28 rfl rfl (show Cells _ c9 0 [shr gv] from Cells.of hC9 0 _ (by simp)) rfl ?_)
  refine WL.c rfl (o_call Try.call14 (lc rfl ln) ((check_spec D (shr gv) (fun j => shr (U j)) _ hL.defs.rd hlim.lim).mono ?_))
  rintro v22 w22 ⟨rfl, hx22⟩
  rw [tupE]
  replace hx := hx.tr hx22
  replace hC4 := hx22.blk hC4 (fun h => h)
  replace hC7 := hx22.blk hC7 (fun h => h)
  replace hL := hL.ext hx22
  replace hC9 := hx22.blk hC9 (fun h => h)
  refine WL.c rfl (o_mvh (by first | exact (show _ = Value.tuple _ from rfl) | exact rfl) ?_)
  refine WL.c rfl (o_ext rfl rfl ?_)
  refine WL.c rfl (o_ext rfl rfl ?_)
  refine WL.c rfl (o_ext rfl rfl ?_)
  refine WL.c rfl (o_ash (show _ = Value.int _ _ from rfl) ?_)
  refine WL.c rfl (o_ash (show _ = Value.int _ _ from rfl) ?_)
  refine WL.c rfl (o_ash (show _ = Value.int _ _ from rfl) ?_)
  refine WL.nil ?_
  refine W.seq ?_
  refine W.region ?_
  refine WL.c rfl (o_ldA TI28 rfl rfl (show Cells _ c4 0 [dv] from Cells.of hC4 0 _ (by simp)) rfl ?_)
  refine WL.c rfl (o_call Try.call15 (lc rfl ln) ((rcheck_spec D dv V _ (hD.ext hx) hlim.lim).mono ?_))
  rintro v28 w28 ⟨rfl, hx28⟩
  rw [tupE]
  replace hx := hx.tr hx28
  replace hC4 := hx28.blk hC4 (fun h => h)
  replace hC7 := hx28.blk hC7 (fun h => h)
  replace hL := hL.ext hx28
  replace hC9 := hx28.blk hC9 (fun h => h)
  refine WL.c rfl (o_mvh (by first | exact (show _ = Value.tuple _ from rfl) | exact rfl) ?_)
  refine WL.c rfl (o_ext rfl rfl ?_)
  refine WL.c rfl (o_ext rfl rfl ?_)
  refine WL.c rfl (o_ext rfl rfl ?_)
  refine WL.c rfl (o_ash (show _ = Value.int _ _ from rfl) ?_)
  refine WL.c rfl (o_ash (show _ = Value.int _ _ from rfl) ?_)
  refine WL.c rfl (o_ash (show _ = Value.int _ _ from rfl) ?_)
  refine WL.nil ?_
  refine W.seq ?_
  refine W.seq ?_
  refine W.region ?_
  refine WL.c rfl (o_mvh (show _ = Value.int _ _ from rfl) ?_)
  refine WL.c rfl (o_mvh (show _ = Value.int _ _ from rfl) ?_)
  refine WL.c rfl (o_ne rfl rfl ?_)
  refine WL.c rfl (o_mvh (show _ = Value.bool _ from rfl) ?_)
  refine WL.g rfl (by simp) rfl (o_mvh (show _ = Value.int _ _ from rfl) ?_)
  refine WL.g rfl (by simp) rfl (o_mvh (show _ = Value.int _ _ from rfl) ?_)
  refine WL.g rfl (by simp) rfl (o_ne rfl rfl ?_)
  refine WL.c rfl (o_pickO rfl rfl ?_)
  refine WL.c rfl (o_mvh (show _ = Value.bool _ from rfl) ?_)
  refine WL.g rfl (by simp) rfl (o_mvh (show _ = Value.int _ _ from rfl) ?_)
  refine WL.g rfl (by simp) rfl (o_mvh (show _ = Value.int _ _ from rfl) ?_)
  refine WL.g rfl (by simp) rfl (o_ne rfl rfl ?_)
  refine WL.c rfl (o_pickO rfl rfl ?_)
  refine WL.c rfl (o_mvh (show _ = Value.bool _ from rfl) ?_)
  refine WL.g rfl (by simp) rfl (o_ldA TI28 rfl rfl (show Cells _ c9 0 [shr gv] from Cells.of hC9 0 _ (by simp)) rfl ?_)
  refine WL.g rfl (by simp) rfl (o_ldA TI28 rfl rfl (show Cells _ c4 0 [dv] from Cells.of hC4 0 _ (by simp)) rfl ?_)
  refine WL.g rfl (by simp) rfl (o_call Try.call16 (lc rfl (lc rfl ln)) ((kept_spec D _ gv dv U V _ hL (hD.ext hx) hlim).mono ?_))
  rintro v48 w48 ⟨rfl, hx48⟩
  replace hx := hx.tr hx48
  replace hC4 := hx48.blk hC4 (fun h => h)
  replace hC7 := hx48.blk hC7 (fun h => h)
  replace hL := hL.ext hx48
  replace hC9 := hx48.blk hC9 (fun h => h)
  refine WL.g rfl (by simp) rfl (o_not' rfl ?_)
  refine WL.c rfl (o_pickO rfl rfl ?_)
  refine WL.nil ?_
  refine W.condF' rfl (by simp) ?_
  refine W.skip ?_
  refine W.seq ?_
  refine W.seq ?_
  rcases idx_cases D d n with hd | hd | ⟨i, hi, rfl, hn | hn | ⟨j, hj, rfl⟩⟩
  · skip
    skip
    refine W.region ?_
    refine WL.c rfl (o_mvh (show _ = Value.int _ _ from rfl) ?_)
    refine WL.c rfl (o_lt rfl rfl ?_)
    refine WL.c rfl (o_mvh (show _ = Value.bool _ from rfl) ?_)
    refine WL.s rfl (decide_eq_true hd) rfl ?_
    refine WL.s rfl (decide_eq_true hd) rfl ?_
    refine WL.s rfl (decide_eq_true hd) rfl ?_
    refine WL.s rfl (decide_eq_true hd) rfl ?_
    refine WL.s rfl (decide_eq_true hd) rfl ?_
    refine WL.c rfl (o_pickT rfl (decide_eq_true hd) ?_)
    refine WL.c rfl (o_mvh (show _ = Value.bool _ from rfl) ?_)
    refine WL.s rfl (rfl) rfl ?_
    refine WL.s rfl (rfl) rfl ?_
    refine WL.c rfl (o_pickT rfl (rfl) ?_)
    refine WL.c rfl (o_mvh (show _ = Value.bool _ from rfl) ?_)
    refine WL.s rfl (rfl) rfl ?_
    refine WL.s rfl (rfl) rfl ?_
    refine WL.s rfl (rfl) rfl ?_
    refine WL.s rfl (rfl) rfl ?_
    refine WL.s rfl (rfl) rfl ?_
    refine WL.s rfl (rfl) rfl ?_
    refine WL.s rfl (rfl) rfl ?_
    refine WL.s rfl (rfl) rfl ?_
    refine WL.s rfl (rfl) rfl ?_
    refine WL.c rfl (o_pickT rfl (rfl) ?_)
    refine WL.nil ?_
    refine W.condT' rfl (rfl) ?_
    refine W.seq ?_
    refine W.region ?_
    refine WL.c rfl (o_ash (show _ = Value.bool _ from rfl) ?_)
    refine WL.nil ?_
    refine W.ret ?_
    refine ret1v rfl (show _ = Value.bool _ from rfl) ?_
    exact ⟨rfl, hx⟩
  · skip
    skip
    refine W.region ?_
    refine WL.c rfl (o_mvh (show _ = Value.int _ _ from rfl) ?_)
    refine WL.c rfl (o_lt rfl rfl ?_)
    refine WL.c rfl (o_mvh (show _ = Value.bool _ from rfl) ?_)
    refine WL.g rfl (decide_eq_false (by omega)) rfl (o_mvh (show _ = Value.int _ _ from rfl) ?_)
    refine WL.g rfl (decide_eq_false (by omega)) rfl (o_fa 0 TI28 rfl TI26 rfl rfl ?_)
    refine WL.g rfl (decide_eq_false (by omega)) rfl (o_ld TI26 rfl rfl (cell_of hC9 rfl) ?_)
    refine WL.g rfl (decide_eq_false (by omega)) rfl (o_lenR TI26 rfl hL.defs.rd.row ?_)
    refine WL.g rfl (decide_eq_false (by omega)) rfl (o_ge rfl rfl ?_)
    refine WL.c rfl (o_pickO rfl rfl ?_)
    refine WL.c rfl (o_mvh (show _ = Value.bool _ from rfl) ?_)
    refine WL.s rfl (by simp; omega) rfl ?_
    refine WL.s rfl (by simp; omega) rfl ?_
    refine WL.c rfl (o_pickT rfl (by simp; omega) ?_)
    refine WL.c rfl (o_mvh (show _ = Value.bool _ from rfl) ?_)
    refine WL.s rfl (rfl) rfl ?_
    refine WL.s rfl (rfl) rfl ?_
    refine WL.s rfl (rfl) rfl ?_
    refine WL.s rfl (rfl) rfl ?_
    refine WL.s rfl (rfl) rfl ?_
    refine WL.s rfl (rfl) rfl ?_
    refine WL.s rfl (rfl) rfl ?_
    refine WL.s rfl (rfl) rfl ?_
    refine WL.s rfl (rfl) rfl ?_
    refine WL.c rfl (o_pickT rfl (rfl) ?_)
    refine WL.nil ?_
    refine W.condT' rfl (rfl) ?_
    refine W.seq ?_
    refine W.region ?_
    refine WL.c rfl (o_ash (show _ = Value.bool _ from rfl) ?_)
    refine WL.nil ?_
    refine W.ret ?_
    refine ret1v rfl (show _ = Value.bool _ from rfl) ?_
    exact ⟨rfl, hx⟩
  · skip
    obtain ⟨tb, to_, tc, hv1, htc1, hty1⟩ := hL.defs.rd.atk hi
    obtain ⟨gg, capg, hgv, -⟩ := own_some hL.row (by omega)
    obtain ⟨g2, cap2, hU, hgb2⟩ := own_some (hL.tys.row i hi) (by show 0 < (tyD D i).length + 1; omega)
    have hU' : shr (U i) = .slice (some ⟨g2, 0, none⟩) (tyD D i).length cap2 := by rw [hU]; rfl
    replace hty1 := hL.defs.rd.tys i hi
    rw [hv1] at hC9
    replace htc1 : Cells w48 tb (to_ + i * 3) (dcell D[i] (.slice (some ⟨g2, 0, none⟩) (tyD D i).length cap2)) := by rw [← hU']; exact htc1
    replace hty1 : Sl w48 7 (.slice (some ⟨g2, 0, none⟩) (tyD D i).length cap2) (tyD D i).length (exs (tyD D i)) := by rw [← hU']; exact hty1
    refine W.region ?_
    refine WL.c rfl (o_mvh (show _ = Value.int _ _ from rfl) ?_)
    refine WL.c rfl (o_lt rfl rfl ?_)
    refine WL.c rfl (o_mvh (show _ = Value.bool _ from rfl) ?_)
    refine WL.g rfl (decide_eq_false (by omega)) rfl (o_mvh (show _ = Value.int _ _ from rfl) ?_)
    refine WL.g rfl (decide_eq_false (by omega)) rfl (o_fa 0 TI28 rfl TI26 rfl rfl ?_)
    refine WL.g rfl (decide_eq_false (by omega)) rfl (o_ld TI26 rfl rfl (cell_of hC9 rfl) ?_)
    refine WL.g rfl (decide_eq_false (by omega)) rfl (o_lenR TI26 rfl (hv1 ▸ hL.defs.rd.row) ?_)
    refine WL.g rfl (decide_eq_false (by omega)) rfl (o_ge rfl rfl ?_)
    refine WL.c rfl (o_pickO rfl rfl ?_)
    refine WL.c rfl (o_mvh (show _ = Value.bool _ from rfl) ?_)
    refine WL.g rfl (by simp; omega) rfl (o_mvh (show _ = Value.int _ _ from rfl) ?_)
    refine WL.g rfl (by simp; omega) rfl (o_lt rfl rfl ?_)
    refine WL.c rfl (o_pickO rfl rfl ?_)
    refine WL.c rfl (o_mvh (show _ = Value.bool _ from rfl) ?_)
    refine WL.s rfl (by simp; omega) rfl ?_
    refine WL.s rfl (by simp; omega) rfl ?_
    refine WL.s rfl (by simp; omega) rfl ?_
    refine WL.s rfl (by simp; omega) rfl ?_
    refine WL.s rfl (by simp; omega) rfl ?_
    refine WL.s rfl (by simp; omega) rfl ?_
    refine WL.s rfl (by simp; omega) rfl ?_
    refine WL.s rfl (by simp; omega) rfl ?_
    refine WL.s rfl (by simp; omega) rfl ?_
    refine WL.c rfl (o_pickT rfl (by simp; omega) ?_)
    refine WL.nil ?_
    refine W.condT' rfl (rfl) ?_
    refine W.seq ?_
    refine W.region ?_
    refine WL.c rfl (o_ash (show _ = Value.bool _ from rfl) ?_)
    refine WL.nil ?_
    refine W.ret ?_
    refine ret1v rfl (show _ = Value.bool _ from rfl) ?_
    exact ⟨rfl, hx⟩
  · skip
    obtain ⟨tb, to_, tc, hv1, htc1, hty1⟩ := hL.defs.rd.atk hi
    obtain ⟨gg, capg, hgv, -⟩ := own_some hL.row (by omega)
    obtain ⟨g2, cap2, hU, hgb2⟩ := own_some (hL.tys.row i hi) (by show 0 < (tyD D i).length + 1; omega)
    have hU' : shr (U i) = .slice (some ⟨g2, 0, none⟩) (tyD D i).length cap2 := by rw [hU]; rfl
    replace hty1 := hL.defs.rd.tys i hi
    rw [hv1] at hC9
    replace htc1 : Cells w48 tb (to_ + i * 3) (dcell D[i] (.slice (some ⟨g2, 0, none⟩) (tyD D i).length cap2)) := by rw [← hU']; exact htc1
    replace hty1 : Sl w48 7 (.slice (some ⟨g2, 0, none⟩) (tyD D i).length cap2) (tyD D i).length (exs (tyD D i)) := by rw [← hU']; exact hty1
    refine W.region ?_
    refine WL.c rfl (o_mvh (show _ = Value.int _ _ from rfl) ?_)
    refine WL.c rfl (o_lt rfl rfl ?_)
    refine WL.c rfl (o_mvh (show _ = Value.bool _ from rfl) ?_)
    refine WL.g rfl (decide_eq_false (by omega)) rfl (o_mvh (show _ = Value.int _ _ from rfl) ?_)
    refine WL.g rfl (decide_eq_false (by omega)) rfl (o_fa 0 TI28 rfl TI26 rfl rfl ?_)
    refine WL.g rfl (decide_eq_false (by omega)) rfl (o_ld TI26 rfl rfl (cell_of hC9 rfl) ?_)
    refine WL.g rfl (decide_eq_false (by omega)) rfl (o_lenR TI26 rfl (hv1 ▸ hL.defs.rd.row) ?_)
    refine WL.g rfl (decide_eq_false (by omega)) rfl (o_ge rfl rfl ?_)
    refine WL.c rfl (o_pickO rfl rfl ?_)
    refine WL.c rfl (o_mvh (show _ = Value.bool _ from rfl) ?_)
    refine WL.g rfl (by simp; omega) rfl (o_mvh (show _ = Value.int _ _ from rfl) ?_)
    refine WL.g rfl (by simp; omega) rfl (o_lt rfl rfl ?_)
    refine WL.c rfl (o_pickO rfl rfl ?_)
    refine WL.c rfl (o_mvh (show _ = Value.bool _ from rfl) ?_)
    refine WL.g rfl (by simp; omega) rfl (o_mvh (show _ = Value.int _ _ from rfl) ?_)
    refine WL.g rfl (by simp; omega) rfl (o_fa 0 TI28 rfl TI26 rfl rfl ?_)
    refine WL.g rfl (by simp; omega) rfl (o_ld TI26 rfl rfl (cell_of hC9 rfl) ?_)
    refine WL.g rfl (by simp; omega) rfl (o_mvh (show _ = Value.int _ _ from rfl) ?_)
    refine WL.g rfl (by simp; omega) rfl (o_ixB TI26 TI40 rfl rfl (by omega) ?_)
    refine WL.g rfl (by simp; omega) rfl (o_fa 2 TI40 rfl TI38 rfl rfl ?_)
    refine WL.g rfl (by simp; omega) rfl (o_ld TI38 rfl rfl (htc1 2 _ rfl) ?_)
    refine WL.g rfl (by simp; omega) rfl (o_lenR TI38 rfl hty1 ?_)
    refine WL.g rfl (by simp; omega) rfl (o_ge rfl rfl ?_)
    refine WL.c rfl (o_pickO rfl rfl ?_)
    refine WL.nil ?_
    refine W.condT' rfl (by simp; omega) ?_
    refine W.seq ?_
    refine W.region ?_
    refine WL.c rfl (o_ash (show _ = Value.bool _ from rfl) ?_)
    refine WL.nil ?_
    refine W.ret ?_
    refine ret1v rfl (show _ = Value.bool _ from rfl) ?_
    exact ⟨rfl, hx⟩
  · skip
    obtain ⟨tb, to_, tc, hv1, htc1, hty1⟩ := hL.defs.rd.atk hi
    obtain ⟨gg, capg, hgv, -⟩ := own_some hL.row (by omega)
    obtain ⟨g2, cap2, hU, hgb2⟩ := own_some (hL.tys.row i hi) (by show 0 < (tyD D i).length + 1; omega)
    have hU' : shr (U i) = .slice (some ⟨g2, 0, none⟩) (tyD D i).length cap2 := by rw [hU]; rfl
    replace hty1 := hL.defs.rd.tys i hi
    rw [hv1] at hC9
    replace htc1 : Cells w48 tb (to_ + i * 3) (dcell D[i] (.slice (some ⟨g2, 0, none⟩) (tyD D i).length cap2)) := by rw [← hU']; exact htc1
    replace hty1 : Sl w48 7 (.slice (some ⟨g2, 0, none⟩) (tyD D i).length cap2) (tyD D i).length (exs (tyD D i)) := by rw [← hU']; exact hty1
    refine W.region ?_
    refine WL.c rfl (o_mvh (show _ = Value.int _ _ from rfl) ?_)
    refine WL.c rfl (o_lt rfl rfl ?_)
    refine WL.c rfl (o_mvh (show _ = Value.bool _ from rfl) ?_)
    refine WL.g rfl (decide_eq_false (by omega)) rfl (o_mvh (show _ = Value.int _ _ from rfl) ?_)
    refine WL.g rfl (decide_eq_false (by omega)) rfl (o_fa 0 TI28 rfl TI26 rfl rfl ?_)
    refine WL.g rfl (decide_eq_false (by omega)) rfl (o_ld TI26 rfl rfl (cell_of hC9 rfl) ?_)
    refine WL.g rfl (decide_eq_false (by omega)) rfl (o_lenR TI26 rfl (hv1 ▸ hL.defs.rd.row) ?_)
    refine WL.g rfl (decide_eq_false (by omega)) rfl (o_ge rfl rfl ?_)
    refine WL.c rfl (o_pickO rfl rfl ?_)
    refine WL.c rfl (o_mvh (show _ = Value.bool _ from rfl) ?_)
    refine WL.g rfl (by simp; omega) rfl (o_mvh (show _ = Value.int _ _ from rfl) ?_)
    refine WL.g rfl (by simp; omega) rfl (o_lt rfl rfl ?_)
    refine WL.c rfl (o_pickO rfl rfl ?_)
    refine WL.c rfl (o_mvh (show _ = Value.bool _ from rfl) ?_)
    refine WL.g rfl (by simp; omega) rfl (o_mvh (show _ = Value.int _ _ from rfl) ?_)
    refine WL.g rfl (by simp; omega) rfl (o_fa 0 TI28 rfl TI26 rfl rfl ?_)
    refine WL.g rfl (by simp; omega) rfl (o_ld TI26 rfl rfl (cell_of hC9 rfl) ?_)
    refine WL.g rfl (by simp; omega) rfl (o_mvh (show _ = Value.int _ _ from rfl) ?_)
    refine WL.g rfl (by simp; omega) rfl (o_ixB TI26 TI40 rfl rfl (by omega) ?_)
    refine WL.g rfl (by simp; omega) rfl (o_fa 2 TI40 rfl TI38 rfl rfl ?_)
    refine WL.g rfl (by simp; omega) rfl (o_ld TI38 rfl rfl (htc1 2 _ rfl) ?_)
    refine WL.g rfl (by simp; omega) rfl (o_lenR TI38 rfl hty1 ?_)
    refine WL.g rfl (by simp; omega) rfl (o_ge rfl rfl ?_)
    refine WL.c rfl (o_pickO rfl rfl ?_)
    refine WL.nil ?_
    refine W.condF' rfl (by simp; omega) ?_
    refine W.skip ?_
    refine W.seq ?_
    refine W.tail 8 rfl (by kernel_rfl) ?_
    refine WS.c rfl ((SO.o rfl (o_fa 0 TI28 rfl TI26 rfl rfl ⟨rfl, rfl⟩))) ?_
    refine WS.c rfl ((SO.o rfl (o_ld TI26 rfl rfl (cell_of hC9 rfl) ⟨rfl, rfl⟩))) ?_
    refine WS.c rfl ((SO.o rfl (o_mvh (show _ = Value.int _ _ from rfl) ⟨rfl, rfl⟩))) ?_
    refine WS.c rfl ((SO.o rfl (o_ixB TI26 TI40 rfl rfl (by omega) ⟨rfl, rfl⟩))) ?_
    refine WS.c rfl ((SO.o rfl (o_fa 2 TI40 rfl TI38 rfl rfl ⟨rfl, rfl⟩))) ?_
    refine WS.c rfl ((SO.o rfl (o_ld TI38 rfl rfl (htc1 2 _ rfl) ⟨rfl, rfl⟩))) ?_
    refine WS.c rfl ((SO.o rfl (o_mvh (show _ = Value.int _ _ from rfl) ⟨rfl, rfl⟩))) ?_
    refine WS.c rfl ((SO.o rfl (o_ldA TI30 rfl rfl (show Cells _ c7 0 (exV x) from Cells.of hC7 0 _ (by simp)) rfl ⟨rfl, rfl⟩))) ?_
    refine WS.nil ?_
    have hxd := Only.drew w48
    replace hx := hx.tr hxd
    replace hC4 := hxd.blk hC4 (fun h => h)
    replace hC7 := hxd.blk hC7 (fun h => h)
    replace hL := hL.ext hxd
    replace hC9 := hxd.blk hC9 (fun h => h)
    clear hxd
    generalize w48.drew = wd at *
    have hDe := hL.defs
    have hrow2 := hDe.tys.row i hi
    rw [hU'] at hrow2
    refine WL.c rfl (o_ixB (i := j) TI38 TI30 rfl rfl (by omega) ?_)
    refine WL.u (o_stRA TI30 rfl (Nat.zero_add _) (show _ = Value.agg (exV x).toArray from rfl) rfl rfl hrow2 rfl hj ?_)
    intro w83 hrow3 ho83 hs83
    replace hrow3 : w83.ownsRow w16.heap.size 30 7 (shr (U i)) (tyD D i).length (exs ((tyD D i).set j x)) := by rw [hU', ← exs_set7 hj]; exact hrow3
    replace ho83 : Only (fun k => (shr (U i)).ownBlock = some k) wd w83 := by rw [hU']; exact ho83
    have hlU : ∀ k, (shr (U i)).ownBlock = some k → w16.heap.size ≤ k := fun k hk => (hDe.tys.lt hi hk).1
    have hD3 := hDe.setE hi ho83 hrow3
    rw [← hv1] at hC9
    replace hC9 := ho83.blk hC9 (fun hk => own_off (hDe.tys.row i hi) hC9 (by decide) hk)
    replace hC4 := ho83.blk hC4 (fun hk => own_off (hDe.tys.row i hi) hC4 (by decide) hk)
    replace hx := hx.trans' ho83 (fun _ h => h) (fun k hk he => by have := hlU k he; omega)
    have hlim3 := hlim.setE (d := i) (n := j) hxo
    refine WL.nil ?_
    refine W.seq ?_
    refine W.region ?_
    refine WL.c rfl (o_ldA TI28 rfl rfl (show Cells _ c9 0 [shr gv] from Cells.of hC9 0 _ (by simp)) rfl ?_)
    refine WL.c rfl (o_call Try.call14 (lc rfl ln) ((check_spec (setE D i j x) (shr gv) (fun j => shr (U j)) _ hD3.rd hlim3.lim).mono ?_))
    rintro v86 w86 ⟨rfl, hx86⟩
    rw [tupE]
    replace hx := hx.tr hx86
    replace hD3 := hD3.ext hx86
    replace hC9 := hx86.blk hC9 (fun h => h)
    refine WL.c rfl (o_mvh (by first | exact (show _ = Value.tuple _ from rfl) | exact rfl) ?_)
    refine WL.c rfl (o_ext rfl rfl ?_)
    refine WL.c rfl (o_ext rfl rfl ?_)
    refine WL.c rfl (o_ext rfl rfl ?_)
    refine WL.c rfl (o_ash (show _ = Value.int _ _ from rfl) ?_)
    refine WL.c rfl (o_ash (show _ = Value.int _ _ from rfl) ?_)
    refine WL.c rfl (o_ash (show _ = Value.int _ _ from rfl) ?_)
    refine WL.nil ?_
    refine W.seq ?_
    refine W.region ?_
    refine WL.c rfl (o_ldA TI28 rfl rfl (show Cells _ c9 0 [shr gv] from Cells.of hC9 0 _ (by simp)) rfl ?_)
    refine WL.c rfl (o_call Try.call13 (lc rfl ln) ((lent_spec (setE D i j x) (shr gv) (fun j => shr (U j)) _ hD3.rd hlim3).mono ?_))
    rintro v92 w92 ⟨gv2, U2, rfl, hL2, hx92⟩
    replace hx := hx.tr hx92
    refine WL.c rfl (o_call Try.call15 (lc rfl ln) ((rcheck_spec (setE D i j x) (shr gv2) (fun j => shr (U2 j)) _ hL2.defs.rd hlim3.lim).mono ?_))
    rintro v93 w93 ⟨rfl, hx93⟩
    rw [tupE]
    replace hx := hx.tr hx93
    refine WL.c rfl (o_mvh (by first | exact (show _ = Value.tuple _ from rfl) | exact rfl) ?_)
    refine WL.c rfl (o_ext rfl rfl ?_)
    refine WL.c rfl (o_ext rfl rfl ?_)
    refine WL.c rfl (o_ext rfl rfl ?_)
    refine WL.c rfl (o_ash (show _ = Value.int _ _ from rfl) ?_)
    refine WL.c rfl (o_ash (show _ = Value.int _ _ from rfl) ?_)
    refine WL.c rfl (o_ash (show _ = Value.int _ _ from rfl) ?_)
    refine WL.nil ?_
    refine W.seq ?_
    refine W.region ?_
    refine WL.c rfl (o_mvh (show _ = Value.int _ _ from rfl) ?_)
    refine WL.c rfl (o_mvh (show _ = Value.int _ _ from rfl) ?_)
    refine WL.c rfl (o_eq rfl rfl ?_)
    refine WL.c rfl (o_mvh (show _ = Value.bool _ from rfl) ?_)
    refine WL.g rfl (by simp) rfl (o_mvh (show _ = Value.int _ _ from rfl) ?_)
    refine WL.g rfl (by simp) rfl (o_mvh (show _ = Value.int _ _ from rfl) ?_)
    refine WL.g rfl (by simp) rfl (o_eq rfl rfl ?_)
    refine WL.c rfl (o_pickA rfl rfl ?_)
    refine WL.c rfl (o_mvh (show _ = Value.bool _ from rfl) ?_)
    refine WL.g rfl (by simp) rfl (o_mvh (show _ = Value.int _ _ from rfl) ?_)
    refine WL.g rfl (by simp) rfl (o_mvh (show _ = Value.int _ _ from rfl) ?_)
    refine WL.g rfl (by simp) rfl (o_eq rfl rfl ?_)
    refine WL.c rfl (o_pickA rfl rfl ?_)
    refine WL.c rfl (o_ash (show _ = Value.bool _ from rfl) ?_)
    refine WL.nil ?_
    refine W.ret ?_
    refine ret1v rfl (show _ = Value.bool _ from rfl) ?_
    exact ⟨congrArg Value.bool (by simp), hx⟩
end Go.Proofs.Ytcljkkfpcomdcaa
