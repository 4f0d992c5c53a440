/-
  Walks. Written by program out of specs of mine.
-/
import Derived.Test.YtcljkkfpcomdcaaN
set_option linter.unusedSimpArgs false
set_option linter.unusedVariables false
set_option maxRecDepth 100000
namespace Go.Proofs.Ytcljkkfpcomdcaa
open Go Go.Vc Go.RowKit Go.Proofs

theorem rowM_get {L : List Ex} {x : Ex} {k : Nat} (v : Value) (h : (exV x)[k]? = some v) : (exs L ++ exV x)[L.length * 7 + k]? = some v := by
  rw [List.getElem?_append_right (by rw [exs_len]; omega), exs_len, Nat.add_sub_cancel_left, h]
theorem drowsM_get {D : List Df} {V : Nat → Value} {k : Nat} (v : Value) (h : markD[k]? = some v) : (drows D V ++ markD)[D.length * 3 + k]? = some v := by
  rw [List.getElem?_append_right (by rw [drows_len]; omega), drows_len, Nat.add_sub_cancel_left, h]

set_option maxHeartbeats 2000000 in
theorem kept_spec (D : List Df) (H : Nat) (gv dv : Value) (U V : Nat → Value) (w0 : World) (hL0 : Lent w0 H D gv U) (hD0 : DefR w0 D dv V) (hlim : DOk D) : Ca Try.prog 16 #[.agg #[shr gv], .agg #[dv]] w0 (fun r w' => r = .bool true ∧ Ext w0 w') := by
  have hlen := hlim.len
  obtain ⟨gg, capg, rfl, hgb⟩ := own_some hL0.row (by omega)
  have hcg : D.length + 1 ≤ capg := by obtain ⟨_, _, hv, hh⟩ := own_form hL0.row; cases hv; exact hh
  refine Ca.of Try.func16 Try.ntmps16 rfl rfl ?_
  refine W.seq ?_
  refine W.region ?_
  refine WL.c rfl (o_boxB rfl ?_)
  intro w1 hC2 hx1 hs1
  have hx := hx1
  replace hC2 : w1.heap[w0.heap.size]? = some (.cells #[.slice (some ⟨gg, 0, none⟩) D.length capg] 28 (0, 0)) := hC2
  obtain ⟨c2, hc2⟩ : ∃ c, c = w0.heap.size := ⟨_, rfl⟩
  rw [← hc2] at hC2 ⊢
  refine WL.c rfl (o_boxB rfl ?_)
  intro w2 hC3 hx2 hs2
  replace hx := hx.tr hx2
  replace hC2 := hx2.blk hC2 (fun h => h)
  replace hC3 : w2.heap[w1.heap.size]? = some (.cells #[dv] 28 (0, 0)) := hC3
  obtain ⟨c3, hc3⟩ : ∃ c, c = w1.heap.size := ⟨_, rfl⟩
  rw [← hc3] at hC3 ⊢
  refine WL.c rfl (o_ash (show _ = Value.bool _ from rfl) ?_)
  refine WL.nil ?_
  refine W.seq ?_
  refine W.seq ?_
  refine W.region ?_
  refine WL.c rfl (o_ldA TI28 rfl rfl (show Cells _ c2 0 [.slice (some ⟨gg, 0, none⟩) D.length capg] from Cells.of hC2 0 _ (by simp)) rfl ?_)
  refine WL.c rfl (o_ldA TI28 rfl rfl (show Cells _ c3 0 [dv] from Cells.of hC3 0 _ (by simp)) rfl ?_)
  refine WL.c rfl (o_call Try.call20 (lc rfl (lc rfl (lc rfl ln))) ((same_spec D D (.slice (some ⟨gg, 0, none⟩) D.length capg) dv (fun j => shr (U j)) V _ (hL0.ext hx).defs.rd (hD0.ext hx) (by omega) (fun d hd => by have := hlim.ty d hd; omega)).mono ?_))
  rintro v10 w10 ⟨rfl, hx10⟩
  replace hx := hx.tr hx10
  replace hC2 := hx10.blk hC2 (fun h => h)
  replace hC3 := hx10.blk hC3 (fun h => h)
  refine WL.c rfl (o_not' rfl ?_)
  refine WL.nil ?_
  refine W.condF' rfl (by simp) ?_
  refine W.skip ?_
  refine W.seq ?_
  refine W.seq ?_
  refine W.region ?_
  refine WL.c rfl (o_ash (show _ = Value.int _ _ from rfl) ?_)
  refine WL.nil ?_
  refine W.block ?_
  refine W.loop (fun e w => ∃ k : Nat, k ≤ D.length ∧ e 2 = .pointer (some ⟨c2, 0, none⟩) ∧ e 3 = .pointer (some ⟨c3, 0, none⟩) ∧ e 5 = .int .i64 (k : Int) ∧ w.heap[c2]? = some (.cells #[.slice (some ⟨gg, 0, none⟩) D.length capg] 28 (0, 0)) ∧ w.heap[c3]? = some (.cells #[dv] 28 (0, 0)) ∧ Ext w0 w) (fun e w => D.length - (intOf (e 5)).toNat) ?_ ?_
  · exact ⟨0, Nat.zero_le _, rfl, rfl, rfl, hC2, hC3, hx⟩
  rintro e w ⟨k, hk, h2, h3, h5, hC2, hC3, hx⟩
  have hm5 := h5
  refine W.seq ?_
  refine W.seq ?_
  refine W.region ?_
  refine WL.c rfl (o_mvh h5 ?_)
  refine WL.c rfl (o_fa 0 TI28 rfl TI26 rfl h3 ?_)
  refine WL.c rfl (o_ld TI26 rfl rfl (cell_of hC3 rfl) ?_)
  refine WL.c rfl (o_lenR TI26 rfl (hD0.ext hx).row ?_)
  refine WL.c rfl (o_lt rfl rfl ?_)
  refine WL.nil ?_
  refine W.cond rfl (fun c16 => ?_) (fun c16 => ?_)
  · try simp only [decide_eq_true_eq, decide_eq_false_iff_not, Bool.not_eq_true', Bool.not_eq_false', Bool.and_eq_true, Bool.or_eq_true, Bool.and_eq_false_iff, Bool.or_eq_false_iff] at c16
    have hk1 : k < D.length := by omega
    obtain ⟨tb, to_, tc, rfl, htc, hty⟩ := (hD0.ext hx).atk hk1
    obtain ⟨_, _, _, hv1, htc1, -⟩ := (hL0.ext hx).defs.rd.atk hk1
    cases hv1
    have hrw := (hL0.ext hx).tys.row k hk1
    obtain ⟨g2, cap2, hU, hgb2⟩ := own_some hrw (by show 0 < (tyD D k).length + 1; omega)
    rw [hU] at htc1 hrw
    have hcp2 : (tyD D k).length + 1 ≤ cap2 := by obtain ⟨_, _, hv, hh⟩ := own_form hrw; cases hv; exact hh
    rw [lenM, rowM, tyD_at hk1] at hrw
    rw [lenM, tyD_at hk1] at htc1
    rw [tyD_at hk1] at hcp2
    have htl := hlim.ty _ (List.getElem_mem hk1)
    replace htc1 : Cells w gg (0 + k * 3) (dcell D[k] (.slice (some ⟨g2, 0, none⟩) D[k].ty.length cap2)) := htc1
    refine W.skip ?_
    refine W.seq ?_
    refine W.block ?_
    refine W.seq ?_
    refine W.quiet rfl (by kernel_rfl) ?_
    refine WQ.c rfl ((QO.o rfl fun _ => o_fa 0 TI28 rfl TI26 rfl h2 ⟨rfl, rfl⟩)) ?_
    refine WQ.c rfl ((QO.o rfl fun _ => o_ld TI26 rfl rfl (cell_of hC2 rfl) ⟨rfl, rfl⟩)) ?_
    refine WQ.c rfl ((QO.o rfl fun _ => o_mvh h5 ⟨rfl, rfl⟩)) ?_
    refine WQ.c rfl ((QO.o rfl fun _ => o_ixB TI26 TI40 rfl rfl (by omega) ⟨rfl, rfl⟩)) ?_
    refine WQ.c rfl ((QO.o rfl fun _ => o_fa 2 TI40 rfl TI38 rfl rfl ⟨rfl, rfl⟩)) ?_
    refine WQ.c rfl ((QO.o rfl fun _ => o_ld TI38 rfl rfl (htc1 2 _ rfl) ⟨rfl, rfl⟩)) ?_
    refine WQ.c rfl ((QO.o rfl fun _ => o_fa 0 TI28 rfl TI26 rfl h3 ⟨rfl, rfl⟩)) ?_
    refine WQ.c rfl ((QO.o rfl fun _ => o_ld TI26 rfl rfl (cell_of hC3 rfl) ⟨rfl, rfl⟩)) ?_
    refine WQ.c rfl ((QO.o rfl fun _ => o_mvh h5 ⟨rfl, rfl⟩)) ?_
    refine WQ.c rfl ((QO.o rfl fun _ => o_ixB TI26 TI40 rfl rfl (by omega) ⟨rfl, rfl⟩)) ?_
    refine WQ.c rfl ((QO.o rfl fun _ => o_fa 2 TI40 rfl TI38 rfl rfl ⟨rfl, rfl⟩)) ?_
    refine WQ.c rfl ((QO.o rfl fun _ => o_ld TI38 rfl rfl (htc 2 _ rfl) ⟨rfl, rfl⟩)) ?_
    refine WQ.c rfl ((QO.r fun _ => r_lenR TI38 rfl hty)) ?_
    refine WQ.c rfl ((QO.o rfl fun _ => o_addi rfl rfl (by omega) ⟨rfl, rfl⟩)) ?_
    refine WQ.c rfl ((QO.o rfl fun _ => o_slv (h := D[k].ty.length + 1) TI38 TI30 rfl Lo.n (Hi.s rfl) (Nat.zero_le _) (by omega) ⟨rfl, (sliced0 _ _ _ _).symm⟩)) ?_
    refine WQ.c rfl ((QO.o rfl fun _ => o_ash (by first | exact (show _ = Value.slice _ _ _ from rfl) | exact rfl) ⟨rfl, rfl⟩)) ?_
    refine WQ.nil ?_
    intro nq
    have hxq := Only.drewN w nq
    replace hx := hx.tr hxq
    replace hC2 := hxq.blk hC2 (fun h => h)
    replace hC3 := hxq.blk hC3 (fun h => h)
    replace hty := hty.ext hxq
    replace htc := Cells.only htc hxq (fun h => h)
    replace hrw := own_ext hrw hxq
    clear hxq
    generalize w.drewN nq = wq at *
    refine W.seq ?_
    refine W.region ?_
    refine WL.c rfl (o_mvh (by first | exact (show _ = Value.slice _ _ _ from rfl) | exact rfl) ?_)
    refine WL.c rfl (o_fa 0 TI28 rfl TI26 rfl h3 ?_)
    refine WL.c rfl (o_ld TI26 rfl rfl (cell_of hC3 rfl) ?_)
    refine WL.c rfl (o_mvh h5 ?_)
    refine WL.c rfl (o_ixB TI26 TI40 rfl rfl (by omega) ?_)
    refine WL.c rfl (o_fa 2 TI40 rfl TI38 rfl rfl ?_)
    refine WL.c rfl (o_ld TI38 rfl rfl (htc 2 _ rfl) ?_)
    refine WL.c rfl (o_lenR TI38 rfl hty ?_)
    refine WL.c rfl (o_ixB (i := D[k].ty.length) TI38 TI30 (show _ = Value.slice (some ⟨g2, 0, none⟩) (D[k].ty.length + 1) cap2 from rfl) rfl (by omega) ?_)
    refine WL.c rfl (o_fa 0 TI30 rfl TI3 rfl rfl ?_)
    refine WL.c rfl (o_ld TI3 rfl rfl (own_cell (j := 0 + D[k].ty.length * 7 + 0) hrw (by rw [Nat.zero_add]; exact rowM_get _ rfl)) ?_)
    refine WL.c rfl (o_ne rfl rfl ?_)
    refine WL.nil ?_
    refine W.condF' rfl (by decide) ?_
    refine W.skip ?_
    refine W.region ?_
    refine WL.c rfl (o_mvh h5 ?_)
    refine WL.c rfl (o_addi rfl rfl (by omega) ?_)
    refine WL.c rfl (o_ash (show _ = Value.int _ _ from rfl) ?_)
    refine WL.nil ?_
    refine ⟨⟨k + 1, by omega, h2, h3, rfl, hC2, hC3, hx⟩, ?_⟩
    show D.length - ((k : Int) + 1).toNat < _
    rw [hm5]; simp [intOf]; omega
  · try simp only [decide_eq_true_eq, decide_eq_false_iff_not, Bool.not_eq_true', Bool.not_eq_false', Bool.and_eq_true, Bool.or_eq_true, Bool.and_eq_false_iff, Bool.or_eq_false_iff] at c16
    have hk1 : k = D.length := by omega
    subst hk1
    refine W.exit ?_
    refine W.seq ?_
    refine W.region ?_
    refine WL.c rfl (o_fa 0 TI28 rfl TI26 rfl h2 ?_)
    refine WL.c rfl (o_ld TI26 rfl rfl (cell_of hC2 rfl) ?_)
    refine WL.c rfl (o_fa 0 TI28 rfl TI26 rfl h3 ?_)
    refine WL.c rfl (o_ld TI26 rfl rfl (cell_of hC3 rfl) ?_)
    refine WL.c rfl (o_lenR TI26 rfl (hD0.ext hx).row ?_)
    refine WL.c rfl (o_addi rfl rfl (by omega) ?_)
    refine WL.c rfl (o_slv (h := D.length + 1) TI26 TI40 rfl Lo.n (Hi.s rfl) (Nat.zero_le _) (by omega) ?_)
    rw [sliced0]
    refine WL.c rfl (o_ash (by first | exact (show _ = Value.slice _ _ _ from rfl) | exact rfl) ?_)
    refine WL.nil ?_
    refine W.seq ?_
    refine W.region ?_
    refine WL.c rfl (o_mvh (by first | exact (show _ = Value.slice _ _ _ from rfl) | exact rfl) ?_)
    refine WL.c rfl (o_fa 0 TI28 rfl TI26 rfl h3 ?_)
    refine WL.c rfl (o_ld TI26 rfl rfl (cell_of hC3 rfl) ?_)
    refine WL.c rfl (o_lenR TI26 rfl (hD0.ext hx).row ?_)
    refine WL.c rfl (o_ixB (i := D.length) TI26 TI40 (show _ = Value.slice (some ⟨gg, 0, none⟩) (D.length + 1) capg from rfl) rfl (by omega) ?_)
    refine WL.c rfl (o_fa 1 TI40 rfl TI3 rfl rfl ?_)
    refine WL.c rfl (o_ld TI3 rfl rfl (own_cell (j := 0 + D.length * 3 + 1) (hL0.ext hx).row (by rw [Nat.zero_add]; exact drowsM_get _ rfl)) ?_)
    refine WL.c rfl (o_eq rfl rfl ?_)
    refine WL.c rfl (o_ash (show _ = Value.bool _ from rfl) ?_)
    refine WL.nil ?_
    refine W.ret ?_
    refine ret1v rfl (show _ = Value.bool _ from rfl) ?_
    exact ⟨rfl, hx⟩
end Go.Proofs.Ytcljkkfpcomdcaa
