/-
  Walks. Written by program out of specs of mine.
-/
import Derived.Test.YtdiaeafjjffjmaaL
set_option linter.unusedSimpArgs false
set_option linter.unusedVariables false
set_option maxRecDepth 100000
namespace Go.Proofs.Ytdiaeafjjffjmaa
open Go Go.Vc Go.RowKit Go.Proofs

def rest (n m : Int) : Int := n % m
def cutF (f : Fr) : Fr := { f with tab := f.tab.take 300 }
def rHuge (n : Int) : Int := n % 4611686018427387904
def rightF (f : Fr) : Fr := ⟨rHuge f.rt, rHuge f.pl, rHuge f.bs, rHuge f.en - 1, rHuge f.nd - 1, rHuge f.nx, (f.tab.take 300).map rHuge⟩
theorem rHuge_in (n : Int) : 0 ≤ rHuge n ∧ rHuge n < 4611686018427387904 := by unfold rHuge; omega
theorem rightF_whole (f : Fr) : fwhole (rightF f) = true := by
  have h1 := rHuge_in f.rt
  have h2 := rHuge_in f.pl
  have h3 := rHuge_in f.bs
  have h4 := rHuge_in f.en
  have h5 := rHuge_in f.nd
  have h6 := rHuge_in f.nx
  simp only [fwhole, fright, tright, rightF, Bool.and_eq_true, inb_iff, decide_eq_true_eq, List.all_eq_true, Huge, List.mem_map, List.length_map, List.length_take]
  refine ⟨⟨⟨⟨⟨⟨?_, ?_⟩, ?_⟩, ?_⟩, ?_⟩, ?_⟩, ?_, ?_⟩ <;> try omega
  rintro n ⟨m, -, rfl⟩
  have := rHuge_in m
  omega
theorem In.at {w : World} {v : Value} {l : List Int} (h : In w v l) (h0 : 0 < l.length) : ∃ b o c, v = .slice (some ⟨b, o, none⟩) l.length c ∧ l.length ≤ c ∧ Cells w b o (ints l) := by
  rcases h.val with ⟨h1, _⟩ | ⟨b, o, c, hv, hnc, hc⟩
  · omega
  · exact ⟨b, o, c, hv, hnc, hc⟩
theorem Sl.low {w : World} {v : Value} {n s : Nat} {xs : List Value} (h : Sl w s v n xs) : ∀ b, v.ownBlock = some b → w.heap.size ≤ b → xs = [] := by
  intro b hb hge
  obtain ⟨hl, hv⟩ := h
  rcases hv with ⟨h1, a, c, hv⟩ | ⟨b', off, c, hv, hnc, hc⟩
  · exact List.eq_nil_of_length_eq_zero (by rw [hl, h1]; omega)
  · rw [hv] at hb
    simp only [Value.ownBlock, Option.some.injEq] at hb
    by_cases e : xs = []
    · exact e
    · exfalso
      have hpos := List.length_pos_iff.2 e
      have h1 := hc 0 _ (List.getElem?_eq_getElem hpos)
      have : b' < w.heap.size := by
        unfold World.cell? at h1
        simp only at h1
        rcases Nat.lt_or_ge b' w.heap.size with h | h
        · exact h
        · rw [Array.getElem?_eq_none h] at h1; simp at h1
      omega
def i64 (n : Int) : Prop := -9223372036854775808 ≤ n ∧ n ≤ 9223372036854775807
theorem rest_eq {n m : Int} (hm : 0 < m) : (n.tmod m + m).tmod m = n % m := by
  have h1 : -m < n.tmod m := by have := Int.lt_tmod_of_pos n hm; omega
  have h2 : n.tmod m < m := Int.tmod_lt_of_pos n hm
  rw [Int.tmod_eq_emod_of_nonneg (by omega), Int.add_emod_right]
  rcases Int.le_total 0 n with h | h
  · rw [Int.tmod_eq_emod_of_nonneg h, Int.emod_emod_of_dvd _ (Int.dvd_refl m)]
  · obtain ⟨k, rfl⟩ : ∃ k : Int, n = -k := ⟨-n, by omega⟩
    have hk : 0 ≤ k := by omega
    rw [Int.neg_tmod, Int.tmod_eq_emod_of_nonneg hk]
    have h3 := Int.emod_add_mul_ediv k m
    have : -k = -(k % m) + m * (-(k / m)) := by rw [Int.mul_neg]; omega
    rw [this, Int.add_mul_emod_self_left]

theorem num_spec (n : Int) (w0 : World) : Ca Try.prog 10 #[.int .i64 n] w0 (fun v w' => v = .int .i64 n ∧ w' = w0) := by
  refine Ca.of Try.func10 Try.ntmps10 rfl rfl ?_
  refine W.seq ?_
  refine W.region ?_
  refine WL.c rfl (o_as ?_)
  refine WL.nil ?_
  refine W.seq ?_
  refine W.region ?_
  refine WL.c rfl (o_mv ?_)
  refine WL.c rfl (o_as ?_)
  refine WL.nil ?_
  refine W.ret ?_
  refine ret1v rfl (show _ = Value.int _ _ from rfl) ?_
  exact ⟨rfl, rfl⟩
theorem rest_spec (n m : Int) (w0 : World) (hm : 0 < m) (hm2 : m ≤ 4611686018427387904) : Ca Try.prog 13 #[.int .i64 n, .int .i64 m] w0 (fun v w' => v = .int .i64 (n % m) ∧ w' = w0) := by
  have h1 : -m < n.tmod m := by have := Int.lt_tmod_of_pos n hm; omega
  have h2 : n.tmod m < m := Int.tmod_lt_of_pos n hm
  refine Ca.of Try.func13 Try.ntmps13 rfl rfl ?_
  refine W.seq ?_
  refine W.region ?_
  refine WL.c rfl (o_as ?_)
  refine WL.nil ?_
  refine W.seq ?_
  refine W.region ?_
  refine WL.c rfl (o_mv ?_)
  refine WL.c rfl (o_mv ?_)
  refine WL.c rfl (o_rem rfl rfl (by omega) ?_)
  refine WL.c rfl (o_mv ?_)
  refine WL.c rfl (o_addi rfl rfl (by omega) ?_)
  refine WL.c rfl (o_mv ?_)
  refine WL.c rfl (o_rem rfl rfl (by omega) ?_)
  refine WL.c rfl (o_as ?_)
  refine WL.nil ?_
  refine W.ret ?_
  refine ret1v rfl (show _ = Value.int _ _ from rfl) ?_
  exact ⟨congrArg (Value.int .i64) (rest_eq hm), rfl⟩
theorem same_spec (f : Fr) (tv uv : Value) (w0 : World) (hS : In w0 tv f.tab) (hU : In w0 uv f.tab) (hl : f.tab.length ≤ 16000000000000) : Ca Try.prog 15 #[.agg (fcells f tv).toArray, .agg (fcells f uv).toArray] w0 (fun v w' => v = .bool true ∧ Ext w0 w') := by
  refine Ca.of Try.func15 Try.ntmps15 rfl rfl ?_
  refine W.seq ?_
  refine W.region ?_
  refine WL.c rfl (o_boxB rfl ?_)
  intro w2 hC2 hx2 hs2
  replace hC2 : w2.heap[w0.heap.size]? = some (.cells (fcells f tv).toArray 39 (0, 0)) := hC2
  refine WL.c rfl (o_boxB rfl ?_)
  intro w3 hC3 hx3 hs3
  replace hC3 : w3.heap[w2.heap.size]? = some (.cells (fcells f uv).toArray 39 (0, 0)) := hC3
  replace hC2 := hx3.blk hC2 (fun h => h)
  have hx := hx2.tr hx3
  replace hS := Sl.ext hS hx
  replace hU := Sl.ext hU hx
  refine WL.c rfl (o_as ?_)
  refine WL.nil ?_
  refine W.seq ?_
  refine W.seq ?_
  refine W.region ?_
  refine WL.c rfl (o_fa 0 TI39 rfl TI3 rfl rfl ?_)
  refine WL.c rfl (o_ld TI3 rfl rfl (cell_of hC2 rfl) ?_)
  refine WL.c rfl (o_fa 0 TI39 rfl TI3 rfl rfl ?_)
  refine WL.c rfl (o_ld TI3 rfl rfl (cell_of hC3 rfl) ?_)
  refine WL.c rfl (o_ne rfl rfl ?_)
  refine WL.c rfl (o_mv ?_)
  refine WL.g rfl (by simp) rfl (o_fa 1 TI39 rfl TI3 rfl rfl ?_)
  refine WL.g rfl (by simp) rfl (o_ld TI3 rfl rfl (cell_of hC2 rfl) ?_)
  refine WL.g rfl (by simp) rfl (o_fa 1 TI39 rfl TI3 rfl rfl ?_)
  refine WL.g rfl (by simp) rfl (o_ld TI3 rfl rfl (cell_of hC3 rfl) ?_)
  refine WL.g rfl (by simp) rfl (o_ne rfl rfl ?_)
  refine WL.c rfl (o_pickO rfl rfl ?_)
  refine WL.c rfl (o_mv ?_)
  refine WL.g rfl (by simp) rfl (o_fa 2 TI39 rfl TI3 rfl rfl ?_)
  refine WL.g rfl (by simp) rfl (o_ld TI3 rfl rfl (cell_of hC2 rfl) ?_)
  refine WL.g rfl (by simp) rfl (o_fa 2 TI39 rfl TI3 rfl rfl ?_)
  refine WL.g rfl (by simp) rfl (o_ld TI3 rfl rfl (cell_of hC3 rfl) ?_)
  refine WL.g rfl (by simp) rfl (o_ne rfl rfl ?_)
  refine WL.c rfl (o_pickO rfl rfl ?_)
  refine WL.c rfl (o_mv ?_)
  refine WL.g rfl (by simp) rfl (o_fa 3 TI39 rfl TI3 rfl rfl ?_)
  refine WL.g rfl (by simp) rfl (o_ld TI3 rfl rfl (cell_of hC2 rfl) ?_)
  refine WL.g rfl (by simp) rfl (o_fa 3 TI39 rfl TI3 rfl rfl ?_)
  refine WL.g rfl (by simp) rfl (o_ld TI3 rfl rfl (cell_of hC3 rfl) ?_)
  refine WL.g rfl (by simp) rfl (o_ne rfl rfl ?_)
  refine WL.c rfl (o_pickO rfl rfl ?_)
  refine WL.c rfl (o_mv ?_)
  refine WL.g rfl (by simp) rfl (o_fa 4 TI39 rfl TI3 rfl rfl ?_)
  refine WL.g rfl (by simp) rfl (o_ld TI3 rfl rfl (cell_of hC2 rfl) ?_)
  refine WL.g rfl (by simp) rfl (o_fa 4 TI39 rfl TI3 rfl rfl ?_)
  refine WL.g rfl (by simp) rfl (o_ld TI3 rfl rfl (cell_of hC3 rfl) ?_)
  refine WL.g rfl (by simp) rfl (o_ne rfl rfl ?_)
  refine WL.c rfl (o_pickO rfl rfl ?_)
  refine WL.c rfl (o_mv ?_)
  refine WL.g rfl (by simp) rfl (o_fa 5 TI39 rfl TI3 rfl rfl ?_)
  refine WL.g rfl (by simp) rfl (o_ld TI3 rfl rfl (cell_of hC2 rfl) ?_)
  refine WL.g rfl (by simp) rfl (o_fa 5 TI39 rfl TI3 rfl rfl ?_)
  refine WL.g rfl (by simp) rfl (o_ld TI3 rfl rfl (cell_of hC3 rfl) ?_)
  refine WL.g rfl (by simp) rfl (o_ne rfl rfl ?_)
  refine WL.c rfl (o_pickO rfl rfl ?_)
  refine WL.c rfl (o_mv ?_)
  refine WL.g rfl (by simp) rfl (o_fa 6 TI39 rfl TI37 rfl rfl ?_)
  refine WL.g rfl (by simp) rfl (o_ld TI37 rfl rfl (cell_of hC2 rfl) ?_)
  refine WL.g rfl (by simp) rfl (o_lenR TI37 rfl hS ?_)
  refine WL.g rfl (by simp) rfl (o_fa 6 TI39 rfl TI37 rfl rfl ?_)
  refine WL.g rfl (by simp) rfl (o_ld TI37 rfl rfl (cell_of hC3 rfl) ?_)
  refine WL.g rfl (by simp) rfl (o_lenR TI37 rfl hU ?_)
  refine WL.g rfl (by simp) rfl (o_ne rfl rfl ?_)
  refine WL.c rfl (o_pickO rfl rfl ?_)
  refine WL.nil ?_
  refine W.condF' rfl (by simp) ?_
  refine W.skip ?_
  refine W.seq ?_
  refine W.seq ?_
  refine W.region ?_
  refine WL.c rfl (o_as ?_)
  refine WL.nil ?_
  refine W.block ?_
  refine W.loop (fun e w => ∃ k : Nat, k ≤ f.tab.length ∧ e 2 = .pointer (some ⟨w0.heap.size, 0, none⟩) ∧ e 3 = .pointer (some ⟨w2.heap.size, 0, none⟩) ∧ e 5 = .int .i64 (k : Int) ∧ Ext w3 w) (fun e w => f.tab.length - (intOf (e 5)).toNat) ?_ ?_
  · exact ⟨0, Nat.zero_le _, rfl, rfl, rfl, Only.refl _ _⟩
  rintro e w ⟨k, hk, h2, h3, h5, hxw⟩
  have hm5 := h5
  replace hC2 := hxw.blk hC2 (fun h => h)
  replace hC3 := hxw.blk hC3 (fun h => h)
  replace hS := Sl.ext hS hxw
  replace hU := Sl.ext hU hxw
  replace hx := hx.tr hxw
  refine W.seq ?_
  refine W.seq ?_
  refine W.region ?_
  refine WL.c rfl (o_mvh h5 ?_)
  refine WL.c rfl (o_fa 6 TI39 rfl TI37 rfl h2 ?_)
  refine WL.c rfl (o_ld TI37 rfl rfl (cell_of hC2 rfl) ?_)
  refine WL.c rfl (o_lenR TI37 rfl hS ?_)
  refine WL.c rfl (o_lt rfl rfl ?_)
  refine WL.nil ?_
  refine W.cond rfl (fun c59 => ?_) (fun c59 => ?_)
  · try simp only [decide_eq_true_eq, decide_eq_false_iff_not, Bool.not_eq_true', Bool.not_eq_false', Bool.and_eq_true, Bool.or_eq_true, Bool.and_eq_false_iff, Bool.or_eq_false_iff] at c59
    refine W.skip ?_
    refine W.seq ?_
    refine W.block ?_
    refine W.seq ?_
    have hk1 : k < f.tab.length := by omega
    obtain ⟨tb, to_, tc, rfl, htc, hct⟩ := In.at hS (by omega)
    obtain ⟨ub, uo, uc, rfl, huc, hcu⟩ := In.at hU (by omega)
    refine W.quiet rfl (by kernel_rfl) ?_
    refine WQ.c rfl ((QO.o rfl fun _ => o_fa 6 TI39 rfl TI37 rfl h2 ⟨rfl, rfl⟩)) ?_
    refine WQ.c rfl ((QO.o rfl fun _ => o_ld TI37 rfl rfl (cell_of hC2 rfl) ⟨rfl, rfl⟩)) ?_
    refine WQ.c rfl ((QO.o rfl fun _ => o_mvh h5 ⟨rfl, rfl⟩)) ?_
    refine WQ.c rfl ((QO.o rfl fun _ => o_ixB TI37 TI3 rfl rfl (by omega) ⟨rfl, rfl⟩)) ?_
    refine WQ.c rfl ((QO.o rfl fun _ => o_ld TI3 rfl rfl (show _ = some (Value.int .i64 f.tab[k]) by rw [Nat.mul_one]; exact hct k _ (getint hk1)) ⟨rfl, rfl⟩)) ?_
    refine WQ.c rfl ((QO.o rfl fun _ => o_fa 6 TI39 rfl TI37 rfl h3 ⟨rfl, rfl⟩)) ?_
    refine WQ.c rfl ((QO.o rfl fun _ => o_ld TI37 rfl rfl (cell_of hC3 rfl) ⟨rfl, rfl⟩)) ?_
    refine WQ.c rfl ((QO.o rfl fun _ => o_mvh h5 ⟨rfl, rfl⟩)) ?_
    refine WQ.c rfl ((QO.o rfl fun _ => o_ixB TI37 TI3 rfl rfl (by omega) ⟨rfl, rfl⟩)) ?_
    refine WQ.c rfl ((QO.o rfl fun _ => o_ld TI3 rfl rfl (show _ = some (Value.int .i64 f.tab[k]) by rw [Nat.mul_one]; exact hcu k _ (getint hk1)) ⟨rfl, rfl⟩)) ?_
    refine WQ.c rfl ((QO.o rfl fun _ => o_ne rfl rfl ⟨rfl, rfl⟩)) ?_
    refine WQ.nil ?_
    intro nq
    refine W.condF' rfl (by simp) ?_
    refine W.skip ?_
    refine W.region ?_
    refine WL.c rfl (o_mvh h5 ?_)
    refine WL.c rfl (o_addi rfl rfl (by omega) ?_)
    refine WL.c rfl (o_as ?_)
    refine WL.nil ?_
    refine ⟨⟨k + 1, by omega, h2, h3, rfl, hxw.tr (Only.drewN w nq)⟩, ?_⟩
    show f.tab.length - ((k : Int) + 1).toNat < _
    rw [hm5]; simp [intOf]; omega
  · try simp only [decide_eq_true_eq, decide_eq_false_iff_not, Bool.not_eq_true', Bool.not_eq_false', Bool.and_eq_true, Bool.or_eq_true, Bool.and_eq_false_iff, Bool.or_eq_false_iff] at c59
    refine W.exit ?_
    refine W.seq ?_
    refine W.region ?_
    refine WL.c rfl (o_as ?_)
    refine WL.nil ?_
    refine W.ret ?_
    refine ret1v rfl (show _ = Value.bool _ from rfl) ?_
    exact ⟨rfl, hx⟩
theorem ownr_spec (f : Fr) (tv : Value) (w0 : World) (hS : In w0 tv f.tab) (hl : f.tab.length ≤ 16000000000000) : Ca Try.prog 24 #[.agg (fcells f tv).toArray] w0 (fun v w' => ∃ tv', v = .agg (fcells f tv').toArray ∧ w'.ownsRow w0.heap.size 3 1 tv' f.tab.length (ints f.tab) ∧ Ext w0 w') := by
  refine Ca.of Try.func24 Try.ntmps24 rfl rfl ?_
  refine W.seq ?_
  refine W.region ?_
  refine WL.c rfl (o_boxB rfl ?_)
  intro w1 hC1 hx1 hs1
  replace hC1 : w1.heap[w0.heap.size]? = some (.cells (fcells f tv).toArray 39 (0, 0)) := hC1
  refine WL.c rfl (o_alB TI39 ?_)
  intro w2 hC2 hx2 hs2
  have hC1b := hx2.blk hC1 (fun h => h)
  refine WL.nil ?_
  refine W.seq ?_
  refine W.region ?_
  refine WL.c rfl (o_fa 6 TI39 rfl TI37 rfl rfl ?_)
  refine WL.c rfl (o_ld TI37 rfl rfl (cell_of hC1b rfl) ?_)
  refine WL.c rfl (o_apO (w0.heap.size) TI37 TI3 (show _ = Value.slice _ _ _ from rfl) rfl (World.ownsRow_nil _ _ _ _) (hS.ext (hx1.tr hx2)) rfl (by decide) (one_ints _) (by rw [maxLen_eq]; omega) (by omega) ((hx1.tr hx2).size) ?_)
  intro v5 w5 hown5 ho5 hb5 hk5
  rw [Nat.zero_add, List.nil_append] at hown5
  have hx5 : Ext w2 w5 := ho5.mono (fun j _ h => by cases h)
  have hC1c := hx5.blk hC1b (fun h => h)
  have hC2c := hx5.blk hC2 (fun h => h)
  refine WL.c rfl (o_fa 6 TI39 rfl TI37 rfl rfl ?_)
  refine WL.u (o_stB TI37 rfl rfl (own_one hown5) hC1c (show _ < 7 by decide) ?_)
  intro w6 hB6 ho6 hs6
  replace hB6 : w6.heap[w0.heap.size]? = some (.cells (fcells f v5).toArray 39 (0, 0)) := hB6
  have hC2d := ho6.blk hC2c (by show ¬ w1.heap.size = w0.heap.size; omega)
  have hown6 := own_only hown5 ho6 (fun k hk he => by have := own_off hown5 hC1c (by decide); rw [he] at hk; exact this hk)
  refine WL.nil ?_
  refine W.seq ?_
  refine W.region ?_
  refine WL.c rfl (o_ldA TI39 rfl rfl (show Cells w6 w0.heap.size 0 (fcells f v5) from Cells.of hB6 0 _ (by simp)) rfl ?_)
  refine WL.u (o_stA TI39 rfl rfl rfl (fcells_one (own_one hown5)) hC2d rfl ?_)
  intro w7 hB7 ho7 hs7
  have hown7 := own_only hown6 ho7 (fun k hk he => by have := own_off hown6 hC2d (by decide); rw [he] at hk; exact this hk)
  refine WL.nil ?_
  refine W.ret ?_
  refine retC rfl TI39 rfl rfl (show Cells w7 w1.heap.size 0 (fcells f v5) from Cells.of hB7 0 _ (by simp)) rfl ?_
  refine ⟨v5, rfl, hown7, ?_⟩
  exact (((hx1.tr hx2).tr hx5).trans' ho6 (fun _ h => h) (fun j hj he => by omega)).trans' ho7 (fun _ h => h) (fun j hj he => by omega)
end Go.Proofs.Ytdiaeafjjffjmaa
