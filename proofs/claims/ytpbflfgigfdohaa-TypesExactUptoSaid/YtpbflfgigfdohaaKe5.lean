/-
  Walks and lemmas. Written by program out of specs of mine.
-/
import Derived.WalkKit
import Derived.WalkSpells
import Derived.WalkLawsBesides
import Derived.Deep.Quiet
import Derived.StillTail
import Derived.StringKeys
import Derived.Laws.StructEq
import Derived.Laws.Externs
import Derived.Laws.Tables
import Derived.Scope
import Derived.Test.YtpbflfgigfdohaaProg
import Derived.Laws.AppendOwn
import Derived.Maps.AppendAt
import Derived.Recover
import Derived.Lib.Bytealg
import Derived.SizedLaws
import Derived.ChangeArms
import Derived.ChangeSlices
import Derived.Maps.OwnSet
import Derived.Test.YtpbflfgigfdohaaRows
import Derived.ProofKit
import Derived.OpenShut
import Derived.ShutString
import Derived.ChangeOld
import Derived.Below
import Derived.JoinedCond
import Derived.SliceStrings
import Derived.Test.YtpbflfgigfdohaaKe4
set_option linter.unusedSimpArgs false
set_option linter.unusedVariables false
set_option maxRecDepth 100000
namespace Go.Proofs.Ytpbflfgigfdohaa
open Go Go.Vc Go.RowKit Go.Proofs

def rdyB (D : List Df) (out : List Nat) (i q : Nat) : Bool := !(out.contains i) && ((usesD D i).take q).all (fun k => out.contains k)
theorem rdy_zero (D : List Df) (out : List Nat) (i : Nat) : rdyB D out i 0 = !(out.contains i) := by
 unfold rdyB
 simp
theorem rdy_next {D : List Df} {out : List Nat} {i q : Nat} (h : q < (usesD D i).length) : rdyB D out i (q + 1) = (rdyB D out i q && out.contains (usesD D i)[q]) := by
 unfold rdyB
 rw [take_next h, List.all_append, Bool.and_assoc]
 simp
theorem rdy_all {D : List Df} {out : List Nat} {i : Nat} : rdyB D out i (usesD D i).length = true ↔ i ∉ out ∧ ∀ k ∈ usesD D i, k ∈ out := by
 unfold rdyB
 rw [List.take_length]
 simp

set_option maxHeartbeats 4000000 in
theorem rorder_spec (D : List Df) (dv : Value) (V : Nat → Value) (w0 : World) (hD : DefR w0 D dv V) (hlim : DOk D) (hU : ∀ i, i < D.length → ∀ j ∈ usesD D i, j < D.length) (hac : ∀ i, i < D.length → ¬ Relation.TransGen (Us (usesD D)) i i) : Ca Try.prog 67 #[.agg #[dv]] w0 (fun v w' => w'.ownsRow w0.heap.size 3 1 v (ordN D).length ((ordN D).map iv) ∧ Ext w0 w') := by
 have hlen := hlim.len
 obtain ⟨BB, hBB⟩ : ∃ B, B = w0.heap.size := ⟨_, rfl⟩
 rw [← hBB]
 have hD00 := hD
 refine Ca.of Try.func67 Try.ntmps67 rfl rfl (W.seq (W.region (WL.c rfl (o_boxB rfl ?_))))
 intro w1 hC1 hx1 hs1
 obtain ⟨b1, hb1⟩ : ∃ b, b = w0.heap.size := ⟨_, rfl⟩
 rw [← hb1] at hC1 ⊢
 replace hC1 : w1.heap[b1]? = some (.cells ([dv]).toArray 25 (0, 0)) := hC1
 have hx := hx1
 replace hD := hD.ext hx1
 refine WL.c rfl (o_ash (by first | exact vS | exact rfl) (WL.nil (W.seq (W.region (WL.c rfl (o_fa 0 TI25 rfl TI23 rfl rfl (WL.c rfl (o_ld TI23 rfl rfl (cell_of hC1 rfl) (WL.c rfl (o_lenR TI23 rfl hD.row (WL.c rfl (o_ash vI (WL.nil (W.seq (W.region (WL.c rfl (o_mvh vI (WL.c rfl (o_mk2 TI43 TI4 (l := D.length) (n := D.length) rfl rfl (Nat.le_refl _) (by omega) (by omega) ?_)))))))))))))))))))
 have hrt := own_made1 (w := w1) (el := 4) (l := D.length) (n := D.length) (z := .bool false) rfl (Nat.le_refl _) (by omega)
 have hxb : Ext w1 (w1.alloc (.cells (madeCells (Value.bool false).cells (D.length * 1)) 4)) := Only.alloc w1 _
 generalize w1.alloc (.cells (madeCells (Value.bool false).cells (D.length * 1)) 4) = wt at hrt hxb ⊢
 obtain ⟨tv, htv⟩ : ∃ o, o = Value.slice (some ⟨w1.heap.size, 0, none⟩) D.length D.length := ⟨_, rfl⟩
 rw [← htv] at hrt ⊢
 rw [← tlB_nil] at hrt
 replace hrt := own_mono hrt (show BB ≤ w1.heap.size by rw [hBB]; exact hx.size)
 replace hx := hx.tr hxb
 replace hD := hD.ext hxb
 replace hC1 := hxb.blk hC1 (fun h => h)
 clear hxb htv
 refine WL.c rfl (o_ash (by first | exact vS | exact rfl) (WL.nil (W.seq (W.region (WL.c rfl (o_ash (by first | exact vS | exact rfl) (WL.nil (W.seq (W.seq (W.region (WL.c rfl (o_ash vI (WL.nil (W.block (W.loop (fun e w => ∃ (d : Nat) (av : Value) (Q : Nat → Value), d ≤ D.length ∧ e 1 = .pointer (some ⟨b1, 0, none⟩) ∧ e 3 = .int .i64 (D.length : Int) ∧ e 4 = tv ∧ e 5 = av ∧ e 6 = .int .i64 (d : Int) ∧ w.ownsRow BB 4 1 tv D.length (tlB D.length []) ∧ w.ownsRow BB 79 1 av d ((List.range d).map Q) ∧ Many w BB 3 1 d Q (fun j => (usesD D j).length) (fun j => (usesD D j).map iv) ∧ DefR w D dv V ∧ w.heap[b1]? = some (.cells #[dv] 25 (0, 0)) ∧ Ext w0 w) (fun e w => D.length - (intOf (e 6)).toNat) ?_ ?_)))))))))))))))
 ·exact ⟨0, .slice none 0 0, fun _ => undef, Nat.zero_le _, rfl, rfl, rfl, rfl, rfl, hrt, World.ownsRow_nil _ _ _ _, Many.zero, hD, hC1, hx⟩
 rintro e w ⟨d, av, Q, hd, h1, h3, h4, h5, h6, hrt, hav, hM, hD, hC1, hx⟩
 have hm6 := h6
 refine W.seq (W.seq (W.region (WL.c rfl (o_mvh h6 (WL.c rfl (o_mvh h3 (WL.c rfl (o_lt rfl rfl (WL.nil (W.cond rfl (fun c18 => ?_) (fun c18 => ?_)))))))))))
 ·try simp only [cs8] at c18
  have hd1 : d < D.length := by omega
  have hBm : BB ≤ w.heap.size := by rw [hBB]; exact hx.size
  have hlq : ∀ j, j < d → ∀ k, (Q j).ownBlock = some k → k < w.heap.size := fun j hj k hk => (hM.lt hj hk).2
  obtain ⟨mm, hmm⟩ : ∃ m, m = w.heap.size := ⟨_, rfl⟩
  refine W.skip (W.seq (W.block (W.region (WL.c rfl (o_mvh h5 (WL.c rfl (o_ldA TI25 rfl h1 (show Cells _ b1 0 [dv] from Cells.of hC1 0 _ (by simp)) rfl (WL.c rfl (o_mvh h6 (WL.c rfl (o_call Try.call90 (lc rfl (lc rfl ln)) ((ruses_spec d D dv V _ hD hlim hd1).mono ?_))))))))))))
  rintro v24 w24 ⟨hu24, hx24⟩
  rw [← hmm] at hu24 hlq hBm
  replace hx := hx.tr hx24
  replace hD := hD.ext hx24
  replace hC1 := hx24.blk hC1 (fun h => h)
  replace hM := hM.ext hx24
  replace hav := own_ext hav hx24
  replace hrt := own_ext hrt hx24
  refine WL.apO (BB) rfl rfl TI152 TI79 (show _ = v24 from rfl) rfl hav (by decide) (by decide) (by rw [own_cells hu24]; rfl) (one1 (own_one hu24)) rfl (by rw [maxLen_eq]; omega) (by omega) (by rw [hBB]; exact hx.size) ?_
  intro avN w26 havN ho26 hb26 _
  have hlo : ∀ b, av.ownBlock = some b → BB ≤ b := fun b hb => (hav.lt b hb).1
  replace hC1 := ho26.blk hC1 (fun hb => own_off hav hC1 (by decide) hb)
  replace hu24 := own_only hu24 ho26 (own_row_off hav hu24 (by decide))
  replace hrt := own_only hrt ho26 (own_row_off hav hrt (by decide))
  replace hM := hM.only ho26 (fun j hj => own_row_off hav (hM.row j hj) (by decide))
  replace hx := hx.trans' ho26 (fun _ h => h) (fun b hb he => by have := hlo b he; omega)
  replace hD := hD00.ext hx
  replace hM := Many.snocG hM hu24 hBm hlq rfl rfl
  have hav : w26.ownsRow BB 79 1 avN (d + 1) ((List.range (d + 1)).map (fun j => if j = d then v24 else Q j)) := by
   rw [own_cells hu24] at havN
   rw [List.range_succ, List.map_append]
   have e1 : (List.range d).map (fun j => if j = d then v24 else Q j) = (List.range d).map Q := List.map_congr_left (fun j hj => by rw [if_neg (by have := List.mem_range.1 hj; omega)])
   have e2 : [d].map (fun j => if j = d then v24 else Q j) = [v24] := by simp
   rw [e1, e2]; exact havN
  clear havN ho26
  refine WL.c rfl (o_ash (by first | exact vS | exact rfl) (WL.nil (W.region (WL.c rfl (o_mvh h6 (WL.c rfl (o_addi rfl rfl (by omega) (WL.c rfl (o_ash vI (WL.nil (⟨⟨d + 1, avN, fun j => if j = d then v24 else Q j, by omega, h1, h3, h4, rfl, rfl, hrt, hav, hM, hD, hC1, hx⟩, ?_⟩)))))))))))
  show D.length - ((d : Int) + 1).toNat < _
  rw [hm6]; simp [intOf]; omega
 try simp only [cs8] at c18
 have hd1 : d = D.length := by omega
 subst hd1
 refine W.exit (W.seq ?_)
 obtain ⟨HH, hHH⟩ : ∃ m, m = w.heap.size := ⟨_, rfl⟩
 have hBH : BB ≤ HH := by rw [hBB, hHH]; exact hx.size
 have hHl : ∀ {b}, tv.ownBlock = some b → b < HH := fun hb => by rw [hHH]; exact (hrt.lt _ hb).2
 have hlq : ∀ j, j < D.length → ∀ k, (Q j).ownBlock = some k → k < HH := fun j hj k hk => by rw [hHH]; exact (hM.lt hj hk).2
 refine W.region (WL.c rfl (o_ash (by first | exact vS | exact rfl) (WL.nil (W.seq (W.block (W.loop (fun e w => ∃ (out : List Nat) (ov : Value), e 3 = .int .i64 (D.length : Int) ∧ e 4 = tv ∧ e 5 = av ∧ e 7 = ov ∧ out.length ≤ D.length ∧ Told D.length (usesD D) out ∧ orderF D.length (usesD D) (D.length - out.length) out = ordN D ∧ HH ≤ w.heap.size ∧ w.ownsRow HH 3 1 ov out.length (out.map iv) ∧ w.ownsRow BB 4 1 tv D.length (tlB D.length out) ∧ w.ownsRow BB 79 1 av D.length ((List.range D.length).map Q) ∧ Many w BB 3 1 D.length Q (fun j => (usesD D j).length) (fun j => (usesD D j).map iv) ∧ Ext w0 w) (fun e w => D.length - slen (e 7)) ?_ ?_))))))
 ·exact ⟨[], .slice none 0 0, h3, h4, h5, rfl, Nat.zero_le _, Told.nil, rfl, by rw [hHH]; exact Nat.le_refl _, World.ownsRow_nil _ _ _ _, hrt, hav, hM, hx⟩
 rintro e w ⟨out, ov, h3, h4, h5, h7, hol, htold, hord, hHw, hro, hrt, hav, hM, hx⟩
 have hm7 := h7
 have hsl : slen ov = out.length := by obtain ⟨a9, c9, hov9, -⟩ := own_form hro; rw [hov9]; rfl
 refine W.seq (W.seq (W.region (WL.c rfl (o_mvh h7 (WL.c rfl (o_lenR TI79 rfl (Sl.own hro) (WL.c rfl (o_mvh h3 (WL.c rfl (o_lt rfl rfl (WL.nil (W.cond rfl (fun c30 => ?_) (fun c30 => ?_)))))))))))))
 ·try simp only [cs8] at c30
  have hl1 : out.length < D.length := by omega
  obtain ⟨nx, hnx⟩ := nextO_none hU hac hl1
  refine W.skip (W.block (W.seq (W.region (WL.c rfl (o_ash vI (WL.nil (W.block (W.loop (fun e w => ∃ i : Nat, i ≤ D.length ∧ e 3 = .int .i64 (D.length : Int) ∧ e 4 = tv ∧ e 5 = av ∧ e 7 = ov ∧ e 8 = .int .i64 (i : Int) ∧ (∀ j, j < i → ¬ (j ∉ out ∧ ∀ k ∈ usesD D j, k ∈ out)) ∧ HH ≤ w.heap.size ∧ w.ownsRow HH 3 1 ov out.length (out.map iv) ∧ w.ownsRow BB 4 1 tv D.length (tlB D.length out) ∧ w.ownsRow BB 79 1 av D.length ((List.range D.length).map Q) ∧ Many w BB 3 1 D.length Q (fun j => (usesD D j).length) (fun j => (usesD D j).map iv) ∧ Ext w0 w) (fun e w => D.length - (intOf (e 8)).toNat) ?_ ?_))))))))
  ·exact ⟨0, Nat.zero_le _, h3, h4, h5, h7, rfl, fun j hj => by omega, hHw, hro, hrt, hav, hM, hx⟩
  rintro e w ⟨i, hi, h3, h4, h5, h7, h8, hno, hHw, hro, hrt, hav, hM, hx⟩
  have hm8 := h8
  refine W.seq (W.seq (W.region (WL.c rfl (o_mvh h8 (WL.c rfl (o_mvh h3 (WL.c rfl (o_lt rfl rfl (WL.nil (W.cond rfl (fun c33 => ?_) (fun c33 => ?_)))))))))))
  ·try simp only [cs8] at c33
   have hi1 : i < D.length := by omega
   have hul : (usesD D i).length ≤ D[i].ty.length := by have h1 := usesK_len D D[i].ty D[i].ty.length; rw [usesK_all hi1] at h1; exact h1
   have htl := hlim.ty _ (List.getElem_mem hi1)
   obtain ⟨tb, tc, htv, htb⟩ := own_some hrt (by omega)
   obtain ⟨ab, ac, hab, habb⟩ := own_some hav (by omega)
   rw [htv] at h4
   rw [hab] at h5
   have hcell : w.cell? ⟨tb, 0 + i * 1, none⟩ = some (.bool (out.contains i)) := by rw [Nat.zero_add, Nat.mul_one]; exact own_cell (htv ▸ hrt) (tlB_at hi1)
   refine W.skip (W.seq (W.block (W.seq (W.region (WL.c rfl (o_mvh h4 (WL.c rfl (o_mvh h8 (WL.c rfl (o_ixB (i := i) TI43 TI4 (show _ = Value.slice (some ⟨tb, 0, none⟩) D.length tc from rfl) (show _ = Value.int .i64 (i : Int) from rfl) (by omega) (WL.c rfl (o_ld TI4 rfl rfl hcell (WL.c rfl (o_not' rfl (WL.c rfl (o_ash vB (WL.nil (W.seq (W.seq (W.region (WL.c rfl (o_ash vI (WL.nil (W.block (W.loop (fun e w => ∃ q : Nat, q ≤ (usesD D i).length ∧ e 3 = .int .i64 (D.length : Int) ∧ e 4 = (Value.slice (some ⟨tb, 0, none⟩) D.length tc) ∧ e 5 = (Value.slice (some ⟨ab, 0, none⟩) D.length ac) ∧ e 7 = ov ∧ e 8 = .int .i64 (i : Int) ∧ e 9 = .bool (rdyB D out i q) ∧ e 10 = .int .i64 (q : Int) ∧ HH ≤ w.heap.size ∧ w.ownsRow HH 3 1 ov out.length (out.map iv) ∧ w.ownsRow BB 4 1 tv D.length (tlB D.length out) ∧ w.ownsRow BB 79 1 av D.length ((List.range D.length).map Q) ∧ Many w BB 3 1 D.length Q (fun j => (usesD D j).length) (fun j => (usesD D j).map iv) ∧ Ext w0 w) (fun e w => (usesD D i).length - (intOf (e 10)).toNat) ?_ ?_)))))))))))))))))))))))))
   ·exact ⟨0, Nat.zero_le _, h3, h4, h5, h7, h8, by rw [rdy_zero]; rfl, rfl, hHw, hro, hrt, hav, hM, hx⟩
   rintro e w ⟨q, hq, h3, h4, h5, h7, h8, h9, h10, hHw, hro, hrt, hav, hM, hx⟩
   have hm10 := h10
   have cn : w.cell? ⟨ab, 0 + i * 1, none⟩ = some (Q i) := by rw [Nat.zero_add, Nat.mul_one]; exact own_cell (hab ▸ hav) (by rw [List.getElem?_map, List.getElem?_range hi1]; rfl)
   refine W.seq (W.seq (W.region (WL.c rfl (o_mvh h10 (WL.c rfl (o_mvh h5 (WL.c rfl (o_mvh h8 (WL.c rfl (o_ixB (i := i) TI152 TI79 (show _ = Value.slice (some ⟨ab, 0, none⟩) D.length ac from rfl) (show _ = Value.int .i64 (i : Int) from rfl) (by omega) (WL.c rfl (o_ld TI79 rfl rfl cn (WL.c rfl (o_lenR TI79 rfl (Sl.own (hM.row i hi1)) (WL.c rfl (o_lt rfl rfl (WL.nil (W.cond rfl (fun c47 => ?_) (fun c47 => ?_)))))))))))))))))))
   ·try simp only [cs8] at c47
    have hq1 : q < (usesD D i).length := by omega
    have hul := hU i hi1 _ (List.getElem_mem hq1)
    obtain ⟨qb, qc, hQi, hqb⟩ := own_some (hM.row i hi1) (by omega)
    rw [hQi] at cn
    have cq : w.cell? ⟨qb, 0 + q * 1, none⟩ = some (.int .i64 (((usesD D i)[q] : Nat) : Int)) := by rw [Nat.zero_add, Nat.mul_one]; exact own_cell (hQi ▸ hM.row i hi1) (by rw [List.getElem?_map, List.getElem?_eq_getElem hq1]; rfl)
    have ct : w.cell? ⟨tb, 0 + (usesD D i)[q] * 1, none⟩ = some (.bool (out.contains (usesD D i)[q])) := by rw [Nat.zero_add, Nat.mul_one]; exact own_cell (htv ▸ hrt) (tlB_at hul)
    refine W.skip (W.seq (W.block ?_))
    by_cases hr : rdyB D out i q = true
    ·skip
     rw [hr] at h9
     refine W.region (WL.c rfl (o_mvh h9 (WL.c rfl (o_mvh vB (WL.g rfl (rfl) rfl (o_mvh h4 (WL.g rfl (rfl) rfl (o_mvh h5 (WL.g rfl (rfl) rfl (o_mvh h8 (WL.g rfl (rfl) rfl (o_ixB (i := i) TI152 TI79 (show _ = Value.slice (some ⟨ab, 0, none⟩) D.length ac from rfl) (show _ = Value.int .i64 (i : Int) from rfl) (by omega) (WL.g rfl (rfl) rfl (o_ld TI79 rfl rfl cn (WL.g rfl (rfl) rfl (o_mvh h10 (WL.g rfl (rfl) rfl (o_ixB (i := q) TI79 TI3 (show _ = Value.slice (some ⟨qb, 0, none⟩) (usesD D i).length qc from rfl) (show _ = Value.int .i64 (q : Int) from rfl) (by omega) (WL.g rfl (rfl) rfl (o_ld TI3 rfl rfl cq (WL.g rfl (rfl) rfl (o_ixB (i := (usesD D i)[q]) TI43 TI4 (show _ = Value.slice (some ⟨tb, 0, none⟩) D.length tc from rfl) (show _ = Value.int .i64 (((usesD D i)[q] : Nat) : Int) from rfl) (by omega) (WL.g rfl (rfl) rfl (o_ld TI4 rfl rfl ct (WL.c rfl (o_pickA rfl rfl (WL.c rfl (o_ash vB (WL.nil (W.region (WL.c rfl (o_mvh h10 (WL.c rfl (o_addi rfl rfl (by omega) (WL.c rfl (o_ash vI (WL.nil (⟨⟨q + 1, by omega, h3, h4, h5, h7, h8, by rw [rdy_next hq1, hr]; rfl, rfl, hHw, hro, hrt, hav, hM, hx⟩, ?_⟩))))))))))))))))))))))))))))))))))))))
     show (usesD D i).length - ((q : Int) + 1).toNat < _
     rw [hm10]; simp [intOf]; omega
    skip
    replace hr : rdyB D out i q = false := by simpa using hr
    rw [hr] at h9
    refine W.region (WL.c rfl (o_mvh h9 (WL.c rfl (o_mvh vB (WL.s rfl (rfl) rfl (WL.s rfl (rfl) rfl (WL.s rfl (rfl) rfl (WL.s rfl (rfl) rfl (WL.s rfl (rfl) rfl (WL.s rfl (rfl) rfl (WL.s rfl (rfl) rfl (WL.s rfl (rfl) rfl (WL.s rfl (rfl) rfl (WL.s rfl (rfl) rfl (WL.c rfl (o_pickF rfl (rfl) (WL.c rfl (o_ash vB (WL.nil (W.region (WL.c rfl (o_mvh h10 (WL.c rfl (o_addi rfl rfl (by omega) (WL.c rfl (o_ash vI (WL.nil (⟨⟨q + 1, by omega, h3, h4, h5, h7, h8, by rw [rdy_next hq1, hr]; rfl, rfl, hHw, hro, hrt, hav, hM, hx⟩, ?_⟩))))))))))))))))))))))))))))
    show (usesD D i).length - ((q : Int) + 1).toNat < _
    rw [hm10]; simp [intOf]; omega
   try simp only [cs8] at c47
   have hq1 : q = (usesD D i).length := by omega
   rw [hq1] at h9
   refine W.exit (W.seq (W.region (WL.c rfl (o_mvh h9 (WL.nil (W.cond rfl (fun c63 => ?_) (fun c63 => ?_)))))))
   ·try simp only [cs8] at c63
    obtain ⟨hm, ha⟩ := rdy_all.1 c63
    refine W.seq (W.region (WL.c rfl (o_mvh h4 (WL.c rfl (o_mvh h8 (WL.c rfl (o_ixB (i := i) TI43 TI4 (show _ = Value.slice (some ⟨tb, 0, none⟩) D.length tc from rfl) (show _ = Value.int .i64 (i : Int) from rfl) (by omega) (WL.u (o_stRj TI4 rfl (show 0 + i * 1 = i by omega) (show _ = Value.bool true from rfl) rfl hrt (show Value.ownBlock tv = some tb from htb) (by omega) ?_)))))))))
    intro w49 hrt49 ho49 hs49
    have hlo : ∀ b, tv.ownBlock = some b → BB ≤ b := fun b hb => (hrt.lt b hb).1
    replace hro := own_only hro ho49 (own_row_off hrt hro (by decide))
    replace hav := own_only hav ho49 (own_row_off hrt hav (by decide))
    replace hM := hM.only ho49 (fun j hj => own_row_off hrt (hM.row j hj) (by decide))
    replace hx := hx.trans' ho49 (fun _ h => h) (fun b hb he => by have := hlo b he; omega)
    replace hHw := Nat.le_trans hHw ho49.size
    clear hrt
    rw [tlB_set] at hrt49
    have hrt := hrt49
    clear hrt49 ho49
    refine WL.nil (W.seq (W.region (WL.c rfl (o_mvh h7 (WL.c rfl (o_mvh h8 (WL.apO (HH) rfl rfl TI79 TI3 vI rfl hro (by decide) (by decide) rfl (one1 rfl) rfl (by rw [maxLen_eq]; omega) (by omega) hHw ?_)))))))
    intro ovN w53 hroN ho53 hb53 _
    have hlo : ∀ b, ov.ownBlock = some b → HH ≤ b := fun b hb => (hro.lt b hb).1
    replace hrt := own_only hrt ho53 (own_row_off hro hrt (by decide))
    replace hav := own_only hav ho53 (own_row_off hro hav (by decide))
    replace hM := hM.only ho53 (fun j hj k hk he => by have := hlq j hj k hk; have := hlo k he; omega)
    replace hx := hx.trans' ho53 (fun _ h => h) (fun b hb he => by have := hlo b he; omega)
    replace hHw := Nat.le_trans hHw ho53.size
    replace hroN : w53.ownsRow HH 3 1 ovN (out.length + 1) ((out ++ [i]).map iv) := by rw [List.map_append]; exact hroN
    have hnxi : nextO D.length (usesD D) out = some i := by
     obtain ⟨p1, p2, p3, p4⟩ := nextO_some hnx
     have : nx = i := by
      rcases Nat.lt_trichotomy nx i with h | h | h
      ·exact absurd ⟨p2, p3⟩ (hno nx h)
      ·exact h
      exact absurd ⟨hm, ha⟩ (p4 i h)
     rw [← this]; exact hnx
    clear hro ho53
    refine WL.c rfl (o_ash (by first | exact vS | exact rfl) (WL.nil (W.exit ?_)))
    have hslN : slen ovN = out.length + 1 := by obtain ⟨a9, c9, hov9, -⟩ := own_form hroN; rw [hov9]; rfl
    refine ⟨⟨out ++ [i], ovN, h3, h4.trans htv.symm, h5.trans hab.symm, rfl, by rw [List.length_append, List.length_singleton]; omega, htold.step hnxi, ?_, hHw, by rw [List.length_append, List.length_singleton]; exact hroN, hrt, hav, hM, hx⟩, ?_⟩
    ·rw [List.length_append, List.length_singleton, ← orderF_more hnxi, show D.length - (out.length + 1) + 1 = D.length - out.length by omega]; exact hord
    show D.length - slen ovN < _
    rw [hm7, hslN, hsl]; omega
   try simp only [cs8] at c63
   have hnot : ¬ (i ∉ out ∧ ∀ k ∈ usesD D i, k ∈ out) := fun h => by rw [rdy_all.2 h] at c63; cases c63
   refine W.skip (W.region (WL.c rfl (o_mvh h8 (WL.c rfl (o_addi rfl rfl (by omega) (WL.c rfl (o_ash vI (WL.nil (⟨⟨i + 1, by omega, h3, h4.trans htv.symm, h5.trans hab.symm, h7, rfl, fun j hj => ?_, hHw, hro, hrt, hav, hM, hx⟩, ?_⟩)))))))))
   ·rcases Nat.lt_or_ge j i with h | h
    ·exact hno j h
    rw [show j = i by omega]; exact hnot
   show D.length - ((i : Int) + 1).toNat < _
   rw [hm8]; simp [intOf]; omega
  try simp only [cs8] at c33
  exfalso
  obtain ⟨p1, p2, p3, -⟩ := nextO_some hnx
  exact hno nx (by omega) ⟨p2, p3⟩
 try simp only [cs8] at c30
 have hl1 : out.length = D.length := by omega
 rw [hl1, Nat.sub_self] at hord
 replace hord : out = ordN D := hord
 rw [hord] at hro
 refine W.exit (W.seq (W.region (WL.c rfl (o_mvh h7 (WL.c rfl (o_ash (by first | exact vS | exact rfl) (WL.nil (W.ret (ret1v rfl rfl ?_)))))))))
 exact ⟨own_mono hro hBH, hx⟩
end Go.Proofs.Ytpbflfgigfdohaa

namespace Go.Proofs.Ytpbflfgigfdohaa
open Go Go.Vc Go.RowKit Go.Proofs

/-- at a node: how deep it is -/
def SHg (D : List Df) (dp : Nat → Nat) (ov dv : Value) (V : Nat → Value) (t : Tr) : Prop := ∀ (L rest : List Ex) (v : Value) (at_ : Nat) (a : Int) (d : Nat) (w0 : World), t.wf a d → L.drop at_ = t.flat ++ rest → Sl w0 7 v L.length (exs L) → L.length * 72 ≤ 140737488351232 → (∀ x ∈ L, x.name.length ≤ 9223372036854775807) → (∀ x ∈ t.flat, x.kind = 9 → ∃ i, whereN D x.name = some i) → DefR w0 D dv V → Sl w0 1 ov D.length (dps D.length dp) →
 Ca Try.prog 91 #[.agg #[dv], v, .int .i64 (at_ : Int), ov] w0 (fun u w' => u = iv (depT (whD D) dp t) ∧ Ext w0 w')
theorem leaf_no {y : Ex} {ks : Trs} {a : Int} {d : Nat} (h : (Tr.node y ks).wf a d) (hk : y.kind = 1 ∨ y.kind = 2 ∨ y.kind = 3 ∨ y.kind = 9) : ks = .nil := by
 obtain ⟨-, -, hr, hk2, -⟩ := h
 obtain ⟨hok, -, -, -⟩ := rightB_iff hr
 have hk0 : y.kids = 0 := by rcases okB_cases hok with g | g | g | g | g <;> omega
 exact trs_nil (by omega)
theorem dep_leaf {wh : List UInt8 → Nat} {dp : Nat → Nat} {y : Ex} (h : ¬ y.kind = 9) : depT wh dp (.node y .nil) = 1 := by
 unfold depT
 rw [if_neg h]
 rfl

set_option maxHeartbeats 4000000 in
theorem high_step (D : List Df) (dp : Nat → Nat) (ov dv : Value) (V : Nat → Value) (hdp : ∀ j, dp j ≤ 2305843009213693952) (hlen : D.length * 48 ≤ 140737488351232) (y : Ex) (ks : Trs) (IH : ∀ t : Tr, t.flat.length < (Tr.node y ks).flat.length → SHg D dp ov dv V t) (L rest : List Ex) (v : Value) (at_ : Nat) (a : Int) (d : Nat) (w0 : World) (hw : (Tr.node y ks).wf a d) (hL : L.drop at_ = (Tr.node y ks).flat ++ rest) (hS : Sl w0 7 v L.length (exs L)) (hLl : L.length * 72 ≤ 140737488351232) (hLn : ∀ x ∈ L, x.name.length ≤ 9223372036854775807) (hkn : ∀ x ∈ (Tr.node y ks).flat, x.kind = 9 → ∃ i, whereN D x.name = some i) (hD : DefR w0 D dv V) (hO : Sl w0 1 ov D.length (dps D.length dp)) : Ca Try.prog 91 #[.agg #[dv], v, .int .i64 (at_ : Int), ov] w0 (fun u w' => u = iv (depT (whD D) dp (Tr.node y ks)) ∧ Ext w0 w') := by
 obtain ⟨hat, hya, hL1⟩ := drop_at (show L.drop at_ = y :: (ks.flat ++ rest) from hL)
 obtain ⟨ub, uo, uc, rfl, huc⟩ := Sl.exq hS hat
 rw [hya] at huc
 have hkk : y.kids = (ks.len : Int) := hw.2.2.2.1.symm
 have hksl : ks.flat.length ≤ L.length := by have h1 := congrArg List.length hL1; simp at h1; omega
 have hlk := trs_len_le ks
 have hyn := hLn y (by rw [← hya]; exact List.getElem_mem hat)
 have hfl : (Tr.node y ks).flat.length = ks.flat.length + 1 := rfl
 refine Ca.of Try.func91 Try.ntmps91 rfl rfl (W.seq (W.region (WL.c rfl (o_boxB rfl ?_))))
 intro w4 hC4 hx4 hs4
 obtain ⟨b4, hb4⟩ : ∃ b, b = w0.heap.size := ⟨_, rfl⟩
 rw [← hb4] at hC4 ⊢
 replace hC4 : w4.heap[b4]? = some (.cells ([dv]).toArray 25 (0, 0)) := hC4
 have hx := hx4
 replace hD := hD.ext hx4
 replace hS := hS.ext hx4
 replace hO := hO.ext hx4
 replace huc := Cells.only huc hx4 (fun h => h)
 refine WL.c rfl (o_ash vI (WL.nil (W.seq (W.seq (W.region (WL.c rfl (o_mvh (by first | exact vS | exact rfl) (WL.c rfl (o_mvh vI (WL.c rfl (o_ixB (i := at_) TI37 TI41 (show _ = (Value.slice (some ⟨ub, uo, none⟩) L.length uc) from rfl) (show _ = Value.int .i64 (at_ : Int) from rfl) (by omega) (WL.c rfl (o_fa 0 TI41 rfl TI3 rfl rfl (WL.c rfl (o_ld TI3 rfl rfl (huc 0 _ rfl) (WL.nil (W.block (W.seq (W.seq ?_)))))))))))))))))))
 by_cases hk1 : y.kind = 1
 rotate_left
 by_cases hk2 : y.kind = 2
 rotate_left
 by_cases hk3 : y.kind = 3
 rotate_left
 by_cases hk9 : y.kind = 9
 ·skip
  have hnil := leaf_no hw (by omega)
  subst hnil
  obtain ⟨wi, hwi⟩ := hkn y (List.mem_cons_self ..) hk9
  obtain ⟨hwl, -⟩ := whereN_some hwi
  obtain ⟨ob, oo, oc, hov, hocell⟩ := Sl.at1 hO hwl (dps_at hwl)
  refine W.region (WL.c rfl (o_eq rfl rfl (WL.c rfl (o_ash vB (WL.nil (W.condF' rfl (decide_eq_false hk1) (W.seq (W.region (WL.c rfl (o_eq rfl rfl (WL.c rfl (o_ash vB (WL.nil (W.condF' rfl (decide_eq_false hk2) (W.region (WL.c rfl (o_eq rfl rfl (WL.c rfl (o_ash vB (WL.nil (W.condF' rfl (decide_eq_false hk3) (W.seq (W.region (WL.c rfl (o_eq rfl rfl (WL.c rfl (o_ash vB (WL.nil (W.condT' rfl (decide_eq_true hk9) (W.seq ?_))))))))))))))))))))))))))))))
  have hov8 := hov
  obtain ⟨wd, hwd⟩ : ∃ wd, wd = w4.drew := ⟨_, rfl⟩
  have hxd : Ext w4 wd := hwd ▸ Only.drew w4
  replace hx := hx.tr hxd
  replace hD := hD.ext hxd
  replace hC4 := hxd.blk hC4 (fun h => h)
  replace hS := hS.ext hxd
  replace hO := hO.ext hxd
  replace huc := Cells.only huc hxd (fun h => h)
  replace hocell := hxd.cell hocell (fun h => h)
  refine W.draw (Ext) [(1, fun v _ => v = _), (2, fun v _ => v = _), (3, fun v _ => v = _), (4, fun v _ => v = _)] rfl (by kernel_rfl) (Only.refl No) (fun _ _ _ h k => h.trans k) ⟨Mono.eq, Mono.eq, Mono.eq, Mono.eq, trivial⟩ ⟨rfl, rfl, rfl, rfl, trivial⟩ (WD.p rfl (fun e w hR hh => by obtain ⟨h4, -⟩ := hh; rw [← hwd] at hR; exact SG.n (o_ldA TI25 rfl h4 (show Cells _ b4 0 [dv] from Cells.of (hR.blk hC4 (fun h => h)) 0 _ (by simp)) rfl ⟨rfl, Only.refl No _⟩)) (WD.p rfl (fun e w hR hh => by obtain ⟨h1, -⟩ := hh; exact SG.n (o_mvh h1 ⟨rfl, Only.refl No _⟩)) (WD.p rfl (fun e w hR hh => by obtain ⟨h2, -⟩ := hh; exact SG.n (o_mvh h2 ⟨rfl, Only.refl No _⟩)) (WD.p rfl (fun e w hR hh => by obtain ⟨h28, h27, -⟩ := hh; exact SG.n (o_ixB (i := at_) TI37 TI41 h27 h28 (by omega) ⟨rfl, Only.refl No _⟩)) (WD.p rfl (fun e w hR hh => by obtain ⟨h29, -⟩ := hh; exact SG.n (o_fa 2 TI41 rfl TI9 rfl h29 ⟨rfl, Only.refl No _⟩)) (WD.p rfl (fun e w hR hh => by obtain ⟨h30, -⟩ := hh; rw [← hwd] at hR; exact SG.n (o_ld TI9 rfl h30 (Cells.only huc hR (fun h => h) 2 _ rfl) ⟨rfl, Only.refl No _⟩)) (WD.p rfl (fun e w hR hh => by obtain ⟨h31, h26, -⟩ := hh; rw [← hwd] at hR; exact SG.n (o_call Try.call87 (lc h26 (lc h31 ln)) ((rfind_call D _ V y.name _ (hD.ext hR) hlen hwi).mono (fun v w' ⟨h1, h2⟩ => ⟨h1, h2⟩)))) (WD.p rfl (fun e w hR hh => by obtain ⟨h32, -⟩ := hh; exact SG.n (o_mvh h32 ⟨rfl, Only.refl No _⟩)) (WD.p rfl (fun e w hR hh => by obtain ⟨h25, -⟩ := hh; exact SG.n (o_ext h25 rfl ⟨rfl, Only.refl No _⟩)) (WD.p rfl (fun e w hR hh => by obtain ⟨h25, -⟩ := hh; exact SG.n (o_ext h25 rfl ⟨rfl, Only.refl No _⟩)) (WD.p rfl (fun e w hR hh => by obtain ⟨h33, -⟩ := hh; exact SG.n (o_ash h33 ⟨rfl, Only.refl No _⟩)) (WD.p rfl (fun e w hR hh => by obtain ⟨h34, -⟩ := hh; exact SG.n (o_ash h34 ⟨rfl, Only.refl No _⟩)) ?_))))))))))))
  rintro e w hR ⟨h10, h9, h34, h33, h25, h32, h31, h30, h29, h28, h27, h26, h1, h2, h3, h4, -⟩
  rw [← hwd] at hR
  replace hx := hx.tr hR
  replace hocell := hR.cell hocell (fun h => h)
  rw [hov] at h3
  refine W.seq (W.region (WL.c rfl (o_mvh h3 (WL.c rfl (o_mvh h9 (WL.c rfl (o_ixB (i := wi) TI79 TI3 (show _ = Value.slice (some ⟨ob, oo, none⟩) D.length oc from rfl) (show _ = Value.int .i64 (wi : Int) from rfl) (by omega) (WL.c rfl (o_ld TI3 rfl rfl hocell (WL.c rfl (o_ash vI (WL.nil (W.ret (ret1v rfl vI ?_))))))))))))))
  exact ⟨by rw [show depT (whD D) dp (Tr.node y .nil) = dp wi by unfold depT; rw [if_pos hk9, whD, hwi]; rfl]; rfl, hx⟩
 ·skip
  refine W.region (WL.c rfl (o_eq rfl rfl (WL.c rfl (o_ash vB (WL.nil (W.condF' rfl (decide_eq_false hk1) (W.seq (W.region (WL.c rfl (o_eq rfl rfl (WL.c rfl (o_ash vB (WL.nil (W.condF' rfl (decide_eq_false hk2) (W.region (WL.c rfl (o_eq rfl rfl (WL.c rfl (o_ash vB (WL.nil (W.condF' rfl (decide_eq_false hk3) (W.seq (W.region (WL.c rfl (o_eq rfl rfl (WL.c rfl (o_ash vB (WL.nil (W.condF' rfl (decide_eq_false hk9) (W.skip (W.seq (W.region (WL.c rfl (o_ash vI (WL.nil (W.seq (W.region (WL.c rfl (o_mvh vI (WL.c rfl (o_addi rfl rfl (by omega) (WL.c rfl (o_ash vI (WL.nil (W.seq (W.seq (W.region (WL.c rfl (o_ash vI (WL.nil (W.block (W.loop (fun e w => ∃ (k m next : Nat) (ts : Trs), ks.len = k + ts.len ∧ e 1 = (Value.slice (some ⟨ub, uo, none⟩) L.length uc) ∧ e 2 = .int .i64 (at_ : Int) ∧ e 3 = ov ∧ e 4 = .pointer (some ⟨b4, 0, none⟩) ∧ e 11 = iv m ∧ e 12 = .int .i64 (next : Int) ∧ e 13 = .int .i64 (k : Int) ∧ Sl w 7 (Value.slice (some ⟨ub, uo, none⟩) L.length uc) L.length (exs L) ∧ Sl w 1 ov D.length (dps D.length dp) ∧ DefR w D dv V ∧ w.heap[b4]? = some (.cells #[dv] 25 (0, 0)) ∧ ts.wf y.kind (d + 1) ∧ L.drop next = ts.flat ++ rest ∧ next + ts.flat.length = at_ + 1 + ks.flat.length ∧ depK (whD D) dp ts m = depK (whD D) dp ks 0 ∧ ts.flat.length ≤ ks.flat.length ∧ (∀ x ∈ ts.flat, x.kind = 9 → ∃ i, whereN D x.name = some i) ∧ m ≤ 2305843009213693952 + ks.flat.length ∧ Ext w0 w) (fun e w => ks.len - (intOf (e 13)).toNat) ?_ ?_))))))))))))))))))))))))))))))))))))))))))))))))))))
  ·exact ⟨0, 0, at_ + 1, ks, by omega, rfl, rfl, rfl, rfl, rfl, rfl, rfl, hS, hO, hD, hC4, hw.2.2.2.2, hL1, rfl, rfl, Nat.le_refl _, fun x hx => hkn x (List.mem_cons_of_mem _ hx), by omega, hx⟩
  rintro e w ⟨k, m, next, ts, hks, h1, h2, h3, h4, h11, h12, h13, hS, hO, hD, hC4, hwt, hLn2, hnx, hdk, htl, hknt, hmb, hx⟩
  have hm13 := h13
  have huc := Sl.exw hS hat
  rw [hya] at huc
  have hcK : w.cell? ⟨ub, uo + at_ * 7 + 5, none⟩ = some (.int .i64 (ks.len : Int)) := by rw [← hkk]; exact huc 5 _ rfl
  refine W.seq (W.seq (W.region (WL.c rfl (o_mvh h13 (WL.c rfl (o_mvh h1 (WL.c rfl (o_mvh h2 (WL.c rfl (o_ixB TI37 TI41 rfl rfl (by omega) (WL.c rfl (o_fa 5 TI41 rfl TI3 rfl rfl (WL.c rfl (o_ld TI3 rfl rfl hcK (WL.c rfl (o_lt rfl rfl (WL.nil (W.cond rfl (fun c47 => ?_) (fun c47 => ?_)))))))))))))))))))
  ·try simp only [cs8] at c47
   have hk1 : k < ks.len := by omega
   obtain ⟨t, ts2, rfl⟩ := Trs.split hks hk1
   simp only [Trs.len] at hks
   have hfl2 : (Trs.cons t ts2).flat.length = t.flat.length + ts2.flat.length := by simp [Trs.flat]
   have htp := tr_pos t
   rw [hfl2] at hnx htl
   have hdr : L.drop next = t.flat ++ (ts2.flat ++ rest) := by rw [hLn2]; simp [Trs.flat]
   have hdr2 : L.drop (next + t.flat.length) = ts2.flat ++ rest := by rw [← List.drop_drop, hdr, List.drop_left]
   have hdl := dep_le (wh := whD D) hdp t
   refine W.skip (W.seq (W.block (W.seq (W.region (WL.c rfl (o_mvh h11 (WL.c rfl (o_ldA TI25 rfl h4 (show Cells _ b4 0 [dv] from Cells.of hC4 0 _ (by simp)) rfl (WL.c rfl (o_mvh h1 (WL.c rfl (o_mvh h12 (WL.c rfl (o_mvh h3 (WL.c rfl (o_call Try.call91 (lc rfl (lc rfl (lc rfl (lc rfl ln)))) ((IH t (by rw [hfl]; omega) L (ts2.flat ++ rest) (Value.slice (some ⟨ub, uo, none⟩) L.length uc) next _ _ _ hwt.1 hdr hS hLl hLn (fun x hx => hknt x (List.mem_append_left _ hx)) hD hO).mono ?_)))))))))))))))))
   rintro v55 w55 ⟨rfl, hx55⟩
   replace hx := hx.tr hx55
   replace hS := hS.ext hx55
   replace hO := hO.ext hx55
   replace hD := hD.ext hx55
   replace hC4 := hx55.blk hC4 (fun h => h)
   refine WL.c rfl (n_max (a := m) (b := depT (whD D) dp t) rfl rfl (WL.c rfl (o_ash vI (WL.nil (W.region (WL.c rfl (o_mvh h1 (WL.c rfl (o_mvh h12 (WL.c rfl (o_call Try.call98 (lc rfl (lc rfl ln)) ((behind_all _ t (Nat.le_refl _) L (ts2.flat ++ rest) (Value.slice (some ⟨ub, uo, none⟩) L.length uc) next _ _ _ hwt.1 hdr hS hLl).mono ?_))))))))))))
   rintro v59 w59 ⟨rfl, hx59⟩
   replace hx := hx.tr hx59
   replace hS := hS.ext hx59
   replace hO := hO.ext hx59
   replace hD := hD.ext hx59
   replace hC4 := hx59.blk hC4 (fun h => h)
   refine WL.c rfl (o_ash vI (WL.nil (W.region (WL.c rfl (o_mvh h13 (WL.c rfl (o_addi rfl rfl (by omega) (WL.c rfl (o_ash vI (WL.nil (⟨⟨k + 1, max m (depT (whD D) dp t), next + t.flat.length, ts2, by omega, h1, h2, h3, h4, rfl, rfl, rfl, hS, hO, hD, hC4, hwt.2, hdr2, by omega, hdk, by omega, fun x hx => hknt x (List.mem_append_right _ hx), by omega, hx⟩, ?_⟩)))))))))))
   show ks.len - ((k : Int) + 1).toNat < _
   rw [hm13]; simp [intOf]; omega
  try simp only [cs8] at c47
  have hk1 : k = ks.len := by omega
  have hnil := Trs.none hks hk1
  subst hnil
  replace hdk : m = depK (whD D) dp ks 0 := hdk
  refine W.exit (W.seq (W.region (WL.c rfl (o_mvh h11 (WL.c rfl (o_addi (a := 1) (b := (m : Int)) rfl (show _ = Value.int .i64 (m : Int) from rfl) (by omega) (WL.c rfl (o_ash vI (WL.nil (W.ret (ret1v rfl vI ?_)))))))))))
  exact ⟨by rw [show depT (whD D) dp (Tr.node y ks) = m + 1 by unfold depT; rw [if_neg hk9, ← hdk]]; show Value.int .i64 (1 + (m : Int)) = Value.int .i64 ((m + 1 : Nat) : Int); rw [show (1 : Int) + m = ((m + 1 : Nat) : Int) by omega], hx⟩
 ·skip
  have hnil := leaf_no hw (by omega)
  subst hnil
  have hk9 : ¬ y.kind = 9 := by omega
  refine W.region (WL.c rfl (o_eq rfl rfl (WL.c rfl (o_ash vB (WL.nil (W.condT' rfl (decide_eq_true hk1) (W.skip (W.condT' rfl (decide_eq_true hk1) (W.seq (W.region (WL.c rfl (o_ash vI (WL.nil (W.ret (ret1v rfl vI ?_)))))))))))))))
  exact ⟨by rw [dep_leaf hk9]; rfl, hx⟩
 ·skip
  have hnil := leaf_no hw (by omega)
  subst hnil
  have hk9 : ¬ y.kind = 9 := by omega
  refine W.region (WL.c rfl (o_eq rfl rfl (WL.c rfl (o_ash vB (WL.nil (W.condF' rfl (decide_eq_false hk1) (W.seq (W.region (WL.c rfl (o_eq rfl rfl (WL.c rfl (o_ash vB (WL.nil (W.condT' rfl (decide_eq_true hk2) (W.skip (W.condT' rfl (decide_eq_true hk2) (W.seq (W.region (WL.c rfl (o_ash vI (WL.nil (W.ret (ret1v rfl vI ?_)))))))))))))))))))))))
  exact ⟨by rw [dep_leaf hk9]; rfl, hx⟩
 skip
 have hnil := leaf_no hw (by omega)
 subst hnil
 have hk9 : ¬ y.kind = 9 := by omega
 refine W.region (WL.c rfl (o_eq rfl rfl (WL.c rfl (o_ash vB (WL.nil (W.condF' rfl (decide_eq_false hk1) (W.seq (W.region (WL.c rfl (o_eq rfl rfl (WL.c rfl (o_ash vB (WL.nil (W.condF' rfl (decide_eq_false hk2) (W.region (WL.c rfl (o_eq rfl rfl (WL.c rfl (o_ash vB (WL.nil (W.condT' rfl (decide_eq_true hk3) (W.seq (W.region (WL.c rfl (o_ash vI (WL.nil (W.ret (ret1v rfl vI ?_))))))))))))))))))))))))))))
 exact ⟨by rw [dep_leaf hk9]; rfl, hx⟩

theorem high_all (D : List Df) (dp : Nat → Nat) (ov dv : Value) (V : Nat → Value) (hdp : ∀ j, dp j ≤ 2305843009213693952) (hlen : D.length * 48 ≤ 140737488351232) : ∀ (m : Nat) (t : Tr), t.flat.length ≤ m → SHg D dp ov dv V t
 | 0, .node y ks, h => by simp [Tr.flat] at h
 | m + 1, .node y ks, h => fun L rest v at_ a d w0 h1 h2 h3 h4 h5 h6 h7 h8 => high_step D dp ov dv V hdp hlen y ks (fun t ht => high_all D dp ov dv V hdp hlen m t (by omega)) L rest v at_ a d w0 h1 h2 h3 h4 h5 h6 h7 h8

end Go.Proofs.Ytpbflfgigfdohaa

namespace Go.Proofs.Ytpbflfgigfdohaa
open Go Go.Vc Go.RowKit Go.Proofs
set_option maxHeartbeats 4000000 in
theorem rdepth_spec (D : List Df) (T : Nat → Tr) (dv : Value) (V : Nat → Value) (w0 : World) (hD : DefR w0 D dv V) (hlim : DOk D) (hT : Trd D T) (hkn : kn9 D) (hac : ∀ i, i < D.length → ¬ Relation.TransGen (Us (usesD D)) i i) : Ca Try.prog 66 #[.agg #[dv]] w0 (fun v w' => w'.ownsRow w0.heap.size 3 1 v D.length (dps D.length (depN D T)) ∧ Ext w0 w') := by
 have hlen := hlim.len
 obtain ⟨hto, htl⟩ := ord_told hkn hac
 have h256 := hT.n
 obtain ⟨BB, hBB⟩ : ∃ B, B = w0.heap.size := ⟨_, rfl⟩
 rw [← hBB]
 have hD00 := hD
 refine Ca.of Try.func66 Try.ntmps66 rfl rfl (W.seq (W.region (WL.c rfl (o_boxB rfl ?_))))
 intro w1 hC1 hx1 hs1
 obtain ⟨b1, hb1⟩ : ∃ b, b = w0.heap.size := ⟨_, rfl⟩
 rw [← hb1] at hC1 ⊢
 replace hC1 : w1.heap[b1]? = some (.cells ([dv]).toArray 25 (0, 0)) := hC1
 have hx := hx1
 replace hD := hD.ext hx1
 refine WL.c rfl (o_ash (by first | exact vS | exact rfl) (WL.nil (W.seq (W.region (WL.c rfl (o_fa 0 TI25 rfl TI23 rfl rfl (WL.c rfl (o_ld TI23 rfl rfl (cell_of hC1 rfl) (WL.c rfl (o_lenR TI23 rfl hD.row (WL.c rfl (o_mk2 TI79 TI3 (l := D.length) (n := D.length) rfl rfl (Nat.le_refl _) (by omega) (by omega) ?_))))))))))))
 have hrv := own_made1 (w := w1) (el := 3) (l := D.length) (n := D.length) (z := .int .i64 0) rfl (Nat.le_refl _) (by omega)
 have hxb : Ext w1 (w1.alloc (.cells (madeCells (Value.int .i64 0).cells (D.length * 1)) 3)) := Only.alloc w1 _
 generalize w1.alloc (.cells (madeCells (Value.int .i64 0).cells (D.length * 1)) 3) = wt at hrv hxb ⊢
 obtain ⟨ov, hov⟩ : ∃ o, o = Value.slice (some ⟨w1.heap.size, 0, none⟩) D.length D.length := ⟨_, rfl⟩
 rw [← hov] at hrv ⊢
 replace hrv : wt.ownsRow w1.heap.size 3 1 ov D.length (dps D.length (fun _ => 0)) := by rw [dps_zero]; exact hrv
 replace hrv := own_mono hrv (show BB ≤ w1.heap.size by rw [hBB]; exact hx.size)
 replace hx := hx.tr hxb
 replace hD := hD.ext hxb
 replace hC1 := hxb.blk hC1 (fun h => h)
 clear hxb hov
 refine WL.c rfl (o_ash (by first | exact vS | exact rfl) (WL.nil (W.seq (W.region (WL.c rfl (o_ldA TI25 rfl rfl (show Cells _ b1 0 [dv] from Cells.of hC1 0 _ (by simp)) rfl (WL.c rfl (o_call Try.call67 (lc rfl ln) ((rorder_spec D dv V _ hD hlim (fun i hi => uses_lt hkn hi) hac).mono ?_)))))))))
 rintro v11 w11 ⟨hro, hx11⟩
 have hvb : ∀ b, ov.ownBlock = some b → b < wt.heap.size := fun b hb => (hrv.lt b hb).2
 obtain ⟨B2, hB2⟩ : ∃ B, B = wt.heap.size := ⟨_, rfl⟩
 rw [← hB2] at hro hvb
 have hzB : BB ≤ B2 := by rw [hB2, hBB]; exact hx.size
 replace hx := hx.tr hx11
 replace hD := hD.ext hx11
 replace hC1 := hx11.blk hC1 (fun h => h)
 replace hrv := own_ext hrv hx11
 clear hx11
 refine WL.c rfl (o_ash (by first | exact vS | exact rfl) (WL.nil (W.seq (W.seq (W.region (WL.c rfl (o_ash vI (WL.nil (W.block (W.loop (fun e w => ∃ (k : Nat), k ≤ (ordN D).length ∧ e 1 = .pointer (some ⟨b1, 0, none⟩) ∧ e 3 = ov ∧ e 4 = v11 ∧ e 5 = .int .i64 (k : Int) ∧ w.ownsRow B2 3 1 v11 (ordN D).length ((ordN D).map iv) ∧ w.ownsRow BB 3 1 ov D.length (dps D.length (depO (whD D) T ((ordN D).take k) (fun _ => 0))) ∧ w.heap[b1]? = some (.cells #[dv] 25 (0, 0)) ∧ DefR w D dv V ∧ Ext w0 w) (fun e w => (ordN D).length - (intOf (e 5)).toNat) ?_ ?_))))))))))
 ·exact ⟨0, Nat.zero_le _, rfl, rfl, rfl, rfl, hro, hrv, hC1, hD, hx⟩
 rintro e w ⟨k, hk, h1, h3, h4, h5, hro, hrv, hC1, hD, hx⟩
 have hm5 := h5
 refine W.seq (W.seq (W.region (WL.c rfl (o_mvh h5 (WL.c rfl (o_mvh h4 (WL.c rfl (o_lenR TI79 rfl (Sl.own hro) (WL.c rfl (o_lt rfl rfl (WL.nil (W.cond rfl (fun c15 => ?_) (fun c15 => ?_)))))))))))))
 ·try simp only [cs8] at c15
  have hk1 : k < (ordN D).length := by omega
  have hi : (ordN D)[k] < D.length := hto.lt _ (List.getElem_mem hk1)
  obtain ⟨ub, uo, uc, hV11, hcell⟩ := Sl.at1 (Sl.own hro) hk1 (u := iv (ordN D)[k]) (by rw [List.getElem?_map, List.getElem?_eq_getElem hk1]; rfl)
  rw [hV11] at h4
  obtain ⟨i, hie⟩ : ∃ i, i = (ordN D)[k] := ⟨_, rfl⟩
  rw [← hie] at hi hcell
  obtain ⟨gb, go, gc, hdv, hgc, hty⟩ := hD.atk hi
  obtain ⟨tb, tc, htv, htb⟩ := own_some hrv (by omega)
  obtain ⟨dp, hdp⟩ : ∃ f, f = depO (whD D) T ((ordN D).take k) (fun _ => 0) := ⟨_, rfl⟩
  rw [← hdp] at hrv
  have hdb : ∀ j, dp j ≤ 2305843009213693952 := fun j => by
   rw [hdp]
   refine Nat.le_trans (depO_le (n := D.length) (B := 1954687338212) (fun i hi => ?_) _ _ 0 (fun i hi => hto.lt i (List.mem_of_mem_take hi)) (fun _ => Nat.le_refl _) j) ?_
   ·rw [hT.fl i hi, tyD_at hi]; have := hlim.ty _ (List.getElem_mem hi); omega
   rw [List.length_take]; have : min k (ordN D).length ≤ 256 := by omega
   omega
  have hfl := hT.fl i hi
  rw [tyD_at hi] at hfl
  refine W.skip (W.seq (W.block ?_))
  obtain ⟨wd, hwd⟩ : ∃ wd, wd = w.drew := ⟨_, rfl⟩
  have hxd : Ext w wd := hwd ▸ Only.drew w
  replace hx := hx.tr hxd
  replace hD := hD.ext hxd
  replace hC1 := hxd.blk hC1 (fun h => h)
  replace hty := hty.ext hxd
  replace hro := own_ext hro hxd
  replace hrv := own_ext hrv hxd
  replace hcell := hxd.cell hcell (fun h => h)
  replace hgc := Cells.only hgc hxd (fun h => h)
  have hcall := fun w9 (hR : Ext wd w9) => high_all D dp ov dv V hdb hlen _ (T i) (Nat.le_refl _) D[i].ty [] (V i) 0 0 0 w9 (hT.wf i hi) (by rw [hfl, List.append_nil]; rfl) (hty.ext hR) (hlim.ty _ (List.getElem_mem hi)) (fun x hx => (hlim.ex _ (List.getElem_mem hi) x hx).1) (fun x hx h9 => hkn _ (List.getElem_mem hi) x (by rw [← hfl]; exact hx) h9) (hD.ext hR) (Sl.own (own_ext hrv hR))
  have hcl := hC1
  rw [hdv] at hcl
  have h3s := h3
  rw [htv] at h3s
  refine W.drawT 17 (Ext) [(1, fun v _ => v = _), (3, fun v _ => v = _), (4, fun v _ => v = _), (5, fun v _ => v = _)] rfl (by kernel_rfl) (Only.refl No) (fun _ _ _ h k => h.trans k) ⟨Mono.eq, Mono.eq, Mono.eq, Mono.eq, trivial⟩ ⟨h1, h3, h4, h5, trivial⟩ (WD.p rfl (fun e w hR hh => by obtain ⟨h3, -⟩ := hh; exact SG.n (o_mvh h3 ⟨rfl, Only.refl No _⟩)) (WD.p rfl (fun e w hR hh => by obtain ⟨h4, -⟩ := hh; exact SG.n (o_mvh h4 ⟨rfl, Only.refl No _⟩)) (WD.p rfl (fun e w hR hh => by obtain ⟨h5, -⟩ := hh; exact SG.n (o_mvh h5 ⟨rfl, Only.refl No _⟩)) (WD.p rfl (fun e w hR hh => by obtain ⟨h20, h19, -⟩ := hh; exact SG.n (o_ixB (i := k) TI79 TI3 h19 h20 (by omega) ⟨rfl, Only.refl No _⟩)) (WD.p rfl (fun e w hR hh => by obtain ⟨h21, -⟩ := hh; rw [← hwd] at hR; exact SG.n (o_ld TI3 rfl h21 (show World.cell? _ _ = some (.int .i64 (i : Int)) from hR.cell hcell (fun h => h)) ⟨rfl, Only.refl No _⟩)) (WD.p rfl (fun e w hR hh => by obtain ⟨h1, -⟩ := hh; rw [← hwd] at hR; exact SG.n (o_ldA TI25 rfl h1 (show Cells _ b1 0 [dv] from Cells.of (hR.blk hC1 (fun h => h)) 0 _ (by simp)) rfl ⟨rfl, Only.refl No _⟩)) (WD.p rfl (fun e w hR hh => by obtain ⟨h1, -⟩ := hh; exact SG.n (o_fa 0 TI25 rfl TI23 rfl h1 ⟨rfl, Only.refl No _⟩)) (WD.p rfl (fun e w hR hh => by obtain ⟨h24, -⟩ := hh; rw [← hwd] at hR; exact SG.n (o_ld TI23 rfl h24 (cell_of (hR.blk hcl (fun h => h)) rfl) ⟨rfl, Only.refl No _⟩)) (WD.p rfl (fun e w hR hh => by obtain ⟨h4, -⟩ := hh; exact SG.n (o_mvh h4 ⟨rfl, Only.refl No _⟩)) (WD.p rfl (fun e w hR hh => by obtain ⟨h5, -⟩ := hh; exact SG.n (o_mvh h5 ⟨rfl, Only.refl No _⟩)) (WD.p rfl (fun e w hR hh => by obtain ⟨h27, h26, -⟩ := hh; exact SG.n (o_ixB (i := k) TI79 TI3 h26 h27 (by omega) ⟨rfl, Only.refl No _⟩)) (WD.p rfl (fun e w hR hh => by obtain ⟨h28, -⟩ := hh; rw [← hwd] at hR; exact SG.n (o_ld TI3 rfl h28 (show World.cell? _ _ = some (.int .i64 (i : Int)) from hR.cell hcell (fun h => h)) ⟨rfl, Only.refl No _⟩)) (WD.p rfl (fun e w hR hh => by obtain ⟨h29, h25, -⟩ := hh; exact SG.n (o_ixB (i := i) TI23 TI39 h25 h29 (by omega) ⟨rfl, Only.refl No _⟩)) (WD.p rfl (fun e w hR hh => by obtain ⟨h30, -⟩ := hh; exact SG.n (o_fa 2 TI39 rfl TI37 rfl h30 ⟨rfl, Only.refl No _⟩)) (WD.p rfl (fun e w hR hh => by obtain ⟨h31, -⟩ := hh; rw [← hwd] at hR; exact SG.n (o_ld TI37 rfl h31 (Cells.only hgc hR (fun h => h) 2 _ rfl) ⟨rfl, Only.refl No _⟩)) (WD.p rfl (fun e w hR hh => by obtain ⟨h3, -⟩ := hh; exact SG.n (o_mvh h3 ⟨rfl, Only.refl No _⟩)) (WD.p rfl (fun e w hR hh => by obtain ⟨h33, h32, h23, -⟩ := hh; rw [← hwd] at hR; exact SG.n (o_call Try.call91 (lc h23 (lc h32 (lc rfl (lc h33 ln)))) ((hcall _ hR).mono (fun v w' ⟨h1, h2⟩ => ⟨h1, h2⟩)))) ?_)))))))))))))))))
  rintro e w hR ⟨h34, h33, h32, h31, h30, h29, h28, h27, h26, h25, h24, h23, h22, h21, h20, h19, h18, h1, h3, h4, h5, -⟩
  rw [← hwd] at hR
  replace hx := hx.tr hR
  replace hD := hD.ext hR
  replace hC1 := hR.blk hC1 (fun h => h)
  replace hro := own_ext hro hR
  replace hrv := own_ext hrv hR
  rw [htv] at h18
  refine WL.c rfl (o_ixB (i := i) TI79 TI3 (show _ = Value.slice (some ⟨tb, 0, none⟩) D.length tc from h18) h22 (by omega) (WL.u (o_stRj TI3 rfl (show 0 + i * 1 = i by omega) (show _ = iv (depT (whD D) dp (T i)) from h34) rfl hrv (show Value.ownBlock ov = some tb from htb) (by omega) ?_)))
  intro w49 hrvN ho49 hs49
  have hlo : ∀ b, ov.ownBlock = some b → BB ≤ b := fun b hb => (hrv.lt b hb).1
  replace hC1 := ho49.blk hC1 (fun hb => own_off hrv hC1 (by decide) hb)
  replace hro := own_only hro ho49 (fun b hb he => by have h1 := hvb b he; have h2 := (hro.lt b hb).1; omega)
  replace hx := hx.trans' ho49 (fun _ h => h) (fun b hb he => by have := hlo b he; omega)
  replace hD := hD00.ext hx
  rw [dps_set, hdp, hie] at hrvN
  clear hcall
  refine WL.nil (W.region (WL.c rfl (o_mvh h5 (WL.c rfl (o_addi rfl rfl (by omega) (WL.c rfl (o_ash vI (WL.nil (⟨⟨k + 1, by omega, h1, h3, h4.trans hV11.symm, rfl, hro, by rw [depO_take hk1]; exact hrvN, hC1, hD, hx⟩, ?_⟩)))))))))
  show (ordN D).length - ((k : Int) + 1).toNat < _
  rw [hm5]; simp [intOf]; omega
 try simp only [cs8] at c15
 have hk1 : k = (ordN D).length := by omega
 rw [hk1, List.take_length] at hrv
 refine W.exit (W.seq (W.region (WL.c rfl (o_mvh h3 (WL.c rfl (o_ash (by first | exact vS | exact rfl) (WL.nil (W.ret (ret1v rfl rfl ?_)))))))))
 exact ⟨hrv, hx⟩
end Go.Proofs.Ytpbflfgigfdohaa

namespace Go.Proofs.Ytpbflfgigfdohaa
open Go Go.Vc Go.RowKit Go.Proofs

theorem resA_zero {D : List Df} (h : (chkS D).2.2 = 0) {er at_ : Int} (hr : (resF D (TD D)).getD (0, 0) = (er, at_)) : (¬ er = 0 → resA D = some (er, at_)) ∧ (er = 0 → resA D = none) := by
 rw [← resA_ok h] at hr
 cases hc : resA D with
 | none =>
  rw [hc] at hr
  have h1 : (0 : Int) = er := congrArg Prod.fst hr
  exact ⟨fun hn => absurd h1.symm hn, fun _ => rfl⟩
 | some v =>
  rw [hc] at hr
  have h1 : v = (er, at_) := hr
  subst h1
  have := fA_nz (fA_res hc)
  exact ⟨fun _ => rfl, fun he => by simp at this; omega⟩
theorem flt_eq {D : List Df} {v : Int × Int} (h : fA D = some v) : (flt D).1 = v.1 ∧ (flt D).2 = v.2 := by rw [flt_some h]; exact ⟨rfl, rfl⟩
theorem flt_zero {D : List Df} (h : fA D = none) : (flt D).1 = 0 ∧ (flt D).2 = 0 := by rw [flt_none h]; exact ⟨rfl, rfl⟩
theorem flt_iff {D : List Df} : (flt D).1 = 0 ↔ fA D = none := ⟨fun h => flt_good (er := (flt D).1) (at_ := (flt D).2) rfl h, fun h => (flt_zero h).1⟩

set_option maxHeartbeats 4000000 in
theorem rnames_check_spec (D : List Df) (dv : Value) (V : Nat → Value) (w0 : World) (hD : DefR w0 D dv V) (hlim : DOk D) : Ca Try.prog 36 #[.agg #[dv]] w0 (fun v w' => v = .tuple #[.int .i64 (flt D).1, .int .i64 (flt D).2] ∧ Ext w0 w') := by
 have hlen := hlim.len
 refine Ca.of Try.func36 Try.ntmps36 rfl rfl (W.seq (W.region (WL.c rfl (o_boxB rfl ?_))))
 intro w1 hC1 hx1 hs1
 obtain ⟨b1, hb1⟩ : ∃ b, b = w0.heap.size := ⟨_, rfl⟩
 rw [← hb1] at hC1 ⊢
 replace hC1 : w1.heap[b1]? = some (.cells ([dv]).toArray 25 (0, 0)) := hC1
 have hx := hx1
 replace hD := hD.ext hx1
 refine WL.c rfl (o_ash vI (WL.c rfl (o_ash vI (WL.nil (W.seq (W.region (WL.c rfl (o_ldA TI25 rfl rfl (show Cells _ b1 0 [dv] from Cells.of hC1 0 _ (by simp)) rfl (WL.c rfl (o_call Try.call35 (lc rfl ln) ((rcheck_spec D dv V _ hD hlim.lim).mono ?_)))))))))))
 rintro v14 w14 ⟨rfl, hx14⟩
 rw [show rs3 (chkS D) = .tuple #[.int .i64 ((chkS D).1 : Int), .int .i64 ((chkS D).2.1 : Int), .int .i64 ((chkS D).2.2 : Int)] from rfl]
 replace hx := hx.tr hx14
 replace hD := hD.ext hx14
 replace hC1 := hx14.blk hC1 (fun h => h)
 refine WL.c rfl (o_mvh (by first | exact (show _ = Value.tuple _ from rfl) | exact rfl) (WL.c rfl (o_ext rfl rfl (WL.c rfl (o_ext rfl rfl (WL.c rfl (o_ext rfl rfl (WL.c rfl (o_ash vI (WL.c rfl (o_ash vI (WL.c rfl (o_ash vI (WL.nil (W.seq (W.seq (W.region (WL.c rfl (o_mvh vI (WL.c rfl (o_ne rfl rfl (WL.nil (W.cond rfl (fun c19 => ?_) (fun c19 => ?_))))))))))))))))))))))))
 ·try simp only [cs8] at c19
  have hck : ¬ (chkS D).2.2 = 0 := by intro h; simp [h] at c19
  refine W.seq (W.region (WL.c rfl (o_ash vI (WL.c rfl (o_ash vI (WL.nil (W.ret (ret2v rfl vI vI ?_))))))))
  obtain ⟨hf1, hf2⟩ := flt_eq (fA_res (resA_src hck))
  exact ⟨by rw [hf1, hf2], hx⟩
 try simp only [cs8] at c19
 have hck : (chkS D).2.2 = 0 := by
  have h1 : ((chkS D).2.2 : Int) = 0 := by simpa using c19
  omega
 have hT := trd_of hck
 refine W.skip (W.seq (W.region (WL.c rfl (o_ldA TI25 rfl rfl (show Cells _ b1 0 [dv] from Cells.of hC1 0 _ (by simp)) rfl (WL.c rfl (o_call Try.call64 (lc rfl ln) ((doubles_spec D (TD D) dv V _ hD hlim hT).mono ?_)))))))
 rintro v22 w22 ⟨er, at_, rfl, hres, hx22⟩
 obtain ⟨hr1, hr2⟩ := resA_zero hck hres
 replace hx := hx.tr hx22
 replace hD := hD.ext hx22
 replace hC1 := hx22.blk hC1 (fun h => h)
 refine WL.c rfl (o_mvh (by first | exact (show _ = Value.tuple _ from rfl) | exact rfl) (WL.c rfl (o_ext rfl rfl (WL.c rfl (o_ext rfl rfl (WL.c rfl (o_ash vI (WL.c rfl (o_ash vI (WL.nil (W.seq (W.seq (W.region (WL.c rfl (o_mvh vI (WL.c rfl (o_ne rfl rfl (WL.nil (W.cond rfl (fun c26 => ?_) (fun c26 => ?_))))))))))))))))))))
 ·try simp only [cs8] at c26
  have hne : ¬ er = 0 := by simpa using c26
  refine W.seq (W.region (WL.c rfl (o_mvh vI (WL.c rfl (o_mvh vI (WL.c rfl (o_ash vI (WL.c rfl (o_ash vI (WL.nil (W.ret (ret2v rfl vI vI ?_))))))))))))
  obtain ⟨hf1, hf2⟩ := flt_eq (fA_res (hr1 hne))
  exact ⟨by rw [hf1, hf2], hx⟩
 try simp only [cs8] at c26
 have her : er = 0 := by simpa using c26
 have hra := hr2 her
 have hkn := kn9_of hra hck
 have hU : ∀ i, i < D.length → ∀ j ∈ usesD D i, j < D.length := fun i hi => uses_lt hkn hi
 refine W.skip (W.seq (W.region (WL.c rfl (o_ldA TI25 rfl rfl (show Cells _ b1 0 [dv] from Cells.of hC1 0 _ (by simp)) rfl (WL.c rfl (o_call Try.call65 (lc rfl ln) ((leads_spec D dv V _ hD hlim hU).mono ?_)))))))
 rintro v30 w30 ⟨hl, hx30⟩
 replace hl := own_mono hl hx.size
 replace hx := hx.tr hx30
 replace hD := hD.ext hx30
 replace hC1 := hx30.blk hC1 (fun h => h)
 refine WL.c rfl (o_ash (by first | exact vS | exact rfl) (WL.nil (W.seq (W.seq (W.region (WL.c rfl (o_ash vI (WL.nil (W.block (W.loop (fun e w => ∃ i : Nat, i ≤ D.length ∧ e 1 = .pointer (some ⟨b1, 0, none⟩) ∧ e 8 = v30 ∧ e 9 = .int .i64 (i : Int) ∧ (∀ j, j < i → ¬ Relation.TransGen (Us (usesD D)) j j) ∧ w.ownsRow w0.heap.size 4 1 v30 D.length ((List.range D.length).map fun d => Value.bool (warN D D.length d d)) ∧ DefR w D dv V ∧ w.heap[b1]? = some (.cells #[dv] 25 (0, 0)) ∧ Ext w0 w) (fun e w => D.length - (intOf (e 9)).toNat) ?_ ?_))))))))))
 ·exact ⟨0, Nat.zero_le _, rfl, rfl, rfl, fun j hj => by omega, hl, hD, hC1, hx⟩
 rintro e w ⟨i, hi, h1, h8, h9, hno, hl, hD, hC1, hx⟩
 have hm9 := h9
 refine W.seq (W.seq (W.region (WL.c rfl (o_mvh h9 (WL.c rfl (o_mvh h8 (WL.c rfl (o_lenR TI43 rfl (Sl.own hl) (WL.c rfl (o_lt rfl rfl (WL.nil (W.cond rfl (fun c34 => ?_) (fun c34 => ?_)))))))))))))
 ·try simp only [cs8] at c34
  have hi1 : i < D.length := by omega
  obtain ⟨tb, to_, tc, rfl, htc, hty⟩ := hD.atk hi1
  obtain ⟨ub, uo, uc, hVl, hcell⟩ := Sl.at1 (Sl.own hl) hi1 (u := .bool (warN D D.length i i)) (by rw [List.getElem?_map, List.getElem?_range hi1]; rfl)
  rw [hVl] at h8
  have hwi := war_iff hU (b := i) hi1
  refine W.skip (W.seq (W.block (W.seq (W.region (WL.c rfl (o_mvh h8 (WL.c rfl (o_mvh h9 (WL.c rfl (o_ixB (i := i) TI43 TI4 (show _ = Value.slice (some ⟨ub, uo, none⟩) D.length uc from rfl) (show _ = Value.int .i64 (i : Int) from rfl) (by omega) (WL.c rfl (o_ld TI4 rfl rfl hcell (WL.nil (W.cond rfl (fun c40 => ?_) (fun c40 => ?_)))))))))))))))
  ·try simp only [cs8] at c40
   have hring := hwi.1 c40
   refine W.seq (W.quiet rfl (by kernel_rfl) (WQ.c rfl ((QO.o rfl fun _ => o_fa 0 TI25 rfl TI23 rfl h1 ⟨rfl, rfl⟩)) (WQ.c rfl ((QO.o rfl fun _ => o_ld TI23 rfl rfl (cell_of hC1 rfl) ⟨rfl, rfl⟩)) (WQ.c rfl ((QO.o rfl fun _ => o_mvh h9 ⟨rfl, rfl⟩)) (WQ.c rfl ((QO.o rfl fun _ => o_ixB (i := i) TI23 TI39 (show _ = Value.slice (some ⟨tb, to_, none⟩) D.length tc from rfl) (show _ = Value.int .i64 (i : Int) from rfl) (by omega) ⟨rfl, rfl⟩)) (WQ.c rfl ((QO.o rfl fun _ => o_fa 1 TI39 rfl TI3 rfl rfl ⟨rfl, rfl⟩)) (WQ.c rfl ((QO.o rfl fun _ => o_ld TI3 rfl rfl (htc 1 _ rfl) ⟨rfl, rfl⟩)) (WQ.c rfl ((QO.o rfl fun _ => o_ash vI ⟨rfl, rfl⟩)) (WQ.c rfl ((QO.o rfl fun _ => o_ash vI ⟨rfl, rfl⟩)) (WQ.nil ?_))))))))))
   intro nq
   replace hx := hx.tr (Only.drewN _ nq)
   refine W.ret (ret2v rfl vI vI ?_)
   obtain ⟨hf1, hf2⟩ := flt_eq (fA_ring hra hi1 hring hno)
   exact ⟨by rw [hf1, hf2], hx⟩
  try simp only [cs8] at c40
  have hnr : ¬ Relation.TransGen (Us (usesD D)) i i := fun h => by have := hwi.2 h; rw [this] at c40; cases c40
  refine W.skip (W.region (WL.c rfl (o_mvh h9 (WL.c rfl (o_addi rfl rfl (by omega) (WL.c rfl (o_ash vI (WL.nil (⟨⟨i + 1, by omega, h1, h8.trans hVl.symm, rfl, fun j hj => ?_, hl, hD, hC1, hx⟩, ?_⟩)))))))))
  ·rcases Nat.lt_or_ge j i with h | h
   ·exact hno j h
   rw [show j = i by omega]; exact hnr
  show D.length - ((i : Int) + 1).toNat < _
  rw [hm9]; simp [intOf]; omega
 try simp only [cs8] at c34
 have hi1 : i = D.length := by omega
 rw [hi1] at hno
 have hrn := ring_none hno
 refine W.exit (W.seq (W.region (WL.c rfl (o_ldA TI25 rfl h1 (show Cells _ b1 0 [dv] from Cells.of hC1 0 _ (by simp)) rfl (WL.c rfl (o_call Try.call66 (lc rfl ln) ((rdepth_spec D (TD D) dv V _ hD hlim hT hkn hno).mono ?_)))))))
 rintro v48 w48 ⟨hdp, hx48⟩
 replace hdp := own_mono hdp hx.size
 replace hx := hx.tr hx48
 replace hD := hD.ext hx48
 replace hC1 := hx48.blk hC1 (fun h => h)
 refine WL.c rfl (o_ash (by first | exact vS | exact rfl) (WL.nil (W.seq (W.seq (W.region (WL.c rfl (o_ash vI (WL.nil (W.block (W.loop (fun e w => ∃ i : Nat, i ≤ D.length ∧ e 1 = .pointer (some ⟨b1, 0, none⟩) ∧ e 10 = v48 ∧ e 11 = .int .i64 (i : Int) ∧ (∀ j, j < i → ¬ 64 < depN D (TD D) j) ∧ w.ownsRow w0.heap.size 3 1 v48 D.length (dps D.length (depN D (TD D))) ∧ DefR w D dv V ∧ w.heap[b1]? = some (.cells #[dv] 25 (0, 0)) ∧ Ext w0 w) (fun e w => D.length - (intOf (e 11)).toNat) ?_ ?_))))))))))
 ·exact ⟨0, Nat.zero_le _, h1, rfl, rfl, fun j hj => by omega, hdp, hD, hC1, hx⟩
 rintro e w ⟨i, hi, h1, h10, h11, hnd, hdp, hD, hC1, hx⟩
 have hm11 := h11
 refine W.seq (W.seq (W.region (WL.c rfl (o_mvh h11 (WL.c rfl (o_mvh h10 (WL.c rfl (o_lenR TI79 rfl (Sl.own hdp) (WL.c rfl (o_lt rfl rfl (WL.nil (W.cond rfl (fun c52 => ?_) (fun c52 => ?_)))))))))))))
 ·try simp only [cs8] at c52
  have hi1 : i < D.length := by omega
  obtain ⟨tb, to_, tc, rfl, htc, hty⟩ := hD.atk hi1
  obtain ⟨ub, uo, uc, hVd, hcell⟩ := Sl.at1 (Sl.own hdp) hi1 (dps_at hi1)
  rw [hVd] at h10
  refine W.skip (W.seq (W.block (W.seq (W.region (WL.c rfl (o_mvh h10 (WL.c rfl (o_mvh h11 (WL.c rfl (o_ixB (i := i) TI79 TI3 (show _ = Value.slice (some ⟨ub, uo, none⟩) D.length uc from rfl) (show _ = Value.int .i64 (i : Int) from rfl) (by omega) (WL.c rfl (o_ld TI3 rfl rfl (show World.cell? _ _ = some (.int .i64 (depN D (TD D) i : Int)) from hcell) (WL.c rfl (o_gt rfl rfl (WL.nil (W.cond rfl (fun c59 => ?_) (fun c59 => ?_)))))))))))))))))
  ·try simp only [cs8] at c59
   have hdeep : 64 < depN D (TD D) i := by omega
   refine W.seq (W.quiet rfl (by kernel_rfl) (WQ.c rfl ((QO.o rfl fun _ => o_fa 0 TI25 rfl TI23 rfl h1 ⟨rfl, rfl⟩)) (WQ.c rfl ((QO.o rfl fun _ => o_ld TI23 rfl rfl (cell_of hC1 rfl) ⟨rfl, rfl⟩)) (WQ.c rfl ((QO.o rfl fun _ => o_mvh h11 ⟨rfl, rfl⟩)) (WQ.c rfl ((QO.o rfl fun _ => o_ixB (i := i) TI23 TI39 (show _ = Value.slice (some ⟨tb, to_, none⟩) D.length tc from rfl) (show _ = Value.int .i64 (i : Int) from rfl) (by omega) ⟨rfl, rfl⟩)) (WQ.c rfl ((QO.o rfl fun _ => o_fa 1 TI39 rfl TI3 rfl rfl ⟨rfl, rfl⟩)) (WQ.c rfl ((QO.o rfl fun _ => o_ld TI3 rfl rfl (htc 1 _ rfl) ⟨rfl, rfl⟩)) (WQ.c rfl ((QO.o rfl fun _ => o_ash vI ⟨rfl, rfl⟩)) (WQ.c rfl ((QO.o rfl fun _ => o_ash vI ⟨rfl, rfl⟩)) (WQ.nil ?_))))))))))
   intro nq
   replace hx := hx.tr (Only.drewN _ nq)
   refine W.ret (ret2v rfl vI vI ?_)
   obtain ⟨hf1, hf2⟩ := flt_eq (fA_deep hra hrn hi1 hdeep hnd)
   exact ⟨by rw [hf1, hf2], hx⟩
  try simp only [cs8] at c59
  have hdeep : ¬ 64 < depN D (TD D) i := by omega
  refine W.skip (W.region (WL.c rfl (o_mvh h11 (WL.c rfl (o_addi rfl rfl (by omega) (WL.c rfl (o_ash vI (WL.nil (⟨⟨i + 1, by omega, h1, h10.trans hVd.symm, rfl, fun j hj => ?_, hdp, hD, hC1, hx⟩, ?_⟩)))))))))
  ·rcases Nat.lt_or_ge j i with h | h
   ·exact hnd j h
   rw [show j = i by omega]; exact hdeep
  show D.length - ((i : Int) + 1).toNat < _
  rw [hm11]; simp [intOf]; omega
 try simp only [cs8] at c52
 have hi1 : i = D.length := by omega
 rw [hi1] at hnd
 have hfn := fA_none hra hrn hnd
 refine W.exit (W.seq (W.region (WL.c rfl (o_ash vI (WL.c rfl (o_ash vI (WL.nil (W.ret (ret2v rfl vI vI ?_)))))))))
 obtain ⟨hf1, hf2⟩ := flt_zero hfn
 exact ⟨by rw [hf1, hf2], hx⟩
set_option maxHeartbeats 1000000 in
theorem rnames_order_spec (D : List Df) (dv : Value) (V : Nat → Value) (w0 : World) (hD : DefR w0 D dv V) (hlim : DOk D) : Ca Try.prog 37 #[.agg #[dv]] w0 (fun v w' => ∃ ov, v = .tuple #[ov, .int .i64 (flt D).1, .int .i64 (flt D).2] ∧ w'.ownsRow w0.heap.size 3 1 ov (ordR D).length ((ordR D).map iv) ∧ Ext w0 w') := by
 refine Ca.of Try.func37 Try.ntmps37 rfl rfl (W.seq (W.region (WL.c rfl (o_boxB rfl ?_))))
 intro w1 hC1 hx1 hs1
 obtain ⟨b1, hb1⟩ : ∃ b, b = w0.heap.size := ⟨_, rfl⟩
 rw [← hb1] at hC1 ⊢
 replace hC1 : w1.heap[b1]? = some (.cells ([dv]).toArray 25 (0, 0)) := hC1
 have hx := hx1
 replace hD := hD.ext hx1
 refine WL.c rfl (o_ash (by first | exact vS | exact rfl) (WL.c rfl (o_ash vI (WL.c rfl (o_ash vI (WL.nil (W.seq (W.region (WL.c rfl (o_ldA TI25 rfl rfl (show Cells _ b1 0 [dv] from Cells.of hC1 0 _ (by simp)) rfl (WL.c rfl (o_call Try.call36 (lc rfl ln) ((rnames_check_spec D dv V _ hD hlim).mono ?_)))))))))))))
 rintro v9 w9 ⟨rfl, hx9⟩
 replace hx := hx.tr hx9
 replace hD := hD.ext hx9
 replace hC1 := hx9.blk hC1 (fun h => h)
 refine WL.c rfl (o_mvh (by first | exact (show _ = Value.tuple _ from rfl) | exact rfl) (WL.c rfl (o_ext rfl rfl (WL.c rfl (o_ext rfl rfl (WL.c rfl (o_ash vI (WL.c rfl (o_ash vI (WL.nil (W.seq (W.seq (W.region (WL.c rfl (o_mvh vI (WL.c rfl (o_ne rfl rfl (WL.nil (W.cond rfl (fun c13 => ?_) (fun c13 => ?_))))))))))))))))))))
 ·try simp only [cs8] at c13
  have hne : ¬ fA D = none := fun h => by have := flt_iff.2 h; simp [this] at c13
  refine W.seq (W.region (WL.c rfl (o_mvh vI (WL.c rfl (o_mvh vI (WL.c rfl (o_ash (by first | exact vS | exact rfl) (WL.c rfl (o_ash vI (WL.c rfl (o_ash vI (WL.nil (W.ret (ret3v rfl rfl vI vI ?_))))))))))))))
  subst hb1
  exact ⟨_, rfl, by rw [ordR_bad hne]; exact World.ownsRow_nil _ _ _ _, hx⟩
 try simp only [cs8] at c13
 have hfn : fA D = none := flt_iff.1 (by simpa using c13)
 have hg := good_of hfn
 obtain ⟨hf1, hf2⟩ := flt_zero hfn
 refine W.skip (W.seq (W.region (WL.c rfl (o_ldA TI25 rfl rfl (show Cells _ b1 0 [dv] from Cells.of hC1 0 _ (by simp)) rfl (WL.c rfl (o_call Try.call67 (lc rfl ln) ((rorder_spec D dv V _ hD hlim (fun i hi => uses_lt hg.kn hi) hg.ac).mono ?_)))))))
 rintro v17 w17 ⟨hu, hx17⟩
 replace hu := own_mono hu hx.size
 replace hx := hx.tr hx17
 replace hD := hD.ext hx17
 replace hC1 := hx17.blk hC1 (fun h => h)
 refine WL.c rfl (o_ash (by first | exact vS | exact rfl) (WL.c rfl (o_ash vI (WL.c rfl (o_ash vI (WL.nil (W.ret (ret3v rfl rfl vI vI ?_))))))))
 subst hb1
 exact ⟨_, by rw [hf1, hf2], by rw [ordR_ok hfn]; exact hu, hx⟩
end Go.Proofs.Ytpbflfgigfdohaa

namespace Go.Proofs.Ytpbflfgigfdohaa
open Go Go.Vc Go.RowKit Go.Proofs

theorem blk_lt3 {w : World} {c : Nat} {cs : Array Value} {T : TypeId} {fr : Nat × Nat} (h : w.heap[c]? = some (.cells cs T fr)) : c < w.heap.size := (Array.getElem?_eq_some_iff.1 h).1
theorem blk_ne3 {w : World} {c d : Nat} {cs ds : Array Value} {T U : TypeId} {fr gr : Nat × Nat} (h : w.heap[c]? = some (.cells cs T fr)) (k : w.heap[d]? = some (.cells ds U gr)) (hne : ¬ T = U) : ¬ c = d := fun e => by
 rw [e, k] at h
 simp only [Option.some.injEq, Obj.cells.injEq] at h
 exact hne h.2.1.symm
theorem Many.snocD {w : World} {H0 : Nat} {el : TypeId} {s N m : Nat} {V : Nat → Value} {n : Nat → Nat} {X : Nat → List Value} {v : Value} {xs : List Value} (h : Many w H0 el s N V n X) (hr : w.ownsRow H0 el s v m xs) (hd : ∀ j, j < N → Dj v (V j)) (hn : n N = m) (hX : X N = xs) : Many w H0 el s (N + 1) (fun j => if j = N then v else V j) n X := by
 refine ⟨fun j hj => ?_, fun i j hi hj hij k hk => ?_⟩
 ·by_cases e : j = N
  ·simp only [if_pos e]; rw [e, hn, hX]; exact hr
  simp only [if_neg e]; exact h.row j (by omega)
 by_cases e : i = N
 ·have e2 : j ≠ N := by omega
  simp only [if_pos e, if_neg e2] at hk ⊢
  exact hd j (by omega) k hk
 by_cases e2 : j = N
 ·simp only [if_neg e, if_pos e2] at hk ⊢
  exact fun hk2 => hd i (by omega) k hk2 hk
 simp only [if_neg e, if_neg e2] at hk ⊢
 exact h.off i j (by omega) (by omega) hij k hk
theorem Typs.snocD {w : World} {H : Nat} {D : List Tp} {d : Tp} {V : Nat → Value} {dv v : Value} (hr : w.ownsRow H 50 4 dv (D.length + 1) (trows D V ++ tcell d v)) (ht : Many w H 52 3 D.length V (fun j => (pasT D j).length) (fun j => pas (pasT D j)))
  (hf : w.ownsRow H 52 3 v d.parts.length (pas d.parts)) (hd : ∀ j, j < D.length → Dj v (V j)) : Typs w H (D ++ [d]) dv (fun j => if j = D.length then v else V j) := by
 have e1 : ∀ j, j < D.length → pasT (D ++ [d]) j = pasT D j := fun j hj => by simp [pasT, List.getD_eq_getElem?_getD, List.getElem?_append_left hj]
 have e2 : pasT (D ++ [d]) D.length = d.parts := by simp [pasT, List.getD_eq_getElem?_getD]
 refine ⟨by rw [List.length_append, List.length_singleton, trows_snoc]; exact hr, ?_⟩
 rw [List.length_append, List.length_singleton]
 exact Many.snocD (ht.congr (fun _ _ => rfl) (fun j hj => by rw [e1 j hj]) (fun j hj => by rw [e1 j hj])) hf hd (by rw [e2]) (by rw [e2])
def zvs (n : Nat) (f : Nat → Int) : List Value := (List.range n).map (fun i => Value.int .i64 (f i))
theorem zvs_at {n k : Nat} {f : Nat → Int} (hk : k < n) : (zvs n f)[k]? = some (.int .i64 (f k)) := by
 unfold zvs
 rw [List.getElem?_map, List.getElem?_range hk]
 rfl
/-- what a builder holds; wB: the world that Build began in -/
structure BS (wB w : World) (pb : Nat) (dv rv : Value) (n : Nat) (f : Nat → Int) (L : List Tp) (tv : Value) (U : Nat → Value) (lv : Value) (left : List Ex) : Prop where
 cell : w.heap[pb]? = some (.cells #[dv, tv, rv, lv] 85 (0, 0))
 ty : Typs w wB.heap.size L tv U
 ro : w.ownsRow wB.heap.size 3 1 rv n (zvs n f)
 lf : Sl wB 7 lv left.length (exs left)
 ex : Ext wB w
 pH : wB.heap.size ≤ pb
theorem BS.ext {wB w w' : World} {pb n : Nat} {dv rv : Value} {f : Nat → Int} {L : List Tp} {tv : Value} {U : Nat → Value} {lv : Value} {left : List Ex} (h : BS wB w pb dv rv n f L tv U lv left) (ho : Ext w w') : BS wB w' pb dv rv n f L tv U lv left :=
 ⟨ho.blk h.cell (fun h => h), h.ty.ext ho, own_ext h.ro ho, h.lf, h.ex.tr ho, h.pH⟩
/-- what is none of the builder's is written -/
theorem BS.only {wB w w' : World} {pb n : Nat} {dv rv : Value} {f : Nat → Int} {L : List Tp} {tv : Value} {U : Nat → Value} {lv : Value} {left : List Ex} {F : Nat → Prop} (h : BS wB w pb dv rv n f L tv U lv left) (ho : Only F w w') (h1 : ¬ F pb) (h2 : ∀ k, tv.ownBlock = some k → ¬ F k) (h3 : ∀ j, j < L.length → ∀ k, (U j).ownBlock = some k → ¬ F k) (h4 : ∀ k, rv.ownBlock = some k → ¬ F k) (hz : ∀ k, F k → wB.heap.size ≤ k) : BS wB w' pb dv rv n f L tv U lv left :=
 ⟨ho.blk h.cell h1, h.ty.only ho (fun k hk => by
   rcases hk with hk | ⟨j, hj, hk⟩
   ·exact h2 k hk
   exact h3 j hj k hk), own_only h.ro ho h4, h.lf, h.ex.trans' ho (fun _ h => h) (fun k hk e => by have := hz k e; omega), h.pH⟩
theorem BS.off {wB w : World} {pb n c : Nat} {dv rv : Value} {f : Nat → Int} {L : List Tp} {tv : Value} {U : Nat → Value} {lv : Value} {left : List Ex} {cs : Array Value} {T : TypeId} {fr : Nat × Nat} (h : BS wB w pb dv rv n f L tv U lv left) (hc : w.heap[c]? = some (.cells cs T fr)) (h1 : ¬ 85 = T) (h3 : 52 ≠ T) (h4 : 3 ≠ T) : ¬ pb = c ∧ (∀ j, j < L.length → ∀ k, (U j).ownBlock = some k → ¬ k = c) ∧ (∀ k, rv.ownBlock = some k → ¬ k = c) :=
 ⟨fun e => by
  have h5 := h.cell
  rw [e, hc] at h5
  simp only [Option.some.injEq, Obj.cells.injEq] at h5
  exact h1 h5.2.1.symm, fun j hj k hk e => by subst e; exact own_off (h.ty.tys.row j hj) hc h3 hk, fun k hk e => by subst e; exact own_off h.ro hc h4 hk⟩
/-- what is left is another list -/
theorem BS.left {wB w w' : World} {pb n : Nat} {dv rv : Value} {f : Nat → Int} {L : List Tp} {tv : Value} {U : Nat → Value} {lv lv1 : Value} {left left1 : List Ex} (h : BS wB w pb dv rv n f L tv U lv left) (hB : w'.heap[pb]? = some (.cells #[dv, tv, rv, lv1] 85 (0, 0))) (ho : Only (fun k => k = pb) w w') (hl : Sl wB 7 lv1 left1.length (exs left1)) : BS wB w' pb dv rv n f L tv U lv1 left1 :=
 ⟨hB, h.ty.only ho (fun k hk e => by
   subst e
   rcases hk with hk | ⟨j, hj, hk⟩
   ·exact own_off h.ty.row h.cell (by decide) hk
   exact own_off (h.ty.tys.row j hj) h.cell (by decide) hk), own_only h.ro ho (fun k hk e => by subst e; exact own_off h.ro h.cell (by decide) hk), hl, h.ex.trans' ho (fun _ h => h) (fun k hk e => by have := h.pH; omega), h.pH⟩
theorem sl_cap {w : World} {s n c : Nat} {a : Option Addr} {xs : List Value} (h : Sl w s (.slice a n c) n xs) : n ≤ c := by
 rcases h.val with ⟨rfl, _⟩ | ⟨b, off, c', hv, hnc, _⟩
 ·omega
 simp only [Value.slice.injEq] at hv; omega
/-- the blocks of parts: old ones, or new -/
def NewU (w0 : World) (L L' : List Tp) (U U' : Nat → Value) : Prop := ∀ j, j < L'.length → ∀ k, (U' j).ownBlock = some k → (∃ i, i < L.length ∧ (U i).ownBlock = some k) ∨ w0.heap.size ≤ k
def NewV (w0 : World) (tv tv' : Value) : Prop := ∀ k, tv'.ownBlock = some k → tv.ownBlock = some k ∨ w0.heap.size ≤ k
/-- what a call changes -/
def PT (pb : Nat) (tv : Value) : Nat → Prop := fun k => k = pb ∨ tv.ownBlock = some k
theorem NewU.refl (w0 : World) (L : List Tp) (U : Nat → Value) : NewU w0 L L U U := fun j hj k hk => .inl ⟨j, hj, hk⟩
theorem NewV.refl (w0 : World) (tv : Value) : NewV w0 tv tv := fun k hk => .inl hk
theorem NewU.trans {w0 w1 : World} {L L1 L2 : List Tp} {U U1 U2 : Nat → Value} (h : NewU w0 L L1 U U1) (h2 : NewU w1 L1 L2 U1 U2) (hs : w0.heap.size ≤ w1.heap.size) : NewU w0 L L2 U U2 := fun j hj k hk => by
 rcases h2 j hj k hk with ⟨i, hi, h3⟩ | h3
 ·exact h i hi k h3
 exact .inr (by omega)
theorem NewV.trans {w0 w1 : World} {tv t1 t2 : Value} (h : NewV w0 tv t1) (h2 : NewV w1 t1 t2) (hs : w0.heap.size ≤ w1.heap.size) : NewV w0 tv t2 := fun k hk => by
 rcases h2 k hk with h3 | h3
 ·exact h k h3
 exact .inr (by omega)
theorem PT.trans {w0 w1 w2 : World} {pb : Nat} {tv t1 : Value} (h1 : Only (PT pb tv) w0 w1) (hv : NewV w0 tv t1) (h2 : Only (PT pb t1) w1 w2) : Only (PT pb tv) w0 w2 :=
 h1.trans' h2 (fun _ h => h) (fun k hk h => by
  rcases h with h | h
  ·exact .inl h
  rcases hv k h with h | h
  ·exact .inr h
  omega)
/-- what an expression's call does -/
def SEx (wB : World) (pb : Nat) (D : List Df) (dv rv : Value) (f : Nat → Int) (N : Nat) (t : Tr) : Prop := ∀ (rest : List Ex) (L : List Tp) (tv : Value) (U : Nat → Value) (lv : Value) (a : Int) (d : Nat) (w0 : World), t.wf a d → BS wB w0 pb dv rv D.length f L tv U lv (t.flat ++ rest) → (∀ x ∈ t.flat, x.kind = 9 → ∃ i, whereN D x.name = some i) → (∀ x ∈ t.flat, x.name.length ≤ 9223372036854775807 ∧ x.label.length ≤ 9223372036854775807) → L.length + t.flat.length ≤ N → (t.flat ++ rest).length * 72 ≤ 140737488351232 →
 Ca Try.prog 31 #[.pointer (some ⟨pb, 0, none⟩)] w0 (fun u w' => ∃ tv' U' lv', u = .int .i64 (mkT (fun nm => f (whD D nm)) t L).1 ∧ BS wB w' pb dv rv D.length f (mkT (fun nm => f (whD D nm)) t L).2 tv' U' lv' rest ∧ Only (PT pb tv) w0 w' ∧ NewV w0 tv tv' ∧ NewU w0 L (mkT (fun nm => f (whD D nm)) t L).2 U U')
theorem mkK_cons7 {rt : List UInt8 → Int} {kind : Int} {t : Tr} {ts : Trs} {L : List Tp} {el : Int} {ps : List Pa} (h : kind = 8 ∨ kind = 7) : mkK rt kind (.cons t ts) L el ps = mkK rt kind ts (mkT rt t L).2 el (ps ++ [⟨t.top.label, t.top.tag, (mkT rt t L).1⟩]) := by rw [mkK, if_pos (by unfold many7; omega)]
theorem mkK_consE {rt : List UInt8 → Int} {kind : Int} {t : Tr} {ts : Trs} {L : List Tp} {el : Int} {ps : List Pa} (h : ¬ (kind = 8 ∨ kind = 7)) : mkK rt kind (.cons t ts) L el ps = mkK rt kind ts (mkT rt t L).2 (mkT rt t L).1 ps := by rw [mkK, if_neg (by unfold many7; omega)]
theorem flat_top (t : Tr) : ∃ r, t.flat = t.top :: r := by cases t; exact ⟨_, rfl⟩
theorem pre1 {w : World} {b : Nat} {x y z u : Value} {T : TypeId} {fr : Nat × Nat} (h : w.heap[b]? = some (.cells #[x, y, z, u] T fr)) : Cells w b 0 [x] := fun i v hv => by
 cases i with
 | zero => simp at hv; subst hv; exact cell_of h rfl
 | succ i => simp at hv
theorem tcell_all {t : Tp} {v : Value} (h : v.oneCell' = true) : ∀ a ∈ tcell t v, a.oneCell' = true := by
 intro a ha
 simp only [tcell, List.mem_cons, List.mem_nil_iff, or_false] at ha
 rcases ha with rfl | rfl | rfl | rfl
 ·rfl
 ·rfl
 ·rfl
 exact h
theorem sl_tail {w : World} {a : Option Addr} {c : Nat} {y : Ex} {r : List Ex} (h : Sl w 7 (.slice a (y :: r).length c) (y :: r).length (exs (y :: r))) : Sl w 7 (sliced a 1 (y :: r).length c 7) r.length (exs r) := by
 have h1 := h.sliced 1 (y :: r).length (by simp) (Nat.le_refl _)
 have e1 : (y :: r).length - 1 = r.length := by simp
 have e2 : ((exs (y :: r)).drop (1 * 7)).take (((y :: r).length - 1) * 7) = exs r := by
  rw [e1, show exs (y :: r) = exV y ++ exs r from rfl, Nat.one_mul, List.drop_left' (show (exV y).length = 7 from rfl)]
  exact List.take_of_length_le (by rw [exs_len]; omega)
 rw [e2, e1] at h1
 exact h1

set_option maxHeartbeats 8000000 in
theorem bexpr_step (wB : World) (pb : Nat) (D : List Df) (dv rv : Value) (V : Nat → Value) (f : Nat → Int) (N : Nat) (hDB : DefR wB D dv V) (hlen : D.length * 48 ≤ 140737488351232) (hN : N ≤ 2932031007402) (y : Ex) (ks : Trs) (IH : ∀ t : Tr, t.flat.length < (Tr.node y ks).flat.length → SEx wB pb D dv rv f N t) (rest : List Ex) (L : List Tp) (tv : Value) (U : Nat → Value) (lv : Value) (a : Int) (d : Nat) (w0 : World) (hw : (Tr.node y ks).wf a d) (hS : BS wB w0 pb dv rv D.length f L tv U lv ((Tr.node y ks).flat ++ rest)) (hkn : ∀ x ∈ (Tr.node y ks).flat, x.kind = 9 → ∃ i, whereN D x.name = some i) (hnl : ∀ x ∈ (Tr.node y ks).flat, x.name.length ≤ 9223372036854775807 ∧ x.label.length ≤ 9223372036854775807) (hLN : L.length + (Tr.node y ks).flat.length ≤ N) (hsz : ((Tr.node y ks).flat ++ rest).length * 72 ≤ 140737488351232) : Ca Try.prog 31 #[.pointer (some ⟨pb, 0, none⟩)] w0 (fun u w' => ∃ tv' U' lv', u = .int .i64 (mkT (fun nm => f (whD D nm)) (Tr.node y ks) L).1 ∧ BS wB w' pb dv rv D.length f (mkT (fun nm => f (whD D nm)) (Tr.node y ks) L).2 tv' U' lv' rest ∧ Only (PT pb tv) w0 w' ∧ NewV w0 tv tv' ∧ NewU w0 L (mkT (fun nm => f (whD D nm)) (Tr.node y ks) L).2 U U') := by
 have hfl : (Tr.node y ks).flat.length = ks.flat.length + 1 := rfl
 have hkk : y.kids = (ks.len : Int) := hw.2.2.2.1.symm
 have hlk := trs_len_le ks
 obtain ⟨hyn, hyl⟩ := hnl y (List.mem_cons_self ..)
 obtain ⟨r1, hr1⟩ : ∃ r, r = ks.flat ++ rest := ⟨_, rfl⟩
 replace hS : BS wB w0 pb dv rv D.length f L tv U lv (y :: r1) := by rw [hr1]; exact hS
 have hr1l : (y :: r1).length * 72 ≤ 140737488351232 := by rw [hr1]; exact hsz
 obtain ⟨ub, uo, uc, rfl, huc⟩ := Sl.exq hS.lf (k := 0) (by simp)
 have hnc := sl_cap hS.lf
 have htv0 : ∀ k, tv.ownBlock = some k → k < w0.heap.size := fun k hk => (hS.ty.row.lt k hk).2
 have hB0 : wB.heap.size ≤ w0.heap.size := hS.ex.size
 refine Ca.of Try.func31 Try.ntmps31 rfl rfl (W.seq (W.region (WL.c rfl (o_ash vI (WL.nil (W.seq (W.region (WL.c rfl (o_mvh (by first | exact (show _ = Value.pointer _ from rfl) | exact rfl) (WL.c rfl (o_nil rfl (WL.c rfl (o_fa 3 TI85 rfl TI37 rfl rfl (WL.c rfl (o_ld TI37 rfl rfl (cell_of hS.cell rfl) (WL.c rfl (o_ixB (i := 0) TI37 TI41 (show _ = Value.slice (some ⟨ub, uo, none⟩) (y :: r1).length uc from rfl) rfl (by simp) (WL.c rfl (o_ldA TI41 rfl rfl (Cells.only huc hS.ex (fun h => h)) rfl (WL.c rfl (o_alB TI41 ?_)))))))))))))))))))))
 intro wa hCa hxa hsa
 refine WL.u (o_stA TI41 rfl (show _ = Value.agg (exV y).toArray from rfl) rfl rfl hCa rfl ?_)
 intro wb3 hC3 hob hsb
 have hxb := Ext.own hxa (Nat.le_refl _) hob
 obtain ⟨b3, hb3⟩ : ∃ b, b = w0.heap.size := ⟨_, rfl⟩
 rw [← hb3] at hC3 ⊢
 clear hCa hxa hsa hob hsb
 replace hS := hS.ext hxb
 have hC3q := hC3
 have ho : Only (PT pb tv) w0 _ := hxb.mono (fun _ _ h => h.elim)
 have hz3 : w0.heap.size ≤ b3 := by omega
 clear hxb
 refine WL.nil (W.seq (W.region (WL.c rfl (o_mvh (by first | exact (show _ = Value.pointer _ from rfl) | exact rfl) (WL.c rfl (o_mvh (by first | exact (show _ = Value.pointer _ from rfl) | exact rfl) (WL.c rfl (o_nil rfl (WL.c rfl (o_fa 3 TI85 rfl TI37 rfl rfl (WL.c rfl (o_ld TI37 rfl rfl (cell_of hS.cell rfl) (WL.c rfl (o_slv TI37 TI41 rfl (Lo.s (l := 1) rfl) Hi.n (by simp) hnc ?_))))))))))))))
 obtain ⟨lv1, hlv1⟩ : ∃ v, v = sliced (some ⟨ub, uo, none⟩) 1 (y :: r1).length uc 7 := ⟨_, rfl⟩
 rw [← hlv1]
 have hlf1 : Sl wB 7 lv1 r1.length (exs r1) := by rw [hlv1]; exact sl_tail hS.lf
 refine WL.c rfl (o_nil rfl (WL.c rfl (o_fa 3 TI85 rfl TI37 rfl rfl (WL.u (o_stB TI37 rfl (show _ = lv1 from rfl) (sl_one1 hlf1) hS.cell (show 3 < 4 by decide) ?_)))))
 intro w22 hB22 ho22 hs22
 replace hC3 := ho22.blk hC3 (fun e => (hS.off hC3 (by decide) (by decide) (by decide)).1 e.symm)
 replace hS : BS wB w22 pb dv rv D.length f L tv U lv1 r1 := hS.left hB22 ho22 hlf1
 replace ho := ho.trans (ho22.mono (fun k _ e => .inl e))
 refine WL.nil (W.seq (W.seq (W.region (WL.c rfl (o_fa 0 TI41 rfl TI3 rfl rfl (WL.c rfl (o_ld TI3 rfl rfl (cell_of hC3 rfl) (WL.c rfl (o_eq rfl rfl (WL.nil (W.cond rfl (fun c25 => ?_) (fun c25 => ?_))))))))))))
 ·try simp only [cs8] at c25
  have hk9 : y.kind = 9 := by simpa using c25
  have hnil := leaf_no hw (by omega)
  subst hnil
  obtain ⟨wi, hwi⟩ := hkn y (List.mem_cons_self ..) hk9
  obtain ⟨hwl, -⟩ := whereN_some hwi
  obtain ⟨rb, rc, hrv, hrb⟩ := own_some hS.ro (by omega)
  refine W.seq ?_
  obtain ⟨wd, hwd⟩ : ∃ wd, wd = w22.drew := ⟨_, rfl⟩
  have hxd : Ext w22 wd := hwd ▸ Only.drew w22
  replace hS := hS.ext hxd
  replace ho := ho.ext hxd
  replace hC3 := hxd.blk hC3 (fun h => h)
  refine W.draw (Ext) [(0, fun v _ => v = _), (3, fun v _ => v = _)] rfl (by kernel_rfl) (Only.refl No) (fun _ _ _ h k => h.trans k) ⟨Mono.eq, Mono.eq, trivial⟩ ⟨rfl, rfl, trivial⟩ (WD.p rfl (fun e w hR hh => by obtain ⟨h0, -⟩ := hh; exact SG.n (o_mvh h0 ⟨rfl, Only.refl No _⟩)) (WD.p rfl (fun e w hR hh => by obtain ⟨h27, -⟩ := hh; exact SG.n (o_nil h27 ⟨rfl, Only.refl No _⟩)) (WD.p rfl (fun e w hR hh => by obtain ⟨h28, -⟩ := hh; exact SG.n (o_fa 0 TI85 rfl TI25 rfl h28 ⟨rfl, Only.refl No _⟩)) (WD.p rfl (fun e w hR hh => by obtain ⟨h29, -⟩ := hh; rw [← hwd] at hR; exact SG.n (o_ldA TI25 rfl h29 (pre1 (hS.ext hR).cell) rfl ⟨rfl, Only.refl No _⟩)) (WD.p rfl (fun e w hR hh => by obtain ⟨h3, -⟩ := hh; exact SG.n (o_fa 2 TI41 rfl TI9 rfl h3 ⟨rfl, Only.refl No _⟩)) (WD.p rfl (fun e w hR hh => by obtain ⟨h31, -⟩ := hh; rw [← hwd] at hR; exact SG.n (o_ld TI9 rfl h31 (cell_of (hR.blk hC3 (fun h => h)) rfl) ⟨rfl, Only.refl No _⟩)) (WD.p rfl (fun e w hR hh => by obtain ⟨h32, h30, -⟩ := hh; rw [← hwd] at hR; exact SG.n (o_call Try.call57 (lc h30 (lc h32 ln)) ((find_call D dv V y.name _ (hDB.ext (hS.ext hR).ex) hlen hwi).mono (fun v w' ⟨h1, h2⟩ => ⟨h1, h2⟩)))) (WD.p rfl (fun e w hR hh => by obtain ⟨h33, -⟩ := hh; exact SG.n (o_mvh h33 ⟨rfl, Only.refl No _⟩)) (WD.p rfl (fun e w hR hh => by obtain ⟨h26, -⟩ := hh; exact SG.n (o_ext h26 rfl ⟨rfl, Only.refl No _⟩)) (WD.p rfl (fun e w hR hh => by obtain ⟨h26, -⟩ := hh; exact SG.n (o_ext h26 rfl ⟨rfl, Only.refl No _⟩)) (WD.p rfl (fun e w hR hh => by obtain ⟨h34, -⟩ := hh; exact SG.n (o_ash h34 ⟨rfl, Only.refl No _⟩)) (WD.p rfl (fun e w hR hh => by obtain ⟨h35, -⟩ := hh; exact SG.n (o_ash h35 ⟨rfl, Only.refl No _⟩)) ?_))))))))))))
  rintro e w hR ⟨h5, h4, h35, h34, h26, h33, h32, h31, h30, h29, h28, h27, h0, h3, -⟩
  rw [← hwd] at hR
  replace hS := hS.ext hR
  replace ho := ho.ext hR
  have hcr := hS.cell
  rw [hrv] at hcr
  refine W.seq (W.region (WL.c rfl (o_mvh h0 (WL.c rfl (o_nil rfl (WL.c rfl (o_fa 2 TI85 rfl TI79 rfl rfl (WL.c rfl (o_ld TI79 rfl rfl (cell_of hcr rfl) (WL.c rfl (o_mvh h4 (WL.c rfl (o_ixB (i := wi) TI79 TI3 (show _ = Value.slice (some ⟨rb, 0, none⟩) D.length rc from rfl) (show _ = Value.int .i64 (wi : Int) from rfl) (by omega) (WL.c rfl (o_ld TI3 rfl rfl (show World.cell? _ ⟨rb, 0 + wi * 1, none⟩ = some (.int .i64 (f wi)) from by rw [Nat.zero_add, Nat.mul_one]; exact own_cell (hrv ▸ hS.ro) (zvs_at hwl)) (WL.c rfl (o_ash vI (WL.nil (W.ret (ret1v rfl vI ?_))))))))))))))))))))
  have hm : mkT (fun nm => f (whD D nm)) (Tr.node y .nil) L = (f wi, L) := by rw [mkT, if_pos hk9]; show (f (whD D y.name), L) = _; rw [whD, hwi]; rfl
  rw [hm]
  exact ⟨tv, U, lv1, rfl, by rw [hr1] at hS; exact hS, ho, NewV.refl _ _, NewU.refl _ _ _⟩
 try simp only [cs8] at c25
 have hk9 : ¬ y.kind = 9 := by simpa using c25
 refine W.skip (W.seq (W.region (WL.c rfl (o_fa 0 TI41 rfl TI3 rfl rfl (WL.c rfl (o_ld TI3 rfl rfl (cell_of hC3 rfl) (WL.c rfl (o_fa 1 TI41 rfl TI3 rfl rfl (WL.c rfl (o_ld TI3 rfl rfl (cell_of hC3 rfl) (WL.c rfl (o_bldC (cs := [_, _, (.int .i64 0), (.slice none 0 0)]) TI50 (Sizes.cons TI3 (Sizes.cons TI3 (Sizes.cons TI3 (Sizes.cons TI48 Sizes.nil)))) rfl (lcp vI (lcp vI lnp)) rfl rfl (WL.c rfl (o_alB TI50 ?_))))))))))))))
 intro wa hCa hxa hsa
 refine WL.u (o_stA TI50 rfl (show _ = Value.agg (tcell ⟨y.kind, y.n, 0, []⟩ (.slice none 0 0)).toArray from rfl) rfl rfl hCa rfl ?_)
 intro wb6 hC6 hob hsb
 have hxb := Ext.own hxa (Nat.le_refl _) hob
 obtain ⟨b6, hb6⟩ : ∃ b, b = w22.heap.size := ⟨_, rfl⟩
 rw [← hb6] at hC6 ⊢
 clear hCa hxa hsa hob hsb
 have hq22 := ho.size
 replace hS := hS.ext hxb
 replace ho := ho.ext hxb
 replace hC3 := hxb.blk hC3 (fun h => h)
 have hz6 : w0.heap.size ≤ b6 := by rw [hb6]; exact hq22
 clear hxb
 refine WL.nil (W.seq (W.seq (W.region (WL.c rfl (o_fa 5 TI41 rfl TI3 rfl rfl (WL.c rfl (o_ld TI3 rfl rfl (cell_of hC3 rfl) (WL.c rfl (o_mvh vI (WL.nil (W.block (W.loop (fun e w => ∃ (k : Nat) (el : Int) (ps : List Pa) (pv : Value) (L1 : List Tp) (tv1 : Value) (U1 : Nat → Value) (lv2 : Value) (ts : Trs), ks.len = k + ts.len ∧ e 0 = .pointer (some ⟨pb, 0, none⟩) ∧ e 3 = .pointer (some ⟨b3, 0, none⟩) ∧ e 6 = .pointer (some ⟨b6, 0, none⟩) ∧ e 49 = .int .i64 (ks.len : Int) ∧ e 50 = .int .i64 (k : Int) ∧ BS wB w pb dv rv D.length f L1 tv1 U1 lv2 (ts.flat ++ rest) ∧ w.heap[b3]? = some (.cells (exV y).toArray 41 (0, 0)) ∧ w.heap[b6]? = some (.cells #[.int .i64 y.kind, .int .i64 y.n, .int .i64 el, pv] 50 (0, 0)) ∧ w.ownsRow w0.heap.size 52 3 pv ps.length (pas ps) ∧ (∀ j, j < L1.length → Dj pv (U1 j)) ∧ mkK (fun nm => f (whD D nm)) y.kind ts L1 el ps = mkK (fun nm => f (whD D nm)) y.kind ks L 0 [] ∧ ts.wf y.kind (d + 1) ∧ ps.length ≤ k ∧ L1.length + ts.flat.length + 1 ≤ N ∧ (∀ x ∈ ts.flat, x ∈ (Tr.node y ks).flat) ∧ ts.flat.length ≤ ks.flat.length ∧ (ts.flat ++ rest).length ≤ r1.length ∧ ¬ tv1.ownBlock = some b6 ∧ Only (PT pb tv) w0 w ∧ NewV w0 tv tv1 ∧ NewU w0 L L1 U U1 ∧ b6 < w.heap.size) (fun e w => ks.len - (intOf (e 50)).toNat) ?_ ?_))))))))))))
 ·exact ⟨0, 0, [], .slice none 0 0, L, tv, U, lv1, ks, by omega, rfl, rfl, rfl, congrArg (Value.int .i64) hkk, rfl, by rw [hr1] at hS; exact hS, hC3, hC6, World.ownsRow_nil _ _ _ _, fun j hj => Dj.none, rfl, hw.2.2.2.2, Nat.zero_le _, by omega, fun x hx => List.mem_cons_of_mem _ hx, Nat.le_refl _, by rw [hr1]; exact Nat.le_refl _, fun e => by have := htv0 _ e; omega, ho, NewV.refl _ _, NewU.refl _ _ _, blk_lt3 hC6⟩
 rintro e w ⟨k, el, ps, pv, L1, tv1, U1, lv2, ts, hks, h0, h3, h6, h49, h50, hS, hC3, hC6, hpv, hdj, hmk, hwt, hpk, hLN1, hmem, htl, hrl, hn6, ho, hnv, hnu, hs6⟩
 have hm50 := h50
 have hB0w := hS.ex.size
 have hos := ho.size
 refine W.seq (W.region (WL.c rfl (o_lt h50 h49 (WL.nil (W.seq (W.cond rfl (fun c51 => ?_) (fun c51 => ?_)))))))
 ·try simp only [cs8] at c51
  have hk1 : k < ks.len := by omega
  obtain ⟨t, ts2, rfl⟩ := Trs.split hks hk1
  simp only [Trs.len] at hks
  have hfl2 : (Trs.cons t ts2).flat.length = t.flat.length + ts2.flat.length := by simp [Trs.flat]
  have htp := tr_pos t
  rw [hfl2] at hLN1 htl
  replace hS : BS wB w pb dv rv D.length f L1 tv1 U1 lv2 (t.flat ++ (ts2.flat ++ rest)) := by
   have e : (Trs.cons t ts2).flat ++ rest = t.flat ++ (ts2.flat ++ rest) := by simp [Trs.flat]
   rw [← e]; exact hS
  obtain ⟨tr, htr⟩ := flat_top t
  have hrl1 : (t.flat ++ (ts2.flat ++ rest)).length ≤ r1.length := by simp [Trs.flat] at hrl ⊢; omega
  have htopm : t.top ∈ (Trs.cons t ts2).flat := List.mem_append_left _ (by rw [htr]; exact List.mem_cons_self ..)
  obtain ⟨htn, htlb⟩ := hnl _ (hmem _ htopm)
  have hlf0 : Sl wB 7 lv2 (t.top :: (tr ++ (ts2.flat ++ rest))).length (exs (t.top :: (tr ++ (ts2.flat ++ rest)))) := by
   have h := hS.lf
   rw [htr] at h
   exact h
  obtain ⟨vb, vo, vc, hlv2, hvc⟩ := Sl.exq hlf0 (k := 0) (by simp)
  have hcl := hS.cell
  rw [hlv2] at hcl
  refine W.skip (W.seq (W.block (W.seq (W.region (WL.c rfl (o_mvh h0 (WL.c rfl (o_nil rfl (WL.c rfl (o_fa 3 TI85 rfl TI37 rfl rfl (WL.c rfl (o_ld TI37 rfl rfl (cell_of hcl rfl) (WL.c rfl (o_ixB (i := 0) TI37 TI41 (show _ = Value.slice (some ⟨vb, vo, none⟩) (t.top :: (tr ++ (ts2.flat ++ rest))).length vc from rfl) rfl (by simp) (WL.c rfl (o_ldA TI41 rfl rfl (Cells.only hvc hS.ex (fun h => h)) rfl (WL.c rfl (o_alB TI41 ?_))))))))))))))))))
  intro wa hCa hxa hsa
  refine WL.u (o_stA TI41 rfl (show _ = Value.agg (exV t.top).toArray from rfl) rfl rfl hCa rfl ?_)
  intro wb7 hC7 hob hsb
  have hxb := Ext.own hxa (Nat.le_refl _) hob
  obtain ⟨b7, hb7⟩ : ∃ b, b = w.heap.size := ⟨_, rfl⟩
  rw [← hb7] at hC7 ⊢
  clear hCa hxa hsa hob hsb
  replace hS := hS.ext hxb
  replace ho := ho.ext hxb
  replace hC3 := hxb.blk hC3 (fun h => h)
  replace hC6 := hxb.blk hC6 (fun h => h)
  replace hpv := own_ext hpv hxb
  clear hxb
  refine WL.nil (W.seq (W.region (WL.c rfl (o_mvh h0 (WL.c rfl (o_call Try.call31 (lc rfl ln) ((IH t (by rw [hfl]; omega) (ts2.flat ++ rest) L1 tv1 U1 lv2 _ _ _ hwt.1 hS (fun x hx => hkn x (hmem x (List.mem_append_left _ hx))) (fun x hx => hnl x (hmem x (List.mem_append_left _ hx))) (by omega) (by simp only [List.length_cons] at hr1l; omega)).mono ?_)))))))
  have hs6b := blk_lt3 hC6
  have hos := ho.size
  rintro v59 w59 ⟨tv2, U2, lv3, rfl, hS2, ho59, hv59, hu59⟩
  obtain ⟨M59, hM59, hMl⟩ := mkT_pre (fun nm => f (whD D nm)) t L1 (wf_leafy t _ _ hwt.1)
  have hcn : cntN t.flat ≤ t.flat.length := List.length_filter_le _ _
  obtain ⟨r, hr⟩ : ∃ r, r = mkT (fun nm => f (whD D nm)) t L1 := ⟨_, rfl⟩
  rw [← hr] at hS2 hu59 hM59 ⊢
  have hrlen : r.2.length ≤ L1.length + t.flat.length := by rw [hM59, List.length_append]; omega
  have n3 := (hS.off hC3 (by decide) (by decide) (by decide)).1
  have n6 := (hS.off hC6 (by decide) (by decide) (by decide)).1
  have n7 := (hS.off hC7 (by decide) (by decide) (by decide)).1
  replace hC3 := ho59.blk hC3 (fun h => by rcases h with h | h; exact n3 h.symm; exact own_off hS.ty.row hC3 (by decide) h)
  replace hC6 := ho59.blk hC6 (fun h => by rcases h with h | h; exact n6 h.symm; exact hn6 h)
  replace hC7 := ho59.blk hC7 (fun h => by rcases h with h | h; exact n7 h.symm; exact own_off hS.ty.row hC7 (by decide) h)
  have hpvl := hpv.lt
  have hpv2 := own_only hpv ho59 (fun k hk h => by
   rcases h with h | h
   ·subst h; exact own_off hpv hS.cell (by decide) hk
   exact own_row_off hS.ty.row hpv (by decide) k hk h)
  have hdj2 : ∀ j, j < r.2.length → Dj pv (U2 j) := fun j hj k hk hk2 => by
   rcases hu59 j hj k hk2 with ⟨i, hi, h⟩ | h
   ·exact hdj i hi k hk h
   have := (hpvl k hk).2; omega
  have hn62 : ¬ tv2.ownBlock = some b6 := fun e => by
   rcases hv59 b6 e with h | h
   ·exact hn6 h
   omega
  replace ho := PT.trans ho hnv ho59
  replace hnv := hnv.trans hv59 hos
  replace hnu := hnu.trans hu59 hos
  replace hpv := hpv2
  replace hdj := hdj2
  replace hn6 := hn62
  replace hS := hS2
  clear hpv2 hdj2 hn62 hS2 ho59 hpvl
  refine WL.c rfl (o_ash vI (WL.nil (W.seq ?_)))
  by_cases h8 : y.kind = 8
  rotate_left
  by_cases h7 : y.kind = 7
  ·skip
   have hkd : y.kind = 8 ∨ y.kind = 7 := .inr h7
   refine W.region (WL.c rfl (o_fa 0 TI41 rfl TI3 rfl h3 (WL.c rfl (o_ld TI3 rfl rfl (cell_of hC3 rfl) (WL.c rfl (o_eq rfl rfl (WL.c rfl (o_mvh vB (WL.g rfl (by simp [h8]) rfl (o_fa 0 TI41 rfl TI3 rfl h3 (WL.g rfl (by simp [h8]) rfl (o_ld TI3 rfl rfl (cell_of hC3 rfl) (WL.g rfl (by simp [h8]) rfl (o_eq rfl rfl (WL.c rfl (o_pickO rfl rfl (WL.nil (W.condT' rfl (by simp [h7]) (W.region (WL.c rfl (o_fa 3 TI50 rfl TI48 rfl h6 (WL.c rfl (o_ld TI48 rfl rfl (cell_of hC6 rfl) (WL.c rfl (o_fa 3 TI41 rfl TI9 rfl rfl (WL.c rfl (o_ld TI9 rfl rfl (cell_of hC7 rfl) (WL.c rfl (o_fa 4 TI41 rfl TI3 rfl rfl (WL.c rfl (o_ld TI3 rfl rfl (cell_of hC7 rfl) (WL.c rfl (o_mvh vI (WL.c rfl (o_bldC (cs := [_, _, _]) TI52 (Sizes.cons TI9 (Sizes.cons TI3 (Sizes.cons TI3 Sizes.nil))) rfl (lcp (show _ = Value.string _ from rfl) (lcp vI (lcp vI lnp))) rfl rfl (WL.apO (w0.heap.size) rfl rfl TI48 TI52 (show _ = Value.agg (paV ⟨t.top.label, t.top.tag, r.1⟩).toArray from rfl) rfl hpv (by decide) (by decide) rfl (fun a ha => List.all_eq_true.1 (show List.all _ (fun a => a.oneCell') = true from rfl) a ha) rfl (by rw [maxLen_eq]; omega) (by omega) (by have := ho.size; omega) ?_))))))))))))))))))))))))))))))))))))
   intro pv2 w77 hpv2 ho77 hb77 _
   obtain ⟨ps2, hps2⟩ : ∃ l, l = ps ++ [(⟨t.top.label, t.top.tag, r.1⟩ : Pa)] := ⟨_, rfl⟩
   replace hpv2 : w77.ownsRow w0.heap.size 52 3 pv2 ps2.length (pas ps2) := by rw [hps2, pas_snoc, List.length_append, List.length_singleton]; exact hpv2
   have hpl : ∀ k, pv.ownBlock = some k → w0.heap.size ≤ k := fun k hk => (hpv.lt k hk).1
   have hdj' : ∀ j, j < r.2.length → Dj pv2 (U2 j) := fun j hj => Dj.step (hdj j hj) hb77 (fun k hk => by have := (hS.ty.tys.lt hj hk).2; omega)
   replace hS := hS.only ho77 (fun e => own_off hpv hS.cell (by decide) e) (own_row_off hpv hS.ty.row (by decide)) (fun j hj k hk e => hdj j hj k e hk) (own_row_off hpv hS.ro (by decide)) (fun k e => by have := hpl k e; omega)
   replace hC3 := ho77.blk hC3 (fun e => own_off hpv hC3 (by decide) e)
   replace hC6 := ho77.blk hC6 (fun e => own_off hpv hC6 (by decide) e)
   replace ho := ho.trans' ho77 (fun _ h => h) (fun k hk e => by have := hpl k e; omega)
   clear hpv
   refine WL.c rfl (o_fa 3 TI50 rfl TI48 rfl h6 (WL.u (o_stB TI48 rfl (show _ = pv2 from rfl) (own_one hpv2) hC6 (show 3 < 4 by decide) ?_)))
   intro w78 hC6n ho78 hs78
   replace hC6n : w78.heap[b6]? = some (.cells #[.int .i64 y.kind, .int .i64 y.n, .int .i64 el, pv2] 50 (0, 0)) := hC6n
   have hof := hS.off hC6 (by decide) (by decide) (by decide)
   replace hS := hS.only ho78 hof.1 (fun k hk e => hn6 (e ▸ hk)) hof.2.1 hof.2.2 (fun k e => by omega)
   replace hC3 := ho78.blk hC3 (blk_ne3 hC3 hC6 (by decide))
   have hpv := own_only hpv2 ho78 (fun k hk e => by subst e; exact own_off hpv2 hC6 (by decide) hk)
   replace hdj := hdj'
   replace ho := ho.trans' ho78 (fun _ h => h) (fun k hk e => by omega)
   replace hC6 := hC6n
   have hpk2 : ps2.length ≤ k + 1 := by rw [hps2]; simp; omega
   have hmk2 : mkK (fun nm => f (whD D nm)) y.kind ts2 r.2 el ps2 = mkK (fun nm => f (whD D nm)) y.kind (.cons t ts2) L1 el ps := by rw [mkK_cons7 hkd, hps2, hr]
   refine WL.nil (W.region (WL.c rfl (o_addi h50 rfl (by omega) (WL.c rfl (o_mvh vI (WL.nil (⟨⟨k + 1, _, _, _, r.2, tv2, U2, lv3, ts2, by omega, h0, h3, h6, h49, rfl, hS, hC3, hC6, hpv, hdj, hmk2.trans hmk, hwt.2, hpk2, by omega, fun x hx => hmem x (List.mem_append_right _ hx), by omega, by simp at hrl ⊢; omega, hn6, ho, hnv, hnu, blk_lt3 hC6⟩, ?_⟩)))))))
   show ks.len - ((k : Int) + 1).toNat < _
   rw [hm50]; simp [intOf]; omega
  ·skip
   have hkd : ¬ (y.kind = 8 ∨ y.kind = 7) := by omega
   refine W.region (WL.c rfl (o_fa 0 TI41 rfl TI3 rfl h3 (WL.c rfl (o_ld TI3 rfl rfl (cell_of hC3 rfl) (WL.c rfl (o_eq rfl rfl (WL.c rfl (o_mvh vB (WL.g rfl (by simp [h8]) rfl (o_fa 0 TI41 rfl TI3 rfl h3 (WL.g rfl (by simp [h8]) rfl (o_ld TI3 rfl rfl (cell_of hC3 rfl) (WL.g rfl (by simp [h8]) rfl (o_eq rfl rfl (WL.c rfl (o_pickO rfl rfl (WL.nil (W.condF' rfl (by simp [h7, h8]) (W.region (WL.c rfl (o_mvh vI (WL.c rfl (o_fa 2 TI50 rfl TI3 rfl h6 (WL.u (o_stB TI3 rfl (show _ = Value.int .i64 r.1 from rfl) rfl hC6 (show 2 < 4 by decide) ?_)))))))))))))))))))))))))
   intro w80 hC6n ho80 hs80
   replace hC6n : w80.heap[b6]? = some (.cells #[.int .i64 y.kind, .int .i64 y.n, .int .i64 r.1, pv] 50 (0, 0)) := hC6n
   have hof := hS.off hC6 (by decide) (by decide) (by decide)
   replace hS := hS.only ho80 hof.1 (fun k hk e => hn6 (e ▸ hk)) hof.2.1 hof.2.2 (fun k e => by omega)
   replace hC3 := ho80.blk hC3 (blk_ne3 hC3 hC6 (by decide))
   replace hpv := own_only hpv ho80 (fun k hk e => by subst e; exact own_off hpv hC6 (by decide) hk)
   replace ho := ho.trans' ho80 (fun _ h => h) (fun k hk e => by omega)
   replace hC6 := hC6n
   have hpk2 : ps.length ≤ k + 1 := by omega
   have hmk2 : mkK (fun nm => f (whD D nm)) y.kind ts2 r.2 r.1 ps = mkK (fun nm => f (whD D nm)) y.kind (.cons t ts2) L1 el ps := by rw [mkK_consE hkd, hr]
   refine WL.nil (W.region (WL.c rfl (o_addi h50 rfl (by omega) (WL.c rfl (o_mvh vI (WL.nil (⟨⟨k + 1, _, _, _, r.2, tv2, U2, lv3, ts2, by omega, h0, h3, h6, h49, rfl, hS, hC3, hC6, hpv, hdj, hmk2.trans hmk, hwt.2, hpk2, by omega, fun x hx => hmem x (List.mem_append_right _ hx), by omega, by simp at hrl ⊢; omega, hn6, ho, hnv, hnu, blk_lt3 hC6⟩, ?_⟩)))))))
   show ks.len - ((k : Int) + 1).toNat < _
   rw [hm50]; simp [intOf]; omega
  skip
  have hkd : y.kind = 8 ∨ y.kind = 7 := .inl h8
  refine W.region (WL.c rfl (o_fa 0 TI41 rfl TI3 rfl h3 (WL.c rfl (o_ld TI3 rfl rfl (cell_of hC3 rfl) (WL.c rfl (o_eq rfl rfl (WL.c rfl (o_mvh vB (WL.s rfl (by simp [h8]) rfl (WL.s rfl (by simp [h8]) rfl (WL.s rfl (by simp [h8]) rfl (WL.c rfl (o_pickT rfl (by simp [h8]) (WL.nil (W.condT' rfl (rfl) (W.region (WL.c rfl (o_fa 3 TI50 rfl TI48 rfl h6 (WL.c rfl (o_ld TI48 rfl rfl (cell_of hC6 rfl) (WL.c rfl (o_fa 3 TI41 rfl TI9 rfl rfl (WL.c rfl (o_ld TI9 rfl rfl (cell_of hC7 rfl) (WL.c rfl (o_fa 4 TI41 rfl TI3 rfl rfl (WL.c rfl (o_ld TI3 rfl rfl (cell_of hC7 rfl) (WL.c rfl (o_mvh vI (WL.c rfl (o_bldC (cs := [_, _, _]) TI52 (Sizes.cons TI9 (Sizes.cons TI3 (Sizes.cons TI3 Sizes.nil))) rfl (lcp (show _ = Value.string _ from rfl) (lcp vI (lcp vI lnp))) rfl rfl (WL.apO (w0.heap.size) rfl rfl TI48 TI52 (show _ = Value.agg (paV ⟨t.top.label, t.top.tag, r.1⟩).toArray from rfl) rfl hpv (by decide) (by decide) rfl (fun a ha => List.all_eq_true.1 (show List.all _ (fun a => a.oneCell') = true from rfl) a ha) rfl (by rw [maxLen_eq]; omega) (by omega) (by have := ho.size; omega) ?_)))))))))))))))))))))))))))))))))
  intro pv2 w77 hpv2 ho77 hb77 _
  obtain ⟨ps2, hps2⟩ : ∃ l, l = ps ++ [(⟨t.top.label, t.top.tag, r.1⟩ : Pa)] := ⟨_, rfl⟩
  replace hpv2 : w77.ownsRow w0.heap.size 52 3 pv2 ps2.length (pas ps2) := by rw [hps2, pas_snoc, List.length_append, List.length_singleton]; exact hpv2
  have hpl : ∀ k, pv.ownBlock = some k → w0.heap.size ≤ k := fun k hk => (hpv.lt k hk).1
  have hdj' : ∀ j, j < r.2.length → Dj pv2 (U2 j) := fun j hj => Dj.step (hdj j hj) hb77 (fun k hk => by have := (hS.ty.tys.lt hj hk).2; omega)
  replace hS := hS.only ho77 (fun e => own_off hpv hS.cell (by decide) e) (own_row_off hpv hS.ty.row (by decide)) (fun j hj k hk e => hdj j hj k e hk) (own_row_off hpv hS.ro (by decide)) (fun k e => by have := hpl k e; omega)
  replace hC3 := ho77.blk hC3 (fun e => own_off hpv hC3 (by decide) e)
  replace hC6 := ho77.blk hC6 (fun e => own_off hpv hC6 (by decide) e)
  replace ho := ho.trans' ho77 (fun _ h => h) (fun k hk e => by have := hpl k e; omega)
  clear hpv
  refine WL.c rfl (o_fa 3 TI50 rfl TI48 rfl h6 (WL.u (o_stB TI48 rfl (show _ = pv2 from rfl) (own_one hpv2) hC6 (show 3 < 4 by decide) ?_)))
  intro w78 hC6n ho78 hs78
  replace hC6n : w78.heap[b6]? = some (.cells #[.int .i64 y.kind, .int .i64 y.n, .int .i64 el, pv2] 50 (0, 0)) := hC6n
  have hof := hS.off hC6 (by decide) (by decide) (by decide)
  replace hS := hS.only ho78 hof.1 (fun k hk e => hn6 (e ▸ hk)) hof.2.1 hof.2.2 (fun k e => by omega)
  replace hC3 := ho78.blk hC3 (blk_ne3 hC3 hC6 (by decide))
  have hpv := own_only hpv2 ho78 (fun k hk e => by subst e; exact own_off hpv2 hC6 (by decide) hk)
  replace hdj := hdj'
  replace ho := ho.trans' ho78 (fun _ h => h) (fun k hk e => by omega)
  replace hC6 := hC6n
  have hpk2 : ps2.length ≤ k + 1 := by rw [hps2]; simp; omega
  have hmk2 : mkK (fun nm => f (whD D nm)) y.kind ts2 r.2 el ps2 = mkK (fun nm => f (whD D nm)) y.kind (.cons t ts2) L1 el ps := by rw [mkK_cons7 hkd, hps2, hr]
  refine WL.nil (W.region (WL.c rfl (o_addi h50 rfl (by omega) (WL.c rfl (o_mvh vI (WL.nil (⟨⟨k + 1, _, _, _, r.2, tv2, U2, lv3, ts2, by omega, h0, h3, h6, h49, rfl, hS, hC3, hC6, hpv, hdj, hmk2.trans hmk, hwt.2, hpk2, by omega, fun x hx => hmem x (List.mem_append_right _ hx), by omega, by simp at hrl ⊢; omega, hn6, ho, hnv, hnu, blk_lt3 hC6⟩, ?_⟩)))))))
  show ks.len - ((k : Int) + 1).toNat < _
  rw [hm50]; simp [intOf]; omega
 try simp only [cs8] at c51
 have hk1 : k = ks.len := by omega
 have hnil := Trs.none hks hk1
 subst hnil
 replace hmk : (el, ps, L1) = mkK (fun nm => f (whD D nm)) y.kind ks L 0 [] := hmk
 have hLc : L1.length + 1 ≤ N := by simp [Trs.flat] at hLN1; omega
 refine W.exit (W.seq ?_)
 obtain ⟨TT, hTT⟩ : ∃ q : Tp, q = ⟨y.kind, y.n, el, ps⟩ := ⟨_, rfl⟩
 obtain ⟨wd, hwd⟩ : ∃ wd, wd = w.drew := ⟨_, rfl⟩
 have hxd : Ext w wd := hwd ▸ Only.drew w
 replace hS := hS.ext hxd
 replace ho := ho.ext hxd
 replace hpv := own_ext hpv hxd
 replace hC6 : wd.heap[b6]? = some (.cells (tcell TT pv).toArray 50 (0, 0)) := by rw [hTT]; exact hxd.blk hC6 (fun h => h)
 have hlt : ∀ k, tv1.ownBlock = some k → k < wd.heap.size := fun k hk => (hS.ty.row.lt k hk).2
 have hge : ∀ k, tv1.ownBlock = some k → wB.heap.size ≤ k := fun k hk => (hS.ty.row.lt k hk).1
 have hls : ¬ tv1.ownBlock = some pb := fun e => own_off hS.ty.row hS.cell (by decide) e
 have hwB := hS.ex.size
 refine W.drawF 8 [7] [fun k => tv1.ownBlock = some k] [(0, fun v _ => v = _), (6, fun v _ => v = _)] rfl (by kernel_rfl) (by kernel_rfl) ⟨Mono.eq, Mono.eq, trivial⟩ ⟨h0, h6, trivial⟩ (WDS.p rfl (by decide) (fun e w hR hh => by obtain ⟨h0, -⟩ := hh; exact SG.n (o_mvh h0 ⟨rfl, Only.refl No _⟩)) (WDS.p rfl (by decide) (fun e w hR hh => by obtain ⟨h0, -⟩ := hh; exact SG.n (o_mvh h0 ⟨rfl, Only.refl No _⟩)) (WDS.p rfl (by decide) (fun e w hR hh => by obtain ⟨h83, -⟩ := hh; exact SG.n (o_nil h83 ⟨rfl, Only.refl No _⟩)) (WDS.p rfl (by decide) (fun e w hR hh => by obtain ⟨h84, -⟩ := hh; exact SG.n (o_fa 1 TI85 rfl TI31 rfl h84 ⟨rfl, Only.refl No _⟩)) (WDS.p rfl (by decide) (fun e w hR hh => by obtain ⟨h85, -⟩ := hh; rw [← hwd] at hR; have hc := hR.blk hS.cell (fun hF => by rcases hF with hF | hF <;> first | exact hls hF | exact hF); exact SG.n (o_ld TI31 rfl h85 (cell_of hc rfl) ⟨rfl, Only.refl No _⟩)) (WDS.p rfl (by decide) (fun e w hR hh => by obtain ⟨h6, -⟩ := hh; rw [← hwd] at hR; exact SG.n (o_ldA TI50 rfl h6 (show Cells w b6 0 (tcell TT pv) from Cells.of (hR.blk hC6 (fun hF => by rcases hF with hF | hF <;> first | exact hF | exact hn6 hF)) 0 _ (by simp)) rfl ⟨rfl, Only.refl No _⟩)) (WDS.q 0 (fun v w => w.ownsRow wd.heap.size 50 4 v 1 (tcell TT pv)) (fun v w w2 hR hh => own_only hh hR (fun k hk hF => by rcases hF with hF | hF <;> first | exact hF | (have := hlt k hF; have := (hh.lt k hk).1; omega))) (by kernel_rfl) rfl (by decide) (fun e w hR hh => by obtain ⟨h87, -⟩ := hh; rw [← hwd] at hR; exact SG.n (o_bs1 TI31 TI50 (show _ = Value.agg (tcell TT pv).toArray from h87) (by decide) (by decide) rfl ⟨own_mono (own_new1 rfl) hR.size, Only.alloc w _⟩)) (WDS.mf 0 1 (fun v w => w.ownsRow wB.heap.size 50 4 v (L1.length + 1) (trows L1 U1 ++ tcell TT pv) ∧ ∀ k, v.ownBlock = some k → tv1.ownBlock = some k ∨ wd.heap.size ≤ k) (fun v w w2 hR hh => ⟨own_ext hh.1 hR, hh.2⟩) (by kernel_rfl) rfl rfl rfl (fun e w hR hW hh => by obtain ⟨h88, h86, -⟩ := hh; rw [← hwd] at hR hW; have hW2 : Ext wd w := hW.mono (fun _ _ h => h); have hw2 := hR.size; exact SGX.n (OP.x (o_apO wB.heap.size TI31 TI50 h86 rfl (own_ext hS.ty.row hW2) (Sl.own h88) rfl (by decide) (tcell_all (own_one hpv)) (by rw [maxLen_eq]; omega) (by omega) (by omega) (fun v' w' h1 h2 h3 _ => ⟨⟨h1, fun k hk => by rcases h3 with h3 | h3; exact .inl (h3.symm.trans hk); exact .inr (by have h5 := h3.symm.trans hk; rw [Option.some.injEq] at h5; have := hR.size; omega)⟩, h2⟩)))) ?_))))))))
 rintro e w hR ⟨h89, h88, h87, h86, h85, h84, h83, h82, h0, h6, -⟩
 rw [← hwd] at hR
 obtain ⟨v89, hv89⟩ : ∃ v, v = e 89 := ⟨_, rfl⟩
 rw [← hv89] at h89
 obtain ⟨h89, h89b⟩ := h89
 have hc5 := hR.blk hS.cell (fun hF => by rcases hF with hF | hF <;> first | exact hls hF | exact hF)
 have hty5 : Typs w wB.heap.size (L1 ++ [TT]) v89 (fun j => if j = L1.length then pv else U1 j) := Typs.snocD h89 (hS.ty.tys.only hR (fun j hj k hk hF => by rcases hF with hF | hF <;> first | exact hF | exact own_row_off hS.ty.row (hS.ty.tys.row j hj) (by decide) k hk hF))
  (by rw [hTT]; exact own_mono (own_only hpv hR (fun k hk hF => by rcases hF with hF | hF <;> first | exact hF | exact own_row_off hS.ty.row hpv (by decide) k hk hF)) hB0) hdj
 have hro5 := own_only hS.ro hR (fun k hk hF => by rcases hF with hF | hF <;> first | exact hF | exact own_row_off hS.ty.row hS.ro (by decide) k hk hF)
 have hex5 := hS.ex.trans' hR (fun _ h => h) (fun k hk hF => by rcases hF with hF | hF; have := hge k hF; omega; exact hF.elim)
 have ho5 := ho.trans' hR (fun _ h => h) (fun k hk hF => by
  rcases hF with hF | hF
  ·rcases hnv k hF with h | h
   ·exact .inr h
   omega
  exact hF.elim)
 refine WL.c rfl (o_nil h82 (WL.c rfl (o_fa 1 TI85 rfl TI31 rfl rfl (WL.u (o_stB TI31 rfl (show _ = v89 from hv89.symm) (own_one h89) hc5 (show 1 < 4 by decide) ?_)))))
 intro w91 hB91 ho91 hs91
 replace hB91 : w91.heap[pb]? = some (.cells #[dv, v89, rv, lv2] 85 (0, 0)) := hB91
 have hty6 := hty5.only ho91 (fun k hk e => by
  subst e
  rcases hk with hk | ⟨j, hj, hk⟩
  ·exact own_off hty5.row hc5 (by decide) hk
  exact own_off (hty5.tys.row j hj) hc5 (by decide) hk)
 have hS6 : BS wB w91 pb dv rv D.length f (L1 ++ [TT]) v89 (fun j => if j = L1.length then pv else U1 j) lv2 rest := ⟨hB91, hty6, own_only hro5 ho91 (fun k hk e => by subst e; exact own_off hro5 hc5 (by decide) hk), hS.lf, hex5.trans' ho91 (fun _ h => h) (fun k hk e => by have := hS.pH; omega), hS.pH⟩
 have ho6 := ho5.trans (ho91.mono (fun k _ e => .inl e))
 have hnv6 : NewV w0 tv v89 := fun k hk => by
  rcases h89b k hk with h | h
  ·exact hnv k h
  right; have := ho.size; omega
 have hnu6 : NewU w0 L (L1 ++ [TT]) U (fun j => if j = L1.length then pv else U1 j) := fun j hj k hk => by
  by_cases e : j = L1.length
  ·have hk' : (if j = L1.length then pv else U1 j).ownBlock = some k := hk
   rw [if_pos e] at hk'
   exact .inr (hpv.lt k hk').1
  have hk' : (if j = L1.length then pv else U1 j).ownBlock = some k := hk
  rw [if_neg e] at hk'
  exact hnu j (by simp at hj; omega) k hk'
 refine WL.nil (W.seq (W.region (WL.c rfl (o_mvh h0 (WL.c rfl (o_nil rfl (WL.c rfl (o_fa 1 TI85 rfl TI31 rfl rfl (WL.c rfl (o_ld TI31 rfl rfl (cell_of hB91 rfl) (WL.c rfl (o_lenR TI31 rfl (Sl.own hty6.row) (WL.c rfl (o_subi (a := (((L1 ++ [TT]).length : Nat) : Int)) (b := 1) rfl rfl (by simp; omega) (WL.c rfl (o_ash vI (WL.nil (W.ret (ret1v rfl vI ?_)))))))))))))))))))
 have hm : mkT (fun nm => f (whD D nm)) (Tr.node y ks) L = ((L1.length : Int), L1 ++ [TT]) := by rw [mkT, if_neg hk9, ← hmk, hTT]
 rw [hm]
 exact ⟨v89, _, lv2, congrArg (Value.int .i64) (by simp), hS6, ho6, hnv6, hnu6⟩
end Go.Proofs.Ytpbflfgigfdohaa

namespace Go.Proofs.Ytpbflfgigfdohaa
open Go Go.Vc Go.RowKit Go.Proofs

theorem bexpr_all (wB : World) (pb : Nat) (D : List Df) (dv rv : Value) (V : Nat → Value) (f : Nat → Int) (N : Nat) (hDB : DefR wB D dv V) (hlen : D.length * 48 ≤ 140737488351232) (hN : N ≤ 2932031007402) : ∀ (m : Nat) (t : Tr), t.flat.length ≤ m → SEx wB pb D dv rv f N t
 | 0, .node y ks, h => by simp [Tr.flat] at h
 | m + 1, .node y ks, h => fun rest L tv U lv a d w0 h1 h2 h3 h4 h5 h6 => bexpr_step wB pb D dv rv V f N hDB hlen hN y ks (fun t ht => bexpr_all wB pb D dv rv V f N hDB hlen hN m t (by omega)) rest L tv U lv a d w0 h1 h2 h3 h4 h5 h6
theorem bnd_hit {D : List Df} {i q : Nat} (hi : i < D.length) (hq : q < D[i].ty.length) (ho : outB D[i].ty[q] = true) (h1 : ∀ j, j < i → bndD D j = none) (h2 : ∀ j, j < q → bndN D[i].ty j = none) : bndF D = some (90, D[i].ty[q].at_) := by
 refine firstN_hit hi ?_ h1
 unfold bndD
 rw [tyD_at hi]
 refine firstN_hit hq ?_ h2
 unfold bndN
 rw [List.getD_eq_getElem?_getD, List.getElem?_eq_getElem hq]
 simp only [Option.getD_some]
 rw [if_pos ho]
theorem bndN_no {L : List Ex} {q : Nat} (hq : q < L.length) (ho : outB L[q] = false) : bndN L q = none := by
 unfold bndN
 rw [List.getD_eq_getElem?_getD, List.getElem?_eq_getElem hq]
 simp only [Option.getD_some]
 rw [if_neg (by rw [ho]; simp)]
theorem bndD_no {D : List Df} {i : Nat} (hi : i < D.length) (h : ∀ j, j < D[i].ty.length → bndN D[i].ty j = none) : bndD D i = none := by
 unfold bndD
 rw [tyD_at hi]
 exact firstN_miss h
def bndV (D : List Df) : Int × Int := (bndF D).getD (0, 0)

set_option maxHeartbeats 4000000 in
theorem bounds_spec (D : List Df) (dv : Value) (V : Nat → Value) (w0 : World) (hD : DefR w0 D dv V) (hlim : DOk D) : Ca Try.prog 30 #[.agg #[dv]] w0 (fun v w' => v = .agg #[.int .i64 (bndV D).1, .int .i64 (bndV D).2] ∧ Ext w0 w') := by
 have hlen := hlim.len
 refine Ca.of Try.func30 Try.ntmps30 rfl rfl (W.seq (W.region (WL.c rfl (o_boxB rfl ?_))))
 intro w1 hC1 hx1 hs1
 obtain ⟨b1, hb1⟩ : ∃ b, b = w0.heap.size := ⟨_, rfl⟩
 rw [← hb1] at hC1 ⊢
 replace hC1 : w1.heap[b1]? = some (.cells ([dv]).toArray 25 (0, 0)) := hC1
 have hx := hx1
 replace hD := hD.ext hx1
 refine WL.c rfl (o_alB TI28 ?_)
 have hxq := hx
 intro wb hC2 hxb hsb
 replace hx := hx.tr hxb
 replace hD := hD.ext hxb
 replace hC1 := hxb.blk hC1 (fun h => h)
 obtain ⟨c2, hc2⟩ : ∃ c, c = w1.heap.size := ⟨_, rfl⟩
 rw [← hc2] at hC2 ⊢
 replace hC2 : wb.heap[c2]? = some (.cells #[.int .i64 0, .int .i64 0] 28 (0, 0)) := hC2
 have hz2 : w0.heap.size ≤ c2 := by rw [hc2]; exact hxq.size
 clear hxq hxb
 refine WL.nil (W.seq (W.seq (W.region (WL.c rfl (o_fa 0 TI25 rfl TI23 rfl rfl (WL.c rfl (o_ld TI23 rfl rfl (cell_of hC1 rfl) (WL.c rfl (o_lenR TI23 rfl hD.row (WL.c rfl (o_mvh vI (WL.nil (W.block (W.loop (fun e w => ∃ i : Nat, i ≤ D.length ∧ e 2 = .pointer (some ⟨c2, 0, none⟩) ∧ e 9 = dv ∧ e 10 = .int .i64 (D.length : Int) ∧ e 11 = .int .i64 (i : Int) ∧ (∀ j, j < i → bndD D j = none) ∧ DefR w D dv V ∧ w.heap[c2]? = some (.cells #[.int .i64 0, .int .i64 0] 28 (0, 0)) ∧ Ext w0 w) (fun e w => D.length - (intOf (e 11)).toNat) ?_ ?_))))))))))))))
 ·exact ⟨0, Nat.zero_le _, rfl, rfl, rfl, rfl, fun j hj => by omega, hD, hC2, hx⟩
 rintro e w ⟨i, hi, h2, h9, h10, h11, hno, hD, hC2, hx⟩
 have hm11 := h11
 refine W.seq (W.region (WL.c rfl (o_lt h11 h10 (WL.nil (W.seq (W.cond rfl (fun c12 => ?_) (fun c12 => ?_)))))))
 ·try simp only [cs8] at c12
  have hi1 : i < D.length := by omega
  obtain ⟨tb, to_, tc, rfl, htc, hty⟩ := hD.atk hi1
  have htl := hlim.ty _ (List.getElem_mem hi1)
  refine W.skip (W.seq (W.block (W.seq (W.region (WL.c rfl (o_ixB TI23 TI39 h9 h11 (by omega) (WL.c rfl (o_ldA TI39 rfl rfl htc rfl (WL.c rfl (o_alB TI39 ?_))))))))))
  intro wa hCa hxa hsa
  refine WL.u (o_stA TI39 rfl (show _ = Value.agg (dcell D[i] (V i)).toArray from rfl) rfl (by simp only [dcell, List.toArray, Array.toList, List.all_cons, List.all_nil, sl_one1 hty]; rfl) hCa rfl ?_)
  intro wb4 hC4 hob hsb
  have hxb := Ext.own hxa (Nat.le_refl _) hob
  obtain ⟨b4, hb4⟩ : ∃ b, b = w.heap.size := ⟨_, rfl⟩
  rw [← hb4] at hC4 ⊢
  clear hCa hxa hsa hob hsb
  replace hx := hx.tr hxb
  replace hD := hD.ext hxb
  replace hC2 := hxb.blk hC2 (fun h => h)
  replace hty := hty.ext hxb
  clear hxb
  refine WL.nil (W.seq (W.region (WL.c rfl (o_fa 2 TI39 rfl TI37 rfl rfl (WL.c rfl (o_ld TI37 rfl rfl (cell_of hC4 rfl) (WL.c rfl (o_lenR TI37 rfl hty (WL.c rfl (o_mvh vI (WL.nil (W.block (W.loop (fun e w => ∃ q : Nat, q ≤ D[i].ty.length ∧ e 2 = .pointer (some ⟨c2, 0, none⟩) ∧ e 9 = (.slice (some ⟨tb, to_, none⟩) D.length tc) ∧ e 10 = .int .i64 (D.length : Int) ∧ e 11 = .int .i64 (i : Int) ∧ e 16 = V i ∧ e 17 = .int .i64 (D[i].ty.length : Int) ∧ e 18 = .int .i64 (q : Int) ∧ (∀ j, j < q → bndN D[i].ty j = none) ∧ Sl w 7 (V i) D[i].ty.length (exs D[i].ty) ∧ DefR w D (.slice (some ⟨tb, to_, none⟩) D.length tc) V ∧ w.heap[c2]? = some (.cells #[.int .i64 0, .int .i64 0] 28 (0, 0)) ∧ Ext w0 w) (fun e w => D[i].ty.length - (intOf (e 18)).toNat) ?_ ?_)))))))))))))
  ·exact ⟨0, Nat.zero_le _, h2, h9, h10, h11, rfl, rfl, rfl, fun j hj => by omega, hty, hD, hC2, hx⟩
  rintro e w ⟨q, hq, h2, h9, h10, h11, h16, h17, h18, hnn, hty, hD, hC2, hx⟩
  have hm18 := h18
  refine W.seq (W.region (WL.c rfl (o_lt h18 h17 (WL.nil (W.seq (W.cond rfl (fun c19 => ?_) (fun c19 => ?_)))))))
  ·try simp only [cs8] at c19
   have hq1 : q < D[i].ty.length := by omega
   obtain ⟨ub, uo, uc, hV1, huc⟩ := Sl.exq hty hq1
   rw [hV1] at h16
   refine W.skip (W.seq (W.block (W.seq (W.region (WL.c rfl (o_ixB (i := q) TI37 TI41 h16 h18 (by omega) (WL.c rfl (o_ldA TI41 rfl rfl huc rfl (WL.c rfl (o_alB TI41 ?_))))))))))
   intro wa hCa hxa hsa
   refine WL.u (o_stA TI41 rfl (show _ = Value.agg (exV D[i].ty[q]).toArray from rfl) rfl rfl hCa rfl ?_)
   intro wb6 hC6 hob hsb
   have hxb := Ext.own hxa (Nat.le_refl _) hob
   obtain ⟨b6, hb6⟩ : ∃ b, b = w.heap.size := ⟨_, rfl⟩
   rw [← hb6] at hC6 ⊢
   clear hCa hxa hsa hob hsb
   replace hx := hx.tr hxb
   replace hD := hD.ext hxb
   replace hC2 := hxb.blk hC2 (fun h => h)
   replace hty := hty.ext hxb
   clear hxb
   refine WL.nil (W.seq (W.region (WL.cut (fun e1 w1 => e1 7 = .bool (decide (D[i].ty[q].kind = 4) || decide (D[i].ty[q].kind = 5)) ∧ e1 2 = .pointer (some ⟨c2, 0, none⟩) ∧ e1 9 = (.slice (some ⟨tb, to_, none⟩) D.length tc) ∧ e1 10 = .int .i64 (D.length : Int) ∧ e1 11 = .int .i64 (i : Int) ∧ e1 16 = (.slice (some ⟨ub, uo, none⟩) D[i].ty.length uc) ∧ e1 17 = .int .i64 (D[i].ty.length : Int) ∧ e1 18 = .int .i64 (q : Int) ∧ e1 6 = .pointer (some ⟨b6, 0, none⟩) ∧ w1 = wb6) ?_ ?_)))
   ·-- region 7
    refine WL.c rfl (o_fa 0 TI41 rfl TI3 rfl rfl (WL.c rfl (o_ld TI3 rfl rfl (cell_of hC6 rfl) (WL.c rfl (o_eq rfl rfl (WL.c rfl (o_mvh vB (WL.sp 3 rfl (fun g25 => ?_) (fun g25 => ?_)))))))))
    ·skip
     refine WL.s rfl (g25) rfl (WL.s rfl (g25) rfl (WL.s rfl (g25) rfl (WL.c rfl (o_pickT rfl (g25) (WL.c rfl (o_ash vB ?_))))))
     exact WL.nil (⟨congrArg Value.bool (by first | rfl | (rw [Bool.eq_iff_iff]; simp_all)), h2, h9, h10, h11, h16, h17, h18, rfl, rfl⟩)
    skip
    refine WL.g rfl (g25) rfl (o_fa 0 TI41 rfl TI3 rfl rfl (WL.g rfl (g25) rfl (o_ld TI3 rfl rfl (cell_of hC6 rfl) (WL.g rfl (g25) rfl (o_eq rfl rfl (WL.c rfl (o_pickO rfl rfl (WL.c rfl (o_ash vB ?_)))))))))
    exact WL.nil (⟨congrArg Value.bool (by first | rfl | (rw [Bool.eq_iff_iff]; simp_all)), h2, h9, h10, h11, h16, h17, h18, rfl, rfl⟩)
   rintro e w ⟨h7, h2, h9, h10, h11, h16, h17, h18, h6, hw1⟩
   subst hw1
   refine W.seq (W.region (WL.cut (fun e1 w1 => e1 45 = .bool (outB D[i].ty[q]) ∧ e1 2 = .pointer (some ⟨c2, 0, none⟩) ∧ e1 9 = (.slice (some ⟨tb, to_, none⟩) D.length tc) ∧ e1 10 = .int .i64 (D.length : Int) ∧ e1 11 = .int .i64 (i : Int) ∧ e1 16 = (.slice (some ⟨ub, uo, none⟩) D[i].ty.length uc) ∧ e1 17 = .int .i64 (D[i].ty.length : Int) ∧ e1 18 = .int .i64 (q : Int) ∧ e1 6 = .pointer (some ⟨b6, 0, none⟩) ∧ w1 = w) ?_ ?_))
   ·-- region 8
    refine WL.c rfl (o_mvh h7 (WL.c rfl (o_mvh vB (WL.sp 1 rfl (fun g31 => ?_) (fun g31 => ?_)))))
    ·skip
     refine WL.g rfl (g31) rfl (o_fa 1 TI41 rfl TI3 rfl h6 (WL.g rfl (g31) rfl (o_ld TI3 rfl rfl (cell_of hC6 rfl) (WL.g rfl (g31) rfl (o_lt rfl rfl (WL.g rfl (g31) rfl (o_mvh vB (WL.sp 5 rfl (fun g35 => ?_) (fun g35 => ?_)))))))))
     ·skip
      refine WL.s rfl (g35) rfl (WL.s rfl (g35) rfl (WL.s rfl (g35) rfl (WL.g rfl (g31) rfl (o_pickT rfl (g35) (WL.c rfl (o_pickA rfl rfl (WL.c rfl (o_mvh vB (WL.sp 11 rfl (fun g41 => ?_) (fun g41 => ?_))))))))))
      ·skip
       refine WL.s rfl (g41) rfl (WL.s rfl (g41) rfl (WL.s rfl (g41) rfl (WL.c rfl (o_pickT rfl (g41) ?_))))
       exact WL.nil (⟨congrArg Value.bool (by rw [Bool.eq_iff_iff]; simp_all [outB] <;> omega), h2, h9, h10, h11, h16, h17, h18, h6, rfl⟩)
      skip
      refine WL.g rfl (g41) rfl (o_fa 4 TI41 rfl TI3 rfl h6 (WL.g rfl (g41) rfl (o_ld TI3 rfl rfl (cell_of hC6 rfl) (WL.g rfl (g41) rfl (o_gt rfl rfl (WL.c rfl (o_pickO rfl rfl ?_)))))))
      exact WL.nil (⟨congrArg Value.bool (by rw [Bool.eq_iff_iff]; simp_all [outB] <;> omega), h2, h9, h10, h11, h16, h17, h18, h6, rfl⟩)
     skip
     refine WL.g rfl (g35) rfl (o_fa 1 TI41 rfl TI3 rfl h6 (WL.g rfl (g35) rfl (o_ld TI3 rfl rfl (cell_of hC6 rfl) (WL.g rfl (g35) rfl (o_gt rfl rfl (WL.g rfl (g31) rfl (o_pickO rfl rfl (WL.c rfl (o_pickA rfl rfl (WL.c rfl (o_mvh vB (WL.sp 11 rfl (fun g41 => ?_) (fun g41 => ?_)))))))))))))
     ·skip
      refine WL.s rfl (g41) rfl (WL.s rfl (g41) rfl (WL.s rfl (g41) rfl (WL.c rfl (o_pickT rfl (g41) ?_))))
      exact WL.nil (⟨congrArg Value.bool (by rw [Bool.eq_iff_iff]; simp_all [outB] <;> omega), h2, h9, h10, h11, h16, h17, h18, h6, rfl⟩)
     skip
     refine WL.g rfl (g41) rfl (o_fa 4 TI41 rfl TI3 rfl h6 (WL.g rfl (g41) rfl (o_ld TI3 rfl rfl (cell_of hC6 rfl) (WL.g rfl (g41) rfl (o_gt rfl rfl (WL.c rfl (o_pickO rfl rfl ?_)))))))
     exact WL.nil (⟨congrArg Value.bool (by rw [Bool.eq_iff_iff]; simp_all [outB] <;> omega), h2, h9, h10, h11, h16, h17, h18, h6, rfl⟩)
    skip
    refine WL.s rfl (g31) rfl (WL.s rfl (g31) rfl (WL.s rfl (g31) rfl (WL.s rfl (g31) rfl (WL.z rfl rfl (WL.z rfl rfl (WL.z rfl rfl (WL.s rfl (g31) rfl (WL.c rfl (o_pickF rfl (g31) (WL.c rfl (o_mvh vB (WL.g rfl (rfl) rfl (o_fa 4 TI41 rfl TI3 rfl h6 (WL.g rfl (rfl) rfl (o_ld TI3 rfl rfl (cell_of hC6 rfl) (WL.g rfl (rfl) rfl (o_gt rfl rfl (WL.c rfl (o_pickO rfl rfl ?_)))))))))))))))))))
    exact WL.nil (⟨congrArg Value.bool (by rw [Bool.eq_iff_iff]; simp_all [outB] <;> omega), h2, h9, h10, h11, h16, h17, h18, h6, rfl⟩)
   rintro e w ⟨h45, h2, h9, h10, h11, h16, h17, h18, h6, hw1⟩
   subst hw1
   refine W.cond h45 (fun c45 => ?_) (fun c45 => ?_)
   ·try simp only [cs8] at c45
    have hout : outB D[i].ty[q] = true := c45
    refine W.seq (W.region (WL.c rfl (o_fa 6 TI41 rfl TI3 rfl h6 (WL.c rfl (o_ld TI3 rfl rfl (cell_of hC6 rfl) (WL.c rfl (o_bldC (cs := [(.int .i64 90), _]) TI28 (Sizes.cons TI26 (Sizes.cons TI3 Sizes.nil)) rfl (lcp vI (lcp vI lnp)) rfl rfl (WL.u (o_stA TI28 h2 (show _ = Value.agg #[.int .i64 90, .int .i64 D[i].ty[q].at_] from rfl) rfl rfl hC2 rfl ?_)))))))))
    intro wz hCz hoz hsz
    replace hx := hx.trans' hoz (fun _ h => h) (fun b hb he => by omega)
    refine WL.nil (W.ret (retC rfl TI28 rfl h2 (show Cells _ c2 0 [.int .i64 90, .int .i64 D[i].ty[q].at_] from Cells.of hCz 0 _ (by simp)) rfl ?_))
    have hb := bnd_hit hi1 hq1 hout hno hnn
    exact ⟨by unfold bndV; rw [hb]; rfl, hx⟩
   try simp only [cs8] at c45
   have hout : outB D[i].ty[q] = false := by simpa using c45
   refine W.skip (W.region (WL.c rfl (o_addi h18 rfl (by omega) (WL.c rfl (o_mvh vI (WL.nil (⟨⟨q + 1, by omega, h2, h9, h10, h11, h16.trans hV1.symm, h17, rfl, fun j hj => ?_, hty, hD, hC2, hx⟩, ?_⟩)))))))
   ·rcases Nat.lt_or_ge j q with h | h
    ·exact hnn j h
    rw [show j = q by omega]; exact bndN_no hq1 hout
   show D[i].ty.length - ((q : Int) + 1).toNat < _
   rw [hm18]; simp [intOf]; omega
  try simp only [cs8] at c19
  have hq1 : q = D[i].ty.length := by omega
  refine W.exit (W.region (WL.c rfl (o_addi h11 rfl (by omega) (WL.c rfl (o_mvh vI (WL.nil (⟨⟨i + 1, by omega, h2, h9, h10, rfl, fun j hj => ?_, hD, hC2, hx⟩, ?_⟩)))))))
  ·rcases Nat.lt_or_ge j i with h | h
   ·exact hno j h
   rw [show j = i by omega]; exact bndD_no hi1 (by rw [hq1] at hnn; exact hnn)
  show D.length - ((i : Int) + 1).toNat < _
  rw [hm11]; simp [intOf]; omega
 try simp only [cs8] at c12
 have hi1 : i = D.length := by omega
 rw [hi1] at hno
 have hbn : bndF D = none := firstN_miss hno
 refine W.exit (W.seq (W.region (WL.c rfl (o_bldC (cs := [(.int .i64 0), (.int .i64 0)]) TI28 (Sizes.cons TI26 (Sizes.cons TI3 Sizes.nil)) rfl lnp rfl rfl (WL.u (o_stA TI28 h2 (show _ = Value.agg #[.int .i64 0, .int .i64 0] from rfl) rfl rfl hC2 rfl ?_))))))
 intro wz hCz hoz hsz
 replace hx := hx.trans' hoz (fun _ h => h) (fun b hb he => by omega)
 refine WL.nil (W.ret (retC rfl TI28 rfl h2 (show Cells _ c2 0 [.int .i64 0, .int .i64 0] from Cells.of hCz 0 _ (by simp)) rfl ?_))
 exact ⟨by unfold bndV; rw [hbn]; rfl, hx⟩
end Go.Proofs.Ytpbflfgigfdohaa

namespace Go.Proofs.Ytpbflfgigfdohaa
open Go Go.Vc Go.RowKit Go.Proofs

instance (k n : Int) : Decidable (numOk k n) := by unfold numOk; infer_instance

set_option maxHeartbeats 1000000 in
theorem tnumber_spec (kind n : Int) (w0 : World) : Ca Try.prog 58 #[.int .i64 kind, .int .i64 n] w0 (fun v w' => v = .bool (decide (numOk kind n)) ∧ w' = w0) := by
 refine Ca.of Try.func58 Try.ntmps58 rfl rfl (W.seq (W.region (WL.c rfl (o_ash vB (WL.nil (W.seq (W.seq (W.region (WL.c rfl (o_mvh vI (WL.nil (W.block (W.seq ?_)))))))))))))
 by_cases k1 : kind = 1
 rotate_left
 by_cases k4 : kind = 4
 rotate_left
 by_cases k5 : kind = 5
 ·skip
  skip
  refine W.region (WL.c rfl (o_eq rfl rfl (WL.c rfl (o_ash vB (WL.nil (W.condF' rfl (decide_eq_false k1) (W.seq (W.seq (W.region (WL.c rfl (o_eq rfl rfl (WL.c rfl (o_ash vB (WL.nil (W.condF' rfl (decide_eq_false k4) (W.region (WL.c rfl (o_eq rfl rfl (WL.c rfl (o_ash vB (WL.nil (W.condT' rfl (decide_eq_true k5) (W.seq (W.region (WL.c rfl (o_mvh vI (WL.c rfl (o_ge rfl rfl (WL.c rfl (o_mvh vB (WL.sp 2 rfl (fun g27 => ?_) (fun g27 => ?_))))))))))))))))))))))))))))))))
  ·skip
   refine WL.g rfl (g27) rfl (o_mvh vI (WL.g rfl (g27) rfl (o_le rfl rfl (WL.c rfl (o_pickA rfl rfl (WL.c rfl (o_ash vB (WL.nil (W.ret (ret1v rfl vB ?_))))))))))
   exact ⟨congrArg Value.bool (by rw [Bool.eq_iff_iff]; simp_all [numOk] <;> omega), rfl⟩
  skip
  refine WL.s rfl (g27) rfl (WL.s rfl (g27) rfl (WL.c rfl (o_pickF rfl (g27) (WL.c rfl (o_ash vB (WL.nil (W.ret (ret1v rfl vB ?_))))))))
  exact ⟨congrArg Value.bool (by rw [Bool.eq_iff_iff]; simp_all [numOk] <;> omega), rfl⟩
 ·skip
  skip
  refine W.region (WL.c rfl (o_eq rfl rfl (WL.c rfl (o_ash vB (WL.nil (W.condF' rfl (decide_eq_false k1) (W.seq (W.seq (W.region (WL.c rfl (o_eq rfl rfl (WL.c rfl (o_ash vB (WL.nil (W.condF' rfl (decide_eq_false k4) (W.region (WL.c rfl (o_eq rfl rfl (WL.c rfl (o_ash vB (WL.nil (W.condF' rfl (decide_eq_false k5) (W.skip (W.seq (W.region (WL.c rfl (o_mvh vI (WL.c rfl (o_eq rfl rfl (WL.c rfl (o_ash vB (WL.nil (W.ret (ret1v rfl vB ?_))))))))))))))))))))))))))))))))))
  exact ⟨congrArg Value.bool (by rw [Bool.eq_iff_iff]; simp_all [numOk]), rfl⟩
 ·skip
  skip
  refine W.region (WL.c rfl (o_eq rfl rfl (WL.c rfl (o_ash vB (WL.nil (W.condT' rfl (decide_eq_true k1) (W.seq (W.region (WL.c rfl (o_mvh vI (WL.c rfl (o_eq rfl rfl (WL.c rfl (o_mvh vB (WL.sp 2 rfl (fun g10 => ?_) (fun g10 => ?_))))))))))))))))
  ·skip
   refine WL.s rfl (g10) rfl (WL.s rfl (g10) rfl (WL.c rfl (o_pickT rfl (g10) (WL.c rfl (o_mvh vB (WL.s rfl (rfl) rfl (WL.s rfl (rfl) rfl (WL.c rfl (o_pickT rfl (rfl) (WL.c rfl (o_mvh vB (WL.s rfl (rfl) rfl (WL.s rfl (rfl) rfl (WL.c rfl (o_pickT rfl (rfl) (WL.c rfl (o_ash vB (WL.nil (W.ret (ret1v rfl vB ?_))))))))))))))))))))
   exact ⟨congrArg Value.bool (by rw [Bool.eq_iff_iff]; simp_all [numOk]), rfl⟩
  skip
  refine WL.g rfl (g10) rfl (o_mvh vI (WL.g rfl (g10) rfl (o_eq rfl rfl (WL.c rfl (o_pickO rfl rfl (WL.c rfl (o_mvh vB (WL.sp 6 rfl (fun g14 => ?_) (fun g14 => ?_)))))))))
  ·skip
   refine WL.s rfl (g14) rfl (WL.s rfl (g14) rfl (WL.c rfl (o_pickT rfl (g14) (WL.c rfl (o_mvh vB (WL.s rfl (rfl) rfl (WL.s rfl (rfl) rfl (WL.c rfl (o_pickT rfl (rfl) (WL.c rfl (o_ash vB (WL.nil (W.ret (ret1v rfl vB ?_))))))))))))))
   exact ⟨congrArg Value.bool (by rw [Bool.eq_iff_iff]; simp_all [numOk]), rfl⟩
  skip
  refine WL.g rfl (g14) rfl (o_mvh vI (WL.g rfl (g14) rfl (o_eq rfl rfl (WL.c rfl (o_pickO rfl rfl (WL.c rfl (o_mvh vB (WL.sp 10 rfl (fun g18 => ?_) (fun g18 => ?_)))))))))
  ·skip
   refine WL.s rfl (g18) rfl (WL.s rfl (g18) rfl (WL.c rfl (o_pickT rfl (g18) (WL.c rfl (o_ash vB (WL.nil (W.ret (ret1v rfl vB ?_))))))))
   exact ⟨congrArg Value.bool (by rw [Bool.eq_iff_iff]; simp_all [numOk]), rfl⟩
  skip
  refine WL.g rfl (g18) rfl (o_mvh vI (WL.g rfl (g18) rfl (o_eq rfl rfl (WL.c rfl (o_pickO rfl rfl (WL.c rfl (o_ash vB (WL.nil (W.ret (ret1v rfl vB ?_))))))))))
  exact ⟨congrArg Value.bool (by rw [Bool.eq_iff_iff]; simp_all [numOk]), rfl⟩
 skip
 skip
 refine W.region (WL.c rfl (o_eq rfl rfl (WL.c rfl (o_ash vB (WL.nil (W.condF' rfl (decide_eq_false k1) (W.seq (W.seq (W.region (WL.c rfl (o_eq rfl rfl (WL.c rfl (o_ash vB (WL.nil (W.condT' rfl (decide_eq_true k4) (W.skip (W.condT' rfl (decide_eq_true k4) (W.seq (W.region (WL.c rfl (o_mvh vI (WL.c rfl (o_ge rfl rfl (WL.c rfl (o_mvh vB (WL.sp 2 rfl (fun g27 => ?_) (fun g27 => ?_)))))))))))))))))))))))))))
 ·skip
  refine WL.g rfl (g27) rfl (o_mvh vI (WL.g rfl (g27) rfl (o_le rfl rfl (WL.c rfl (o_pickA rfl rfl (WL.c rfl (o_ash vB (WL.nil (W.ret (ret1v rfl vB ?_))))))))))
  exact ⟨congrArg Value.bool (by rw [Bool.eq_iff_iff]; simp_all [numOk] <;> omega), rfl⟩
 skip
 refine WL.s rfl (g27) rfl (WL.s rfl (g27) rfl (WL.c rfl (o_pickF rfl (g27) (WL.c rfl (o_ash vB (WL.nil (W.ret (ret1v rfl vB ?_))))))))
 exact ⟨congrArg Value.bool (by rw [Bool.eq_iff_iff]; simp_all [numOk] <;> omega), rfl⟩
end Go.Proofs.Ytpbflfgigfdohaa

namespace Go.Proofs.Ytpbflfgigfdohaa
open Go Go.Vc Go.RowKit Go.Proofs

noncomputable def bldV (D : List Df) : Int × Int := (bldF D).getD (0, 0)
theorem bldV_of {D : List Df} {e a : Int} (h : bldF D = some (e, a)) : (bldV D).1 = e ∧ (bldV D).2 = a := by unfold bldV; rw [h]; exact ⟨rfl, rfl⟩
theorem bldV_no {D : List Df} (h : bldF D = none) : (bldV D).1 = 0 ∧ (bldV D).2 = 0 := by unfold bldV; rw [h]; exact ⟨rfl, rfl⟩
theorem bld_bad {D : List Df} {v : Int × Int} (h : bldF D = some v) : bldT D = [] ∧ bldR D = [] := by
 have hn : ¬ bldF D = none := by rw [h]; simp
 exact ⟨if_neg hn, if_neg hn⟩
theorem Schs.nil (w : World) (H : Nat) (U : Nat → Value) : Schs w H [] [] (.slice none 0 0) (.slice none 0 0) U := ⟨Typs.nil _ _ _, World.ownsRow_nil _ _ _ _⟩
theorem bnd_nz {D : List Df} {v : Int × Int} (h : bndF D = some v) : v.1 = 90 := by
 obtain ⟨i, hi, h1⟩ := firstN_some h
 obtain ⟨j, hj, h2⟩ := firstN_some h1
 unfold bndN at h2
 split at h2
 ·cases h2; rfl
 cases h2
theorem bndV_iff {D : List Df} : (bndV D).1 = 0 ↔ bndF D = none := by
 unfold bndV
 cases h : bndF D with
 | none => simp
 | some v =>
  have := bnd_nz h
  simp [this]
theorem bndV_some {D : List Df} (h : ¬ (bndV D).1 = 0) : bndF D = some ((bndV D).1, (bndV D).2) := by
 unfold bndV at h ⊢
 cases hb : bndF D with
 | none => rw [hb] at h; simp at h
 | some v => rfl
theorem bld_ck {D : List Df} (h : ¬ (chkS D).2.2 = 0) : bldF D = some (((chkS D).2.2 : Int), 0) := by unfold bldF; rw [if_neg h]
theorem bld_fA {D : List Df} (hc : (chkS D).2.2 = 0) {v : Int × Int} (h : fA D = some v) : bldF D = some v := by unfold bldF; rw [if_pos hc, h]; rfl
theorem bld_bnd {D : List Df} (hc : (chkS D).2.2 = 0) (hn : fA D = none) {v : Int × Int} (h : bndF D = some v) : bldF D = some v := by unfold bldF; rw [if_pos hc, hn, h]; rfl
theorem bfill {dv rv : Value} (h : rv.cells = #[rv]) : Instr.fill (([(0, 1), (1, 1), (2, 1), (3, 1)] : List (Nat × Nat)).toArray[·]?) (Value.agg #[.slice none 0 0, .slice none 0 0, .slice none 0 0, .slice none 0 0]).cells [(0, .agg #[dv]), (2, rv)] = some #[dv, .slice none 0 0, rv, .slice none 0 0] := by
 have h1 : (Value.agg #[dv]).cells = #[dv] := by simp [Value.cells]
 have hz : (Value.agg #[.slice none 0 0, .slice none 0 0, .slice none 0 0, .slice none 0 0]).cells = #[.slice none 0 0, .slice none 0 0, .slice none 0 0, .slice none 0 0] := by simp [Value.cells]
 rw [hz]
 simp [Instr.fill, h, h1]
theorem zvs_zero (n : Nat) : zvs n (fun _ => 0) = List.replicate n (.int .i64 0) := by
 unfold zvs
 rw [List.eq_replicate_iff]
 refine ⟨by simp, fun b hb => ?_⟩
 obtain ⟨j, -, rfl⟩ := List.mem_map.1 hb
 rfl
theorem zvs_set {n i : Nat} {v : Int} {f : Nat → Int} : (zvs n f).set i (.int .i64 v) = zvs n (upI f i v) := by
 apply List.ext_getElem?
 intro j
 rw [List.getElem?_set]
 by_cases hj : j < n
 ·rw [zvs_at hj, zvs_at hj]
  unfold upI
  by_cases e : i = j
  ·subst e
   rw [if_pos rfl, if_pos (by simpa [zvs] using hj), if_pos rfl]
  rw [if_neg e, if_neg (fun h => e h.symm)]
 have h1 : (zvs n f)[j]? = none := List.getElem?_eq_none (by simp [zvs]; omega)
 have h2 : (zvs n (upI f i v))[j]? = none := List.getElem?_eq_none (by simp [zvs]; omega)
 rw [h1, h2]
 by_cases e : i = j
 ·subst e
  rw [if_pos rfl, if_neg (by simpa [zvs] using hj)]
 rw [if_neg e]
theorem roV_all (r : Ro) : ∀ a ∈ roV r, a.oneCell' = true := by simp [roV, Value.oneCell', st]
theorem BS.rvc {wB w : World} {pb n rb rc : Nat} {dv rv : Value} {f : Nat → Int} {L : List Tp} {tv : Value} {U : Nat → Value} {lv : Value} {left : List Ex} (h : BS wB w pb dv rv n f L tv U lv left) (hr : rv = .slice (some ⟨rb, 0, none⟩) n rc) : w.cell? ⟨pb, 0 + 2, none⟩ = some (.slice (some ⟨rb, 0, none⟩) n rc) := by
 rw [← hr]; exact cell_of h.cell rfl
theorem rooN_at9 {D : List Df} {f : Nat → Int} {q : Nat} (hq : q < D.length) : (rooN D f)[q]? = some ⟨D[q].name, f q⟩ := by
 unfold rooN
 rw [List.getElem?_map, List.getElem?_range hq]
 simp [List.getD_eq_getElem?_getD, hq]
theorem rooN_take {D : List Df} {f : Nat → Int} {q : Nat} (hq : q < D.length) : (rooN D f).take (q + 1) = (rooN D f).take q ++ [⟨D[q].name, f q⟩] := by
 rw [List.take_add_one, rooN_at9 hq]; rfl
theorem fA_of_flt {D : List Df} {er at_ : Int} (h : flt D = (er, at_)) (he : ¬ er = 0) : fA D = some (er, at_) := by
 cases hf : fA D with
 | none => exact absurd hf (flt_bad h he)
 | some v => rw [flt_some hf] at h; rw [h]

set_option maxHeartbeats 8000000 in
theorem build_spec (D : List Df) (dv : Value) (V : Nat → Value) (w0 : World) (hD : DefR w0 D dv V) (hlim : DOk D) (hnb : ∀ d ∈ D, d.ty.length ≤ 11453246122) : Ca Try.prog 8 #[.agg #[dv]] w0 (fun v w' => ∃ tv rv U, v = .tuple #[.agg #[tv, rv], .agg #[.int .i64 (bldV D).1, .int .i64 (bldV D).2]] ∧ Schs w' w0.heap.size (bldT D) (bldR D) tv rv U ∧ Ext w0 w') := by
 have hlen := hlim.len
 have hD00 := hD
 obtain ⟨fe, fa, hf⟩ : ∃ fe fa, flt D = (fe, fa) := ⟨_, _, rfl⟩
 refine Ca.of Try.func8 Try.ntmps8 rfl rfl (W.seq (W.region (WL.c rfl (o_boxB rfl ?_))))
 intro w1 hC1 hx1 hs1
 obtain ⟨b1, hb1⟩ : ∃ b, b = w0.heap.size := ⟨_, rfl⟩
 rw [← hb1] at hC1 ⊢
 replace hC1 : w1.heap[b1]? = some (.cells ([dv]).toArray 25 (0, 0)) := hC1
 have hx := hx1
 replace hD := hD.ext hx1
 refine WL.c rfl (o_alB TI34 ?_)
 have hq2 := hx.size
 intro wb hC2 hxb hsb
 replace hx := hx.tr hxb
 replace hD := hD.ext hxb
 replace hC1 := hxb.blk hC1 (fun h => h)
 obtain ⟨c2, hc2⟩ : ∃ c, c = w1.heap.size := ⟨_, rfl⟩
 rw [← hc2] at hC2 ⊢
 replace hC2 : wb.heap[c2]? = some (.cells #[.slice none 0 0, .slice none 0 0] 34 (0, 0)) := hC2
 have hz2 : w0.heap.size ≤ c2 := by rw [hc2]; exact hq2
 clear hxb
 refine WL.c rfl (o_alB TI28 ?_)
 have hq3 := hx.size
 intro wc hC3 hxb hsb
 replace hx := hx.tr hxb
 replace hD := hD.ext hxb
 replace hC1 := hxb.blk hC1 (fun h => h)
 replace hC2 := hxb.blk hC2 (fun h => h)
 obtain ⟨c3, hc3⟩ : ∃ c, c = wb.heap.size := ⟨_, rfl⟩
 rw [← hc3] at hC3 ⊢
 replace hC3 : wc.heap[c3]? = some (.cells #[.int .i64 0, .int .i64 0] 28 (0, 0)) := hC3
 have hz3 : w0.heap.size ≤ c3 := by rw [hc3]; exact hq3
 clear hxb
 refine WL.nil (W.seq (W.seq (W.region (WL.c rfl (o_ldA TI25 rfl rfl (show Cells _ b1 0 [dv] from Cells.of hC1 0 _ (by simp)) rfl (WL.c rfl (o_call Try.call28 (lc rfl ln) ((check_spec D dv V _ hD hlim.lim).mono ?_))))))))
 rintro v17 w17 ⟨rfl, hx17⟩
 rw [show rs3 (chkS D) = .tuple #[.int .i64 ((chkS D).1 : Int), .int .i64 ((chkS D).2.1 : Int), .int .i64 ((chkS D).2.2 : Int)] from rfl]
 replace hx := hx.tr hx17
 replace hD := hD.ext hx17
 replace hC1 := hx17.blk hC1 (fun h => h)
 replace hC2 := hx17.blk hC2 (fun h => h)
 replace hC3 := hx17.blk hC3 (fun h => h)
 refine WL.c rfl (o_mvh (by first | exact (show _ = Value.tuple _ from rfl) | exact rfl) (WL.c rfl (o_ext rfl rfl (WL.c rfl (o_ext rfl rfl (WL.c rfl (o_ext rfl rfl (WL.c rfl (o_ash vI (WL.c rfl (o_ash vI (WL.c rfl (o_ash vI (WL.nil (W.seq (W.region (WL.c rfl (o_mvh vI (WL.c rfl (o_ne rfl rfl (WL.nil (W.cond rfl (fun c22 => ?_) (fun c22 => ?_)))))))))))))))))))))))
 ·try simp only [cs8] at c22
  have hck : ¬ (chkS D).2.2 = 0 := by intro h; simp [h] at c22
  have hb := bld_ck hck
  refine W.seq ?_
  skip
  skip
  refine W.region (WL.c rfl (o_bldC (cs := [(.slice none 0 0), (.slice none 0 0)]) TI34 (Sizes.cons TI31 (Sizes.cons TI32 Sizes.nil)) rfl lnp rfl rfl (WL.c rfl (o_mvh vI (WL.c rfl (o_bldC (cs := [_, (.int .i64 0)]) TI28 (Sizes.cons TI26 (Sizes.cons TI3 Sizes.nil)) rfl (lcp vI lnp) rfl rfl (WL.u (o_stA TI34 rfl (show _ = Value.agg #[.slice none 0 0, .slice none 0 0] from rfl) rfl rfl hC2 rfl ?_))))))))
  intro wy hC2y hoy hsy
  replace hC3 := hoy.blk hC3 (blk_ne3 hC3 hC2 (by decide))
  replace hx := hx.trans' hoy (fun _ h => h) (fun b hb he => by omega)
  refine WL.u (o_stA TI28 rfl (show _ = Value.agg #[.int .i64 ((chkS D).2.2 : Int), .int .i64 0] from rfl) rfl rfl hC3 rfl ?_)
  intro wz hC3z hoz hsz
  replace hC2y := hoz.blk hC2y (blk_ne3 hC2y hC3 (by decide))
  replace hx := hx.trans' hoz (fun _ h => h) (fun b hb he => by omega)
  refine WL.nil (W.ret (retAA rfl TI34 rfl TI28 rfl rfl rfl (show Cells _ c2 0 [.slice none 0 0, .slice none 0 0] from Cells.of hC2y 0 _ (by simp)) rfl (show Cells _ c3 0 [.int .i64 ((chkS D).2.2 : Int), .int .i64 0] from Cells.of hC3z 0 _ (by simp)) rfl ?_))
  obtain ⟨hv1, hv2⟩ := bldV_of hb
  refine ⟨.slice none 0 0, .slice none 0 0, fun _ => undef, by rw [hv1, hv2], ?_, hx⟩
  rw [(bld_bad hb).1, (bld_bad hb).2]
  exact Schs.nil _ _ _
 try simp only [cs8] at c22
 have hck : (chkS D).2.2 = 0 := by
  have h1 : ((chkS D).2.2 : Int) = 0 := by simpa using c22
  omega
 refine W.skip (W.seq (W.region (WL.c rfl (o_ldA TI25 rfl rfl (show Cells _ b1 0 [dv] from Cells.of hC1 0 _ (by simp)) rfl (WL.c rfl (o_call Try.call29 (lc rfl ln) ((order_call D dv V _ hD hlim hf).mono ?_)))))))
 rintro v28 w28 ⟨o1, rfl, ho1, hx28⟩
 replace ho1 := own_mono ho1 hx.size
 replace hx := hx.tr hx28
 replace hD := hD.ext hx28
 replace hC1 := hx28.blk hC1 (fun h => h)
 replace hC2 := hx28.blk hC2 (fun h => h)
 replace hC3 := hx28.blk hC3 (fun h => h)
 have hz28 := hx.size
 have hl3 := blk_lt3 hC3
 refine WL.c rfl (o_mvh (by first | exact (show _ = Value.tuple _ from rfl) | exact rfl) (WL.c rfl (o_ext rfl rfl (WL.c rfl (o_ext rfl rfl (WL.c rfl (o_alB TI28 ?_)))))))
 intro wa hCa hxa hsa
 refine WL.c rfl (o_ash (by first | exact vS | exact rfl) (WL.u (o_stA TI28 rfl (show _ = Value.agg ([.int .i64 fe, .int .i64 fa]).toArray from rfl) rfl rfl hCa rfl ?_)))
 intro wb8 hC8 hob hsb
 have hxb := Ext.own hxa (Nat.le_refl _) hob
 obtain ⟨b8, hb8⟩ : ∃ b, b = w28.heap.size := ⟨_, rfl⟩
 rw [← hb8] at hC8 ⊢
 clear hCa hxa hsa hob hsb
 replace hx := hx.tr hxb
 replace hD := hD.ext hxb
 replace hC1 := hxb.blk hC1 (fun h => h)
 replace hC2 := hxb.blk hC2 (fun h => h)
 replace hC3 := hxb.blk hC3 (fun h => h)
 replace ho1 := own_ext ho1 hxb
 have hz8 : w0.heap.size ≤ b8 := by rw [hb8]; exact hz28
 have hc38 : ¬ c3 = b8 := by rw [hb8]; omega
 clear hxb
 refine WL.nil (W.seq (W.seq ?_))
 by_cases hfe : fe = 0
 ·skip
  have hfn : fA D = none := flt_good hf hfe
  have hG := good_of hfn
  refine W.region (WL.c rfl (o_fa 0 TI28 rfl TI26 rfl rfl (WL.c rfl (o_ld TI26 rfl rfl (cell_of hC8 rfl) (WL.c rfl (o_eq rfl rfl (WL.nil (W.condT' rfl (by simp [hfe]) ?_))))))))
  skip
  skip
  refine W.region (WL.c rfl (o_ldA TI25 rfl rfl (show Cells _ b1 0 [dv] from Cells.of hC1 0 _ (by simp)) rfl (WL.c rfl (o_call Try.call30 (lc rfl ln) ((bounds_spec D dv V _ hD hlim).mono ?_)))))
  rintro v35 w35 ⟨rfl, hx35⟩
  replace hx := hx.tr hx35
  replace hD := hD.ext hx35
  replace hC1 := hx35.blk hC1 (fun h => h)
  replace hC2 := hx35.blk hC2 (fun h => h)
  replace hC3 := hx35.blk hC3 (fun h => h)
  replace hC8 := hx35.blk hC8 (fun h => h)
  replace ho1 := own_ext ho1 hx35
  refine WL.u (o_stA TI28 rfl (show _ = Value.agg #[.int .i64 (bndV D).1, .int .i64 (bndV D).2] from rfl) rfl rfl hC8 rfl ?_)
  intro w8n hC8n ho8n hs8n
  replace hC1 := ho8n.blk hC1 (blk_ne3 hC1 hC8 (by decide))
  replace hC2 := ho8n.blk hC2 (blk_ne3 hC2 hC8 (by decide))
  replace hC3 := ho8n.blk hC3 hc38
  replace ho1 := own_only ho1 ho8n (fun k hk e => own_off ho1 hC8 (by decide) (e ▸ hk))
  replace hx := hx.trans' ho8n (fun _ h => h) (fun b hb he => by omega)
  replace hD := hD00.ext hx
  obtain ⟨ge, hge⟩ : ∃ x, x = (bndV D).1 := ⟨_, rfl⟩
  obtain ⟨ga, hga⟩ : ∃ x, x = (bndV D).2 := ⟨_, rfl⟩
  replace hC8 : w8n.heap[b8]? = some (.cells #[.int .i64 ge, .int .i64 ga] 28 (0, 0)) := by rw [hge, hga]; exact hC8n
  refine WL.nil (W.seq (W.seq (W.region (WL.c rfl (o_fa 0 TI28 rfl TI26 rfl rfl (WL.c rfl (o_ld TI26 rfl rfl (cell_of hC8 rfl) (WL.c rfl (o_ne rfl rfl (WL.nil (W.cond rfl (fun c38 => ?_) (fun c38 => ?_))))))))))))
  ·try simp only [cs8] at c38
   have hne : ¬ ge = 0 := by simpa using c38
   rw [hge] at hne
   have hb : bldF D = some (ge, ga) := by rw [hge, hga]; exact bld_bnd hck hfn (bndV_some hne)
   refine W.seq ?_
   skip
   skip
   refine W.cut (fun e1 w1 => e1 2 = .pointer (some ⟨c2, 0, none⟩) ∧ e1 3 = .pointer (some ⟨c3, 0, none⟩) ∧ w1.heap[c2]? = some (.cells #[.slice none 0 0, .slice none 0 0] 34 (0, 0)) ∧ w1.heap[c3]? = some (.cells #[.int .i64 ge, .int .i64 ga] 28 (0, 0)) ∧ Ext w0 w1) ?_ ?_
   ·-- region 8
    refine W.enum rfl ?_
    have hd := Only.drew w8n
    replace hC2 := hd.blk hC2 (fun h => h)
    replace hC3 := hd.blk hC3 (fun h => h)
    replace hC8 := hd.blk hC8 (fun h => h)
    replace hx := hx.tr hd
    clear hd
    generalize w8n.drew = wd at *
    refine WA.step (r := [0, 1]) (by kernel_rfl) (by decide) (all2 ?_ ?_)
    ·skip
     refine WO.c rfl rfl (o_bldC (cs := [(.slice none 0 0), (.slice none 0 0)]) TI34 (Sizes.cons TI31 (Sizes.cons TI32 Sizes.nil)) rfl lnp rfl rfl (WA.step (r := [1, 2]) (by kernel_rfl) (by decide) (all2 ?_ ?_)))
     ·skip
      refine WO.c rfl rfl (o_ldA TI28 rfl rfl (show Cells _ b8 0 [.int .i64 ge, .int .i64 ga] from Cells.of hC8 0 _ (by simp)) rfl (WA.step (r := [2]) (by kernel_rfl) (by decide) (all1 (WO.u rfl (o_stA TI34 rfl (show _ = Value.agg #[.slice none 0 0, .slice none 0 0] from rfl) rfl rfl hC2 rfl ?_)))))
      intro wy hC2y hoy hsy
      replace hC3 := hoy.blk hC3 (blk_ne3 hC3 hC2 (by decide))
      replace hC8 := hoy.blk hC8 (blk_ne3 hC8 hC2 (by decide))
      replace hx := hx.trans' hoy (fun _ h => h) (fun b hb he => by omega)
      replace hC2 : wy.heap[c2]? = some (.cells #[.slice none 0 0, .slice none 0 0] 34 (0, 0)) := hC2y
      refine WA.step (r := [3]) (by kernel_rfl) (by decide) (all1 (WO.u rfl (o_stA TI28 rfl (show _ = Value.agg #[.int .i64 ge, .int .i64 ga] from rfl) rfl rfl hC3 rfl ?_)))
      intro wz hC3z hoz hsz
      replace hC2 := hoz.blk hC2 (blk_ne3 hC2 hC3 (by decide))
      replace hx := hx.trans' hoz (fun _ h => h) (fun b hb he => by omega)
      replace hC3 : wz.heap[c3]? = some (.cells #[.int .i64 ge, .int .i64 ga] 28 (0, 0)) := hC3z
      refine WA.done (by kernel_rfl) ?_
      exact ⟨rfl, rfl, hC2, hC3, hx⟩
     skip
     refine WO.u rfl (o_stA TI34 rfl (show _ = Value.agg #[.slice none 0 0, .slice none 0 0] from rfl) rfl rfl hC2 rfl ?_)
     intro wy hC2y hoy hsy
     replace hC3 := hoy.blk hC3 (blk_ne3 hC3 hC2 (by decide))
     replace hC8 := hoy.blk hC8 (blk_ne3 hC8 hC2 (by decide))
     replace hx := hx.trans' hoy (fun _ h => h) (fun b hb he => by omega)
     replace hC2 : wy.heap[c2]? = some (.cells #[.slice none 0 0, .slice none 0 0] 34 (0, 0)) := hC2y
     refine WA.step (r := [1]) (by kernel_rfl) (by decide) (all1 (WO.c rfl rfl (o_ldA TI28 rfl rfl (show Cells _ b8 0 [.int .i64 ge, .int .i64 ga] from Cells.of hC8 0 _ (by simp)) rfl (WA.step (r := [3]) (by kernel_rfl) (by decide) (all1 (WO.u rfl (o_stA TI28 rfl (show _ = Value.agg #[.int .i64 ge, .int .i64 ga] from rfl) rfl rfl hC3 rfl ?_)))))))
     intro wz hC3z hoz hsz
     replace hC2 := hoz.blk hC2 (blk_ne3 hC2 hC3 (by decide))
     replace hx := hx.trans' hoz (fun _ h => h) (fun b hb he => by omega)
     replace hC3 : wz.heap[c3]? = some (.cells #[.int .i64 ge, .int .i64 ga] 28 (0, 0)) := hC3z
     refine WA.done (by kernel_rfl) ?_
     exact ⟨rfl, rfl, hC2, hC3, hx⟩
    skip
    refine WO.c rfl rfl (o_ldA TI28 rfl rfl (show Cells _ b8 0 [.int .i64 ge, .int .i64 ga] from Cells.of hC8 0 _ (by simp)) rfl (WA.step (r := [0]) (by kernel_rfl) (by decide) (all1 (WO.c rfl rfl (o_bldC (cs := [(.slice none 0 0), (.slice none 0 0)]) TI34 (Sizes.cons TI31 (Sizes.cons TI32 Sizes.nil)) rfl lnp rfl rfl (WA.step (r := [2]) (by kernel_rfl) (by decide) (all1 (WO.u rfl (o_stA TI34 rfl (show _ = Value.agg #[.slice none 0 0, .slice none 0 0] from rfl) rfl rfl hC2 rfl ?_)))))))))
    intro wy hC2y hoy hsy
    replace hC3 := hoy.blk hC3 (blk_ne3 hC3 hC2 (by decide))
    replace hC8 := hoy.blk hC8 (blk_ne3 hC8 hC2 (by decide))
    replace hx := hx.trans' hoy (fun _ h => h) (fun b hb he => by omega)
    replace hC2 : wy.heap[c2]? = some (.cells #[.slice none 0 0, .slice none 0 0] 34 (0, 0)) := hC2y
    refine WA.step (r := [3]) (by kernel_rfl) (by decide) (all1 (WO.u rfl (o_stA TI28 rfl (show _ = Value.agg #[.int .i64 ge, .int .i64 ga] from rfl) rfl rfl hC3 rfl ?_)))
    intro wz hC3z hoz hsz
    replace hC2 := hoz.blk hC2 (blk_ne3 hC2 hC3 (by decide))
    replace hx := hx.trans' hoz (fun _ h => h) (fun b hb he => by omega)
    replace hC3 : wz.heap[c3]? = some (.cells #[.int .i64 ge, .int .i64 ga] 28 (0, 0)) := hC3z
    refine WA.done (by kernel_rfl) ?_
    exact ⟨rfl, rfl, hC2, hC3, hx⟩
   rintro e w ⟨h2, h3, hC2y, hC3z, hx⟩
   refine W.ret (retAA rfl TI34 rfl TI28 rfl h2 h3 (show Cells _ c2 0 [.slice none 0 0, .slice none 0 0] from Cells.of hC2y 0 _ (by simp)) rfl (show Cells _ c3 0 [.int .i64 ge, .int .i64 ga] from Cells.of hC3z 0 _ (by simp)) rfl ?_)
   obtain ⟨hv1, hv2⟩ := bldV_of hb
   refine ⟨.slice none 0 0, .slice none 0 0, fun _ => undef, by rw [hv1, hv2], ?_, hx⟩
   rw [(bld_bad hb).1, (bld_bad hb).2]
   exact Schs.nil _ _ _
  try simp only [cs8] at c38
  have hbn : bndF D = none := bndV_iff.1 (by rw [← hge]; simpa using c38)
  refine W.skip (W.seq ?_)
  obtain ⟨wd, hwd⟩ : ∃ wd, wd = w8n.drew := ⟨_, rfl⟩
  have hxd : Ext w8n wd := hwd ▸ Only.drew w8n
  replace hx := hx.tr hxd
  replace hD := hD.ext hxd
  replace hC1 := hxd.blk hC1 (fun h => h)
  replace hC2 := hxd.blk hC2 (fun h => h)
  replace hC3 := hxd.blk hC3 (fun h => h)
  replace ho1 := own_ext ho1 hxd
  rw [ordR_ok hfn] at ho1
  have h256 := hG.trd.n
  obtain ⟨hto, htl⟩ := hG.ord
  have hbl : bldF D = none := bldF_none.2 ⟨hck, hfn, hbn⟩
  have hzd : w0.heap.size ≤ wd.heap.size := hx.size
  have ho1l : ∀ k, o1.ownBlock = some k → k < wd.heap.size := fun k hk => (ho1.lt k hk).2
  refine W.drawT 5 (Ext) [(1, fun v _ => v = _), (2, fun v _ => v = _), (3, fun v _ => v = _), (7, fun v _ => v = (o1))] rfl (by kernel_rfl) (Only.refl No) (fun _ _ _ h k => h.trans k) ⟨Mono.eq, Mono.eq, Mono.eq, Mono.eq, trivial⟩ ⟨rfl, rfl, rfl, rfl, trivial⟩ (WD.p rfl (fun e w hR hh => by obtain ⟨h1, -⟩ := hh; rw [← hwd] at hR; exact SG.n (o_ldA TI25 rfl h1 (show Cells _ b1 0 [dv] from Cells.of (hR.blk hC1 (fun h => h)) 0 _ (by simp)) rfl ⟨rfl, Only.refl No _⟩)) (WD.p rfl (fun e w hR hh => by obtain ⟨h1, -⟩ := hh; exact SG.n (o_fa 0 TI25 rfl TI23 rfl h1 ⟨rfl, Only.refl No _⟩)) (WD.p rfl (fun e w hR hh => by obtain ⟨h42, -⟩ := hh; rw [← hwd] at hR; exact SG.n (o_ld TI23 rfl h42 (cell_of (hR.blk hC1 (fun h => h)) rfl) ⟨rfl, Only.refl No _⟩)) (WD.p rfl (fun e w hR hh => by obtain ⟨h43, -⟩ := hh; rw [← hwd] at hR; exact SG.n (o_lenR TI23 h43 (hD.ext hR).row ⟨rfl, Only.refl No _⟩)) (WD.q (fun v w => w.ownsRow wd.heap.size 3 1 v D.length (zvs D.length (fun _ => 0))) (fun v w w2 hR hh => own_ext hh hR) rfl (fun e w hR hh => by obtain ⟨h44, -⟩ := hh; rw [← hwd] at hR; exact SG.n (o_mk2 TI79 TI3 (l := D.length) (n := D.length) h44 h44 (Nat.le_refl _) (by omega) (by omega) ⟨by rw [zvs_zero]; exact own_mono (own_made1 rfl (Nat.le_refl _) (by omega)) hR.size, Only.alloc w _⟩)) ?_)))))
  rintro e w hR ⟨h45, h44, h43, h42, h41, h1, h2, h3, h7, -⟩
  rw [← hwd] at hR
  replace hx := hx.tr hR
  replace hD := hD.ext hR
  replace hC1 := hR.blk hC1 (fun h => h)
  replace hC2 := hR.blk hC2 (fun h => h)
  replace hC3 := hR.blk hC3 (fun h => h)
  replace ho1 := own_ext ho1 hR
  obtain ⟨rv, hrv⟩ : ∃ v, v = e 45 := ⟨_, rfl⟩
  rw [← hrv] at h45
  have hrvl : ∀ k, rv.ownBlock = some k → wd.heap.size ≤ k := fun k hk => (h45.lt k hk).1
  have hq47 := hx.size
  refine WL.c rfl (o_bld (cells := #[dv, .slice none 0 0, rv, .slice none 0 0]) (vs := [(0, .agg #[dv]), (2, rv)]) TI85 (Sizes.cons TI25 (Sizes.cons TI31 (Sizes.cons TI79 (Sizes.cons TI37 Sizes.nil)))) (lcp h41 (lcp hrv.symm lnp)) (bfill (own_cells h45)) (WL.c rfl (o_boxB rfl ?_)))
  intro w47 hC47 hx47 hs47
  obtain ⟨b47, hb47⟩ : ∃ b, b = w.heap.size := ⟨_, rfl⟩
  rw [← hb47] at hC47 ⊢
  replace hC47 : w47.heap[b47]? = some (.cells ([dv, .slice none 0 0, rv, .slice none 0 0]).toArray 85 (0, 0)) := hC47
  replace hx := hx.tr hx47
  replace hD := hD.ext hx47
  replace hC1 := hx47.blk hC1 (fun h => h)
  replace hC2 := hx47.blk hC2 (fun h => h)
  replace hC3 := hx47.blk hC3 (fun h => h)
  replace ho1 := own_ext ho1 hx47
  replace h45 := own_ext h45 hx47
  have hz47 : w0.heap.size ≤ b47 := by rw [hb47]; exact hq47
  refine WL.c rfl (o_ash (by first | exact (show _ = Value.pointer _ from rfl) | exact rfl) (WL.nil (W.seq (W.seq (W.region (WL.c rfl (o_mvh h7 (WL.c rfl (o_lenR TI79 rfl (Sl.own ho1) (WL.c rfl (o_mvh vI (WL.nil (W.block (W.loop (fun e w => ∃ (k : Nat) (tv : Value) (U : Nat → Value) (lv : Value) (left : List Ex), k ≤ (ordN D).length ∧ e 1 = .pointer (some ⟨b1, 0, none⟩) ∧ e 2 = .pointer (some ⟨c2, 0, none⟩) ∧ e 3 = .pointer (some ⟨c3, 0, none⟩) ∧ e 9 = .pointer (some ⟨b47, 0, none⟩) ∧ e 48 = o1 ∧ e 49 = .int .i64 ((ordN D).length : Int) ∧ e 50 = .int .i64 (k : Int) ∧ BS w0 w b47 dv rv D.length (mkS D k).1 (mkS D k).2 tv U lv left ∧ w.ownsRow w0.heap.size 3 1 o1 (ordN D).length ((ordN D).map iv) ∧ w.heap[b1]? = some (.cells #[dv] 25 (0, 0)) ∧ w.heap[c2]? = some (.cells #[.slice none 0 0, .slice none 0 0] 34 (0, 0)) ∧ w.heap[c3]? = some (.cells #[.int .i64 0, .int .i64 0] 28 (0, 0)) ∧ (mkS D k).2.length ≤ k * 11453246122) (fun e w => (ordN D).length - (intOf (e 50)).toNat) ?_ ?_))))))))))))))
  ·exact ⟨0, .slice none 0 0, fun _ => undef, .slice none 0 0, [], Nat.zero_le _, h1, h2, h3, rfl, rfl, rfl, rfl, ⟨hC47, Typs.nil _ _ _, own_mono h45 hzd, Sl.nil _ _, hx, hz47⟩, ho1, hC1, hC2, hC3, Nat.zero_le _⟩
  rintro e w ⟨k, tv, U, lv, left, hk, h1, h2, h3, h9, h48, h49, h50, hS, ho1, hC1, hC2, hC3, hln⟩
  have hm50 := h50
  refine W.seq (W.region (WL.c rfl (o_lt h50 h49 (WL.nil (W.seq (W.cond rfl (fun c51 => ?_) (fun c51 => ?_)))))))
  ·try simp only [cs8] at c51
   have hk1 : k < (ordN D).length := by omega
   have hi : (ordN D)[k] < D.length := hto.lt _ (List.getElem_mem hk1)
   obtain ⟨ub, uo, uc, hV, hcell⟩ := Sl.at1 (Sl.own ho1) hk1 (u := iv (ordN D)[k]) (by rw [List.getElem?_map, List.getElem?_eq_getElem hk1]; rfl)
   rw [hV] at h48
   obtain ⟨i, hie⟩ : ∃ i, i = (ordN D)[k] := ⟨_, rfl⟩
   rw [← hie] at hi hcell
   have hDk := hD00.ext hS.ex
   obtain ⟨gb, go, gc, hdv, hgc, hty⟩ := hDk.atk hi
   have hC1s := hC1
   rw [hdv] at hC1s
   have hlf : Sl w0 7 (V i) ((TD D i).flat ++ []).length (exs ((TD D i).flat ++ [])) := by rw [List.append_nil, hG.trd.fl i hi]; exact hD00.tys i hi
   refine W.skip (W.seq (W.block (W.seq (W.region (WL.c rfl (o_ixB (i := k) TI79 TI3 h48 h50 (by omega) (WL.c rfl (o_ld TI3 rfl rfl (show World.cell? _ _ = some (.int .i64 (i : Int)) from hcell) (WL.c rfl (o_ash vI (WL.nil (W.seq ?_))))))))))))
   have hScell := hS.cell
   have hSoff : ∀ {c : Nat} {cs : Array Value} {T : TypeId} {fr : Nat × Nat}, w.heap[c]? = some (.cells cs T fr) → ¬ T = 85 → ¬ c = b47 := fun hc hT => blk_ne3 hc hScell hT
   refine W.region (WL.c rfl (o_mvh h9 (WL.c rfl (o_fa 0 TI25 rfl TI23 rfl h1 (WL.c rfl (o_ld TI23 rfl rfl (cell_of hC1s rfl) (WL.c rfl (o_mvh vI (WL.c rfl (o_ixB (i := i) TI23 TI39 (show _ = Value.slice (some ⟨gb, go, none⟩) D.length gc from rfl) (show _ = Value.int .i64 (i : Int) from rfl) (by omega) (WL.c rfl (o_fa 2 TI39 rfl TI37 rfl rfl (WL.c rfl (o_ld TI37 rfl rfl (hgc 2 _ rfl) (WL.c rfl (o_nil rfl (WL.c rfl (o_fa 3 TI85 rfl TI37 rfl rfl (WL.u (o_stB TI37 rfl (show _ = V i from rfl) (sl_one1 hty) hS.cell (show 3 < 4 by decide) ?_))))))))))))))))))))
   intro w62 hB62 ho62 hs62
   replace hS := hS.left hB62 ho62 hlf
   replace ho1 := own_only ho1 ho62 (fun k hk e => by subst e; exact own_off ho1 hScell (by decide) hk)
   replace hC1 := ho62.blk hC1 (fun e => (hSoff hC1 (by decide) e).elim)
   replace hC2 := ho62.blk hC2 (fun e => (hSoff hC2 (by decide) e).elim)
   replace hC3 := ho62.blk hC3 (fun e => (hSoff hC3 (by decide) e).elim)
   refine WL.nil ?_
   obtain ⟨wq, hwq⟩ : ∃ wq, wq = w62.drew := ⟨_, rfl⟩
   have hxq : Ext w62 wq := hwq ▸ Only.drew w62
   replace hS := hS.ext hxq
   replace ho1 := own_ext ho1 hxq
   replace hC1 := hxq.blk hC1 (fun h => h)
   replace hC2 := hxq.blk hC2 (fun h => h)
   replace hC3 := hxq.blk hC3 (fun h => h)
   have hwf := hG.trd.wf i hi
   have hfl := hG.trd.fl i hi
   rw [tyD_at hi] at hfl
   have hflen : (TD D i).flat.length ≤ 11453246122 := by rw [hfl]; exact hnb _ (List.getElem_mem hi)
   obtain ⟨r, hr⟩ : ∃ r, r = mkT (fun nm => (mkS D k).1 (whD D nm)) (TD D i) (mkS D k).2 := ⟨_, rfl⟩
   have hcall := fun w9 (hR : Ext wq w9) => bexpr_all w0 b47 D dv rv V (mkS D k).1 2932031007402 hD00 hlen (Nat.le_refl _) _ (TD D i) (Nat.le_refl _) [] (mkS D k).2 tv U (V i) 0 0 w9 hwf (hS.ext hR) (fun x hx h9 => hG.kn _ (List.getElem_mem hi) x (by rw [← hfl]; exact hx) h9) (fun x hx => hlim.ex _ (List.getElem_mem hi) x (by rw [← hfl]; exact hx)) (by have := h256; omega) (by rw [List.append_nil, hfl]; exact hlim.ty _ (List.getElem_mem hi))
   rw [← hr] at hcall
   have hrl : r.2.length ≤ (mkS D k).2.length + (TD D i).flat.length := by
    obtain ⟨M, hM, hMl⟩ := mkT_pre (fun nm => (mkS D k).1 (whD D nm)) (TD D i) (mkS D k).2 (wf_leafy _ _ _ hwf)
    have hcn : cntN (TD D i).flat ≤ (TD D i).flat.length := List.length_filter_le _ _
    rw [hr, hM, List.length_append]; omega
   obtain ⟨rb, rc, hrvE, hrvb⟩ := own_some hS.ro (by omega)
   refine W.states (fun kS e w => match kS with | 0 => e 1 = (.pointer (some ⟨b1, 0, none⟩)) ∧ e 2 = (.pointer (some ⟨c2, 0, none⟩)) ∧ e 3 = (.pointer (some ⟨c3, 0, none⟩)) ∧ e 9 = (.pointer (some ⟨b47, 0, none⟩)) ∧ e 11 = (.int .i64 (i : Int)) ∧ e 48 = (.slice (some ⟨ub, uo, none⟩) (ordN D).length uc) ∧ e 49 = (.int .i64 ((ordN D).length : Int)) ∧ e 50 = (.int .i64 (k : Int)) ∧ Ext wq w | 1 => e 1 = (.pointer (some ⟨b1, 0, none⟩)) ∧ e 2 = (.pointer (some ⟨c2, 0, none⟩)) ∧ e 3 = (.pointer (some ⟨c3, 0, none⟩)) ∧ e 9 = (.pointer (some ⟨b47, 0, none⟩)) ∧ e 11 = (.int .i64 (i : Int)) ∧ e 48 = (.slice (some ⟨ub, uo, none⟩) (ordN D).length uc) ∧ e 49 = (.int .i64 ((ordN D).length : Int)) ∧ e 50 = (.int .i64 (k : Int)) ∧ e 63 = (.pointer (some ⟨b47, 0, none⟩)) ∧ Ext wq w | 2 => e 1 = (.pointer (some ⟨b1, 0, none⟩)) ∧ e 2 = (.pointer (some ⟨c2, 0, none⟩)) ∧ e 3 = (.pointer (some ⟨c3, 0, none⟩)) ∧ e 9 = (.pointer (some ⟨b47, 0, none⟩)) ∧ e 11 = (.int .i64 (i : Int)) ∧ e 48 = (.slice (some ⟨ub, uo, none⟩) (ordN D).length uc) ∧ e 49 = (.int .i64 ((ordN D).length : Int)) ∧ e 50 = (.int .i64 (k : Int)) ∧ e 67 = (.int .i64 (i : Int)) ∧ Ext wq w | 3 => e 1 = (.pointer (some ⟨b1, 0, none⟩)) ∧ e 2 = (.pointer (some ⟨c2, 0, none⟩)) ∧ e 3 = (.pointer (some ⟨c3, 0, none⟩)) ∧ e 9 = (.pointer (some ⟨b47, 0, none⟩)) ∧ e 11 = (.int .i64 (i : Int)) ∧ e 48 = (.slice (some ⟨ub, uo, none⟩) (ordN D).length uc) ∧ e 49 = (.int .i64 ((ordN D).length : Int)) ∧ e 50 = (.int .i64 (k : Int)) ∧ e 68 = (.pointer (some ⟨b47, 0, none⟩)) ∧ Ext wq w | 4 => e 1 = (.pointer (some ⟨b1, 0, none⟩)) ∧ e 2 = (.pointer (some ⟨c2, 0, none⟩)) ∧ e 3 = (.pointer (some ⟨c3, 0, none⟩)) ∧ e 9 = (.pointer (some ⟨b47, 0, none⟩)) ∧ e 11 = (.int .i64 (i : Int)) ∧ e 48 = (.slice (some ⟨ub, uo, none⟩) (ordN D).length uc) ∧ e 49 = (.int .i64 ((ordN D).length : Int)) ∧ e 50 = (.int .i64 (k : Int)) ∧ e 63 = (.pointer (some ⟨b47, 0, none⟩)) ∧ e 64 = (.pointer (some ⟨b47, 0, none⟩)) ∧ Ext wq w | 5 => e 1 = (.pointer (some ⟨b1, 0, none⟩)) ∧ e 2 = (.pointer (some ⟨c2, 0, none⟩)) ∧ e 3 = (.pointer (some ⟨c3, 0, none⟩)) ∧ e 9 = (.pointer (some ⟨b47, 0, none⟩)) ∧ e 11 = (.int .i64 (i : Int)) ∧ e 48 = (.slice (some ⟨ub, uo, none⟩) (ordN D).length uc) ∧ e 49 = (.int .i64 ((ordN D).length : Int)) ∧ e 50 = (.int .i64 (k : Int)) ∧ e 63 = (.pointer (some ⟨b47, 0, none⟩)) ∧ e 67 = (.int .i64 (i : Int)) ∧ Ext wq w | 6 => e 1 = (.pointer (some ⟨b1, 0, none⟩)) ∧ e 2 = (.pointer (some ⟨c2, 0, none⟩)) ∧ e 3 = (.pointer (some ⟨c3, 0, none⟩)) ∧ e 9 = (.pointer (some ⟨b47, 0, none⟩)) ∧ e 11 = (.int .i64 (i : Int)) ∧ e 48 = (.slice (some ⟨ub, uo, none⟩) (ordN D).length uc) ∧ e 49 = (.int .i64 ((ordN D).length : Int)) ∧ e 50 = (.int .i64 (k : Int)) ∧ e 63 = (.pointer (some ⟨b47, 0, none⟩)) ∧ e 68 = (.pointer (some ⟨b47, 0, none⟩)) ∧ Ext wq w | 7 => e 1 = (.pointer (some ⟨b1, 0, none⟩)) ∧ e 2 = (.pointer (some ⟨c2, 0, none⟩)) ∧ e 3 = (.pointer (some ⟨c3, 0, none⟩)) ∧ e 9 = (.pointer (some ⟨b47, 0, none⟩)) ∧ e 11 = (.int .i64 (i : Int)) ∧ e 48 = (.slice (some ⟨ub, uo, none⟩) (ordN D).length uc) ∧ e 49 = (.int .i64 ((ordN D).length : Int)) ∧ e 50 = (.int .i64 (k : Int)) ∧ e 67 = (.int .i64 (i : Int)) ∧ e 68 = (.pointer (some ⟨b47, 0, none⟩)) ∧ Ext wq w | 8 => e 1 = (.pointer (some ⟨b1, 0, none⟩)) ∧ e 2 = (.pointer (some ⟨c2, 0, none⟩)) ∧ e 3 = (.pointer (some ⟨c3, 0, none⟩)) ∧ e 9 = (.pointer (some ⟨b47, 0, none⟩)) ∧ e 11 = (.int .i64 (i : Int)) ∧ e 48 = (.slice (some ⟨ub, uo, none⟩) (ordN D).length uc) ∧ e 49 = (.int .i64 ((ordN D).length : Int)) ∧ e 50 = (.int .i64 (k : Int)) ∧ e 68 = (.pointer (some ⟨b47, 0, none⟩)) ∧ e 69 = (.int .i64 r.1) ∧ (∃ tv' U' lv', BS w0 w b47 dv rv D.length (mkS D k).1 r.2 tv' U' lv' [] ∧ w.ownsRow w0.heap.size 3 1 o1 (ordN D).length ((ordN D).map iv) ∧ w.heap[b1]? = some (.cells #[dv] 25 (0, 0)) ∧ w.heap[c2]? = some (.cells #[.slice none 0 0, .slice none 0 0] 34 (0, 0)) ∧ w.heap[c3]? = some (.cells #[.int .i64 0, .int .i64 0] 28 (0, 0))) | 9 => e 1 = (.pointer (some ⟨b1, 0, none⟩)) ∧ e 2 = (.pointer (some ⟨c2, 0, none⟩)) ∧ e 3 = (.pointer (some ⟨c3, 0, none⟩)) ∧ e 9 = (.pointer (some ⟨b47, 0, none⟩)) ∧ e 11 = (.int .i64 (i : Int)) ∧ e 48 = (.slice (some ⟨ub, uo, none⟩) (ordN D).length uc) ∧ e 49 = (.int .i64 ((ordN D).length : Int)) ∧ e 50 = (.int .i64 (k : Int)) ∧ e 63 = (.pointer (some ⟨b47, 0, none⟩)) ∧ e 64 = (.pointer (some ⟨b47, 0, none⟩)) ∧ e 65 = (.pointer (some ⟨b47, 0 + 2, none⟩)) ∧ Ext wq w | 10 => e 1 = (.pointer (some ⟨b1, 0, none⟩)) ∧ e 2 = (.pointer (some ⟨c2, 0, none⟩)) ∧ e 3 = (.pointer (some ⟨c3, 0, none⟩)) ∧ e 9 = (.pointer (some ⟨b47, 0, none⟩)) ∧ e 11 = (.int .i64 (i : Int)) ∧ e 48 = (.slice (some ⟨ub, uo, none⟩) (ordN D).length uc) ∧ e 49 = (.int .i64 ((ordN D).length : Int)) ∧ e 50 = (.int .i64 (k : Int)) ∧ e 63 = (.pointer (some ⟨b47, 0, none⟩)) ∧ e 64 = (.pointer (some ⟨b47, 0, none⟩)) ∧ e 67 = (.int .i64 (i : Int)) ∧ Ext wq w | 11 => e 1 = (.pointer (some ⟨b1, 0, none⟩)) ∧ e 2 = (.pointer (some ⟨c2, 0, none⟩)) ∧ e 3 = (.pointer (some ⟨c3, 0, none⟩)) ∧ e 9 = (.pointer (some ⟨b47, 0, none⟩)) ∧ e 11 = (.int .i64 (i : Int)) ∧ e 48 = (.slice (some ⟨ub, uo, none⟩) (ordN D).length uc) ∧ e 49 = (.int .i64 ((ordN D).length : Int)) ∧ e 50 = (.int .i64 (k : Int)) ∧ e 63 = (.pointer (some ⟨b47, 0, none⟩)) ∧ e 64 = (.pointer (some ⟨b47, 0, none⟩)) ∧ e 68 = (.pointer (some ⟨b47, 0, none⟩)) ∧ Ext wq w | 12 => e 1 = (.pointer (some ⟨b1, 0, none⟩)) ∧ e 2 = (.pointer (some ⟨c2, 0, none⟩)) ∧ e 3 = (.pointer (some ⟨c3, 0, none⟩)) ∧ e 9 = (.pointer (some ⟨b47, 0, none⟩)) ∧ e 11 = (.int .i64 (i : Int)) ∧ e 48 = (.slice (some ⟨ub, uo, none⟩) (ordN D).length uc) ∧ e 49 = (.int .i64 ((ordN D).length : Int)) ∧ e 50 = (.int .i64 (k : Int)) ∧ e 63 = (.pointer (some ⟨b47, 0, none⟩)) ∧ e 67 = (.int .i64 (i : Int)) ∧ e 68 = (.pointer (some ⟨b47, 0, none⟩)) ∧ Ext wq w | 13 => e 1 = (.pointer (some ⟨b1, 0, none⟩)) ∧ e 2 = (.pointer (some ⟨c2, 0, none⟩)) ∧ e 3 = (.pointer (some ⟨c3, 0, none⟩)) ∧ e 9 = (.pointer (some ⟨b47, 0, none⟩)) ∧ e 11 = (.int .i64 (i : Int)) ∧ e 48 = (.slice (some ⟨ub, uo, none⟩) (ordN D).length uc) ∧ e 49 = (.int .i64 ((ordN D).length : Int)) ∧ e 50 = (.int .i64 (k : Int)) ∧ e 63 = (.pointer (some ⟨b47, 0, none⟩)) ∧ e 68 = (.pointer (some ⟨b47, 0, none⟩)) ∧ e 69 = (.int .i64 r.1) ∧ (∃ tv' U' lv', BS w0 w b47 dv rv D.length (mkS D k).1 r.2 tv' U' lv' [] ∧ w.ownsRow w0.heap.size 3 1 o1 (ordN D).length ((ordN D).map iv) ∧ w.heap[b1]? = some (.cells #[dv] 25 (0, 0)) ∧ w.heap[c2]? = some (.cells #[.slice none 0 0, .slice none 0 0] 34 (0, 0)) ∧ w.heap[c3]? = some (.cells #[.int .i64 0, .int .i64 0] 28 (0, 0))) | 14 => e 1 = (.pointer (some ⟨b1, 0, none⟩)) ∧ e 2 = (.pointer (some ⟨c2, 0, none⟩)) ∧ e 3 = (.pointer (some ⟨c3, 0, none⟩)) ∧ e 9 = (.pointer (some ⟨b47, 0, none⟩)) ∧ e 11 = (.int .i64 (i : Int)) ∧ e 48 = (.slice (some ⟨ub, uo, none⟩) (ordN D).length uc) ∧ e 49 = (.int .i64 ((ordN D).length : Int)) ∧ e 50 = (.int .i64 (k : Int)) ∧ e 67 = (.int .i64 (i : Int)) ∧ e 68 = (.pointer (some ⟨b47, 0, none⟩)) ∧ e 69 = (.int .i64 r.1) ∧ (∃ tv' U' lv', BS w0 w b47 dv rv D.length (mkS D k).1 r.2 tv' U' lv' [] ∧ w.ownsRow w0.heap.size 3 1 o1 (ordN D).length ((ordN D).map iv) ∧ w.heap[b1]? = some (.cells #[dv] 25 (0, 0)) ∧ w.heap[c2]? = some (.cells #[.slice none 0 0, .slice none 0 0] 34 (0, 0)) ∧ w.heap[c3]? = some (.cells #[.int .i64 0, .int .i64 0] 28 (0, 0))) | 15 => e 1 = (.pointer (some ⟨b1, 0, none⟩)) ∧ e 2 = (.pointer (some ⟨c2, 0, none⟩)) ∧ e 3 = (.pointer (some ⟨c3, 0, none⟩)) ∧ e 9 = (.pointer (some ⟨b47, 0, none⟩)) ∧ e 11 = (.int .i64 (i : Int)) ∧ e 48 = (.slice (some ⟨ub, uo, none⟩) (ordN D).length uc) ∧ e 49 = (.int .i64 ((ordN D).length : Int)) ∧ e 50 = (.int .i64 (k : Int)) ∧ e 63 = (.pointer (some ⟨b47, 0, none⟩)) ∧ e 64 = (.pointer (some ⟨b47, 0, none⟩)) ∧ e 65 = (.pointer (some ⟨b47, 0 + 2, none⟩)) ∧ e 66 = (.slice (some ⟨rb, 0, none⟩) D.length rc) ∧ Ext wq w | 16 => e 1 = (.pointer (some ⟨b1, 0, none⟩)) ∧ e 2 = (.pointer (some ⟨c2, 0, none⟩)) ∧ e 3 = (.pointer (some ⟨c3, 0, none⟩)) ∧ e 9 = (.pointer (some ⟨b47, 0, none⟩)) ∧ e 11 = (.int .i64 (i : Int)) ∧ e 48 = (.slice (some ⟨ub, uo, none⟩) (ordN D).length uc) ∧ e 49 = (.int .i64 ((ordN D).length : Int)) ∧ e 50 = (.int .i64 (k : Int)) ∧ e 63 = (.pointer (some ⟨b47, 0, none⟩)) ∧ e 64 = (.pointer (some ⟨b47, 0, none⟩)) ∧ e 65 = (.pointer (some ⟨b47, 0 + 2, none⟩)) ∧ e 67 = (.int .i64 (i : Int)) ∧ Ext wq w | 17 => e 1 = (.pointer (some ⟨b1, 0, none⟩)) ∧ e 2 = (.pointer (some ⟨c2, 0, none⟩)) ∧ e 3 = (.pointer (some ⟨c3, 0, none⟩)) ∧ e 9 = (.pointer (some ⟨b47, 0, none⟩)) ∧ e 11 = (.int .i64 (i : Int)) ∧ e 48 = (.slice (some ⟨ub, uo, none⟩) (ordN D).length uc) ∧ e 49 = (.int .i64 ((ordN D).length : Int)) ∧ e 50 = (.int .i64 (k : Int)) ∧ e 63 = (.pointer (some ⟨b47, 0, none⟩)) ∧ e 64 = (.pointer (some ⟨b47, 0, none⟩)) ∧ e 65 = (.pointer (some ⟨b47, 0 + 2, none⟩)) ∧ e 68 = (.pointer (some ⟨b47, 0, none⟩)) ∧ Ext wq w | 18 => e 1 = (.pointer (some ⟨b1, 0, none⟩)) ∧ e 2 = (.pointer (some ⟨c2, 0, none⟩)) ∧ e 3 = (.pointer (some ⟨c3, 0, none⟩)) ∧ e 9 = (.pointer (some ⟨b47, 0, none⟩)) ∧ e 11 = (.int .i64 (i : Int)) ∧ e 48 = (.slice (some ⟨ub, uo, none⟩) (ordN D).length uc) ∧ e 49 = (.int .i64 ((ordN D).length : Int)) ∧ e 50 = (.int .i64 (k : Int)) ∧ e 63 = (.pointer (some ⟨b47, 0, none⟩)) ∧ e 64 = (.pointer (some ⟨b47, 0, none⟩)) ∧ e 67 = (.int .i64 (i : Int)) ∧ e 68 = (.pointer (some ⟨b47, 0, none⟩)) ∧ Ext wq w | 19 => e 1 = (.pointer (some ⟨b1, 0, none⟩)) ∧ e 2 = (.pointer (some ⟨c2, 0, none⟩)) ∧ e 3 = (.pointer (some ⟨c3, 0, none⟩)) ∧ e 9 = (.pointer (some ⟨b47, 0, none⟩)) ∧ e 11 = (.int .i64 (i : Int)) ∧ e 48 = (.slice (some ⟨ub, uo, none⟩) (ordN D).length uc) ∧ e 49 = (.int .i64 ((ordN D).length : Int)) ∧ e 50 = (.int .i64 (k : Int)) ∧ e 63 = (.pointer (some ⟨b47, 0, none⟩)) ∧ e 64 = (.pointer (some ⟨b47, 0, none⟩)) ∧ e 68 = (.pointer (some ⟨b47, 0, none⟩)) ∧ e 69 = (.int .i64 r.1) ∧ (∃ tv' U' lv', BS w0 w b47 dv rv D.length (mkS D k).1 r.2 tv' U' lv' [] ∧ w.ownsRow w0.heap.size 3 1 o1 (ordN D).length ((ordN D).map iv) ∧ w.heap[b1]? = some (.cells #[dv] 25 (0, 0)) ∧ w.heap[c2]? = some (.cells #[.slice none 0 0, .slice none 0 0] 34 (0, 0)) ∧ w.heap[c3]? = some (.cells #[.int .i64 0, .int .i64 0] 28 (0, 0))) | 20 => e 1 = (.pointer (some ⟨b1, 0, none⟩)) ∧ e 2 = (.pointer (some ⟨c2, 0, none⟩)) ∧ e 3 = (.pointer (some ⟨c3, 0, none⟩)) ∧ e 9 = (.pointer (some ⟨b47, 0, none⟩)) ∧ e 11 = (.int .i64 (i : Int)) ∧ e 48 = (.slice (some ⟨ub, uo, none⟩) (ordN D).length uc) ∧ e 49 = (.int .i64 ((ordN D).length : Int)) ∧ e 50 = (.int .i64 (k : Int)) ∧ e 63 = (.pointer (some ⟨b47, 0, none⟩)) ∧ e 67 = (.int .i64 (i : Int)) ∧ e 68 = (.pointer (some ⟨b47, 0, none⟩)) ∧ e 69 = (.int .i64 r.1) ∧ (∃ tv' U' lv', BS w0 w b47 dv rv D.length (mkS D k).1 r.2 tv' U' lv' [] ∧ w.ownsRow w0.heap.size 3 1 o1 (ordN D).length ((ordN D).map iv) ∧ w.heap[b1]? = some (.cells #[dv] 25 (0, 0)) ∧ w.heap[c2]? = some (.cells #[.slice none 0 0, .slice none 0 0] 34 (0, 0)) ∧ w.heap[c3]? = some (.cells #[.int .i64 0, .int .i64 0] 28 (0, 0))) | 21 => e 1 = (.pointer (some ⟨b1, 0, none⟩)) ∧ e 2 = (.pointer (some ⟨c2, 0, none⟩)) ∧ e 3 = (.pointer (some ⟨c3, 0, none⟩)) ∧ e 9 = (.pointer (some ⟨b47, 0, none⟩)) ∧ e 11 = (.int .i64 (i : Int)) ∧ e 48 = (.slice (some ⟨ub, uo, none⟩) (ordN D).length uc) ∧ e 49 = (.int .i64 ((ordN D).length : Int)) ∧ e 50 = (.int .i64 (k : Int)) ∧ e 63 = (.pointer (some ⟨b47, 0, none⟩)) ∧ e 64 = (.pointer (some ⟨b47, 0, none⟩)) ∧ e 65 = (.pointer (some ⟨b47, 0 + 2, none⟩)) ∧ e 66 = (.slice (some ⟨rb, 0, none⟩) D.length rc) ∧ e 67 = (.int .i64 (i : Int)) ∧ Ext wq w | 22 => e 1 = (.pointer (some ⟨b1, 0, none⟩)) ∧ e 2 = (.pointer (some ⟨c2, 0, none⟩)) ∧ e 3 = (.pointer (some ⟨c3, 0, none⟩)) ∧ e 9 = (.pointer (some ⟨b47, 0, none⟩)) ∧ e 11 = (.int .i64 (i : Int)) ∧ e 48 = (.slice (some ⟨ub, uo, none⟩) (ordN D).length uc) ∧ e 49 = (.int .i64 ((ordN D).length : Int)) ∧ e 50 = (.int .i64 (k : Int)) ∧ e 63 = (.pointer (some ⟨b47, 0, none⟩)) ∧ e 64 = (.pointer (some ⟨b47, 0, none⟩)) ∧ e 65 = (.pointer (some ⟨b47, 0 + 2, none⟩)) ∧ e 66 = (.slice (some ⟨rb, 0, none⟩) D.length rc) ∧ e 68 = (.pointer (some ⟨b47, 0, none⟩)) ∧ Ext wq w | 23 => e 1 = (.pointer (some ⟨b1, 0, none⟩)) ∧ e 2 = (.pointer (some ⟨c2, 0, none⟩)) ∧ e 3 = (.pointer (some ⟨c3, 0, none⟩)) ∧ e 9 = (.pointer (some ⟨b47, 0, none⟩)) ∧ e 11 = (.int .i64 (i : Int)) ∧ e 48 = (.slice (some ⟨ub, uo, none⟩) (ordN D).length uc) ∧ e 49 = (.int .i64 ((ordN D).length : Int)) ∧ e 50 = (.int .i64 (k : Int)) ∧ e 63 = (.pointer (some ⟨b47, 0, none⟩)) ∧ e 64 = (.pointer (some ⟨b47, 0, none⟩)) ∧ e 65 = (.pointer (some ⟨b47, 0 + 2, none⟩)) ∧ e 67 = (.int .i64 (i : Int)) ∧ e 68 = (.pointer (some ⟨b47, 0, none⟩)) ∧ Ext wq w | 24 => e 1 = (.pointer (some ⟨b1, 0, none⟩)) ∧ e 2 = (.pointer (some ⟨c2, 0, none⟩)) ∧ e 3 = (.pointer (some ⟨c3, 0, none⟩)) ∧ e 9 = (.pointer (some ⟨b47, 0, none⟩)) ∧ e 11 = (.int .i64 (i : Int)) ∧ e 48 = (.slice (some ⟨ub, uo, none⟩) (ordN D).length uc) ∧ e 49 = (.int .i64 ((ordN D).length : Int)) ∧ e 50 = (.int .i64 (k : Int)) ∧ e 63 = (.pointer (some ⟨b47, 0, none⟩)) ∧ e 64 = (.pointer (some ⟨b47, 0, none⟩)) ∧ e 65 = (.pointer (some ⟨b47, 0 + 2, none⟩)) ∧ e 68 = (.pointer (some ⟨b47, 0, none⟩)) ∧ e 69 = (.int .i64 r.1) ∧ (∃ tv' U' lv', BS w0 w b47 dv rv D.length (mkS D k).1 r.2 tv' U' lv' [] ∧ w.ownsRow w0.heap.size 3 1 o1 (ordN D).length ((ordN D).map iv) ∧ w.heap[b1]? = some (.cells #[dv] 25 (0, 0)) ∧ w.heap[c2]? = some (.cells #[.slice none 0 0, .slice none 0 0] 34 (0, 0)) ∧ w.heap[c3]? = some (.cells #[.int .i64 0, .int .i64 0] 28 (0, 0))) | 25 => e 1 = (.pointer (some ⟨b1, 0, none⟩)) ∧ e 2 = (.pointer (some ⟨c2, 0, none⟩)) ∧ e 3 = (.pointer (some ⟨c3, 0, none⟩)) ∧ e 9 = (.pointer (some ⟨b47, 0, none⟩)) ∧ e 11 = (.int .i64 (i : Int)) ∧ e 48 = (.slice (some ⟨ub, uo, none⟩) (ordN D).length uc) ∧ e 49 = (.int .i64 ((ordN D).length : Int)) ∧ e 50 = (.int .i64 (k : Int)) ∧ e 63 = (.pointer (some ⟨b47, 0, none⟩)) ∧ e 64 = (.pointer (some ⟨b47, 0, none⟩)) ∧ e 67 = (.int .i64 (i : Int)) ∧ e 68 = (.pointer (some ⟨b47, 0, none⟩)) ∧ e 69 = (.int .i64 r.1) ∧ (∃ tv' U' lv', BS w0 w b47 dv rv D.length (mkS D k).1 r.2 tv' U' lv' [] ∧ w.ownsRow w0.heap.size 3 1 o1 (ordN D).length ((ordN D).map iv) ∧ w.heap[b1]? = some (.cells #[dv] 25 (0, 0)) ∧ w.heap[c2]? = some (.cells #[.slice none 0 0, .slice none 0 0] 34 (0, 0)) ∧ w.heap[c3]? = some (.cells #[.int .i64 0, .int .i64 0] 28 (0, 0))) | 26 => e 1 = (.pointer (some ⟨b1, 0, none⟩)) ∧ e 2 = (.pointer (some ⟨c2, 0, none⟩)) ∧ e 3 = (.pointer (some ⟨c3, 0, none⟩)) ∧ e 9 = (.pointer (some ⟨b47, 0, none⟩)) ∧ e 11 = (.int .i64 (i : Int)) ∧ e 48 = (.slice (some ⟨ub, uo, none⟩) (ordN D).length uc) ∧ e 49 = (.int .i64 ((ordN D).length : Int)) ∧ e 50 = (.int .i64 (k : Int)) ∧ e 63 = (.pointer (some ⟨b47, 0, none⟩)) ∧ e 64 = (.pointer (some ⟨b47, 0, none⟩)) ∧ e 65 = (.pointer (some ⟨b47, 0 + 2, none⟩)) ∧ e 66 = (.slice (some ⟨rb, 0, none⟩) D.length rc) ∧ e 67 = (.int .i64 (i : Int)) ∧ e 68 = (.pointer (some ⟨b47, 0, none⟩)) ∧ Ext wq w | 27 => e 1 = (.pointer (some ⟨b1, 0, none⟩)) ∧ e 2 = (.pointer (some ⟨c2, 0, none⟩)) ∧ e 3 = (.pointer (some ⟨c3, 0, none⟩)) ∧ e 9 = (.pointer (some ⟨b47, 0, none⟩)) ∧ e 11 = (.int .i64 (i : Int)) ∧ e 48 = (.slice (some ⟨ub, uo, none⟩) (ordN D).length uc) ∧ e 49 = (.int .i64 ((ordN D).length : Int)) ∧ e 50 = (.int .i64 (k : Int)) ∧ e 63 = (.pointer (some ⟨b47, 0, none⟩)) ∧ e 64 = (.pointer (some ⟨b47, 0, none⟩)) ∧ e 65 = (.pointer (some ⟨b47, 0 + 2, none⟩)) ∧ e 66 = (.slice (some ⟨rb, 0, none⟩) D.length rc) ∧ e 68 = (.pointer (some ⟨b47, 0, none⟩)) ∧ e 69 = (.int .i64 r.1) ∧ (∃ tv' U' lv', BS w0 w b47 dv rv D.length (mkS D k).1 r.2 tv' U' lv' [] ∧ w.ownsRow w0.heap.size 3 1 o1 (ordN D).length ((ordN D).map iv) ∧ w.heap[b1]? = some (.cells #[dv] 25 (0, 0)) ∧ w.heap[c2]? = some (.cells #[.slice none 0 0, .slice none 0 0] 34 (0, 0)) ∧ w.heap[c3]? = some (.cells #[.int .i64 0, .int .i64 0] 28 (0, 0))) | 28 => e 1 = (.pointer (some ⟨b1, 0, none⟩)) ∧ e 2 = (.pointer (some ⟨c2, 0, none⟩)) ∧ e 3 = (.pointer (some ⟨c3, 0, none⟩)) ∧ e 9 = (.pointer (some ⟨b47, 0, none⟩)) ∧ e 11 = (.int .i64 (i : Int)) ∧ e 48 = (.slice (some ⟨ub, uo, none⟩) (ordN D).length uc) ∧ e 49 = (.int .i64 ((ordN D).length : Int)) ∧ e 50 = (.int .i64 (k : Int)) ∧ e 63 = (.pointer (some ⟨b47, 0, none⟩)) ∧ e 64 = (.pointer (some ⟨b47, 0, none⟩)) ∧ e 65 = (.pointer (some ⟨b47, 0 + 2, none⟩)) ∧ e 67 = (.int .i64 (i : Int)) ∧ e 68 = (.pointer (some ⟨b47, 0, none⟩)) ∧ e 69 = (.int .i64 r.1) ∧ (∃ tv' U' lv', BS w0 w b47 dv rv D.length (mkS D k).1 r.2 tv' U' lv' [] ∧ w.ownsRow w0.heap.size 3 1 o1 (ordN D).length ((ordN D).map iv) ∧ w.heap[b1]? = some (.cells #[dv] 25 (0, 0)) ∧ w.heap[c2]? = some (.cells #[.slice none 0 0, .slice none 0 0] 34 (0, 0)) ∧ w.heap[c3]? = some (.cells #[.int .i64 0, .int .i64 0] 28 (0, 0))) | 29 => e 1 = (.pointer (some ⟨b1, 0, none⟩)) ∧ e 2 = (.pointer (some ⟨c2, 0, none⟩)) ∧ e 3 = (.pointer (some ⟨c3, 0, none⟩)) ∧ e 9 = (.pointer (some ⟨b47, 0, none⟩)) ∧ e 11 = (.int .i64 (i : Int)) ∧ e 48 = (.slice (some ⟨ub, uo, none⟩) (ordN D).length uc) ∧ e 49 = (.int .i64 ((ordN D).length : Int)) ∧ e 50 = (.int .i64 (k : Int)) ∧ e 63 = (.pointer (some ⟨b47, 0, none⟩)) ∧ e 64 = (.pointer (some ⟨b47, 0, none⟩)) ∧ e 65 = (.pointer (some ⟨b47, 0 + 2, none⟩)) ∧ e 66 = (.slice (some ⟨rb, 0, none⟩) D.length rc) ∧ e 67 = (.int .i64 (i : Int)) ∧ e 68 = (.pointer (some ⟨b47, 0, none⟩)) ∧ e 69 = (.int .i64 r.1) ∧ (∃ tv' U' lv', BS w0 w b47 dv rv D.length (mkS D k).1 r.2 tv' U' lv' [] ∧ w.ownsRow w0.heap.size 3 1 o1 (ordN D).length ((ordN D).map iv) ∧ w.heap[b1]? = some (.cells #[dv] 25 (0, 0)) ∧ w.heap[c2]? = some (.cells #[.slice none 0 0, .slice none 0 0] 34 (0, 0)) ∧ w.heap[c3]? = some (.cells #[.int .i64 0, .int .i64 0] 28 (0, 0))) | 30 => e 1 = (.pointer (some ⟨b1, 0, none⟩)) ∧ e 2 = (.pointer (some ⟨c2, 0, none⟩)) ∧ e 3 = (.pointer (some ⟨c3, 0, none⟩)) ∧ e 9 = (.pointer (some ⟨b47, 0, none⟩)) ∧ e 11 = (.int .i64 (i : Int)) ∧ e 48 = (.slice (some ⟨ub, uo, none⟩) (ordN D).length uc) ∧ e 49 = (.int .i64 ((ordN D).length : Int)) ∧ e 50 = (.int .i64 (k : Int)) ∧ e 63 = (.pointer (some ⟨b47, 0, none⟩)) ∧ e 64 = (.pointer (some ⟨b47, 0, none⟩)) ∧ e 65 = (.pointer (some ⟨b47, 0 + 2, none⟩)) ∧ e 66 = (.slice (some ⟨rb, 0, none⟩) D.length rc) ∧ e 67 = (.int .i64 (i : Int)) ∧ e 68 = (.pointer (some ⟨b47, 0, none⟩)) ∧ e 69 = (.int .i64 r.1) ∧ e 70 = (.pointer (some ⟨rb, 0 + i * 1, none⟩)) ∧ (∃ tv' U' lv', BS w0 w b47 dv rv D.length (mkS D k).1 r.2 tv' U' lv' [] ∧ w.ownsRow w0.heap.size 3 1 o1 (ordN D).length ((ordN D).map iv) ∧ w.heap[b1]? = some (.cells #[dv] 25 (0, 0)) ∧ w.heap[c2]? = some (.cells #[.slice none 0 0, .slice none 0 0] 34 (0, 0)) ∧ w.heap[c3]? = some (.cells #[.int .i64 0, .int .i64 0] 28 (0, 0))) | 31 => e 1 = (.pointer (some ⟨b1, 0, none⟩)) ∧ e 2 = (.pointer (some ⟨c2, 0, none⟩)) ∧ e 3 = (.pointer (some ⟨c3, 0, none⟩)) ∧ e 9 = (.pointer (some ⟨b47, 0, none⟩)) ∧ e 11 = (.int .i64 (i : Int)) ∧ e 48 = (.slice (some ⟨ub, uo, none⟩) (ordN D).length uc) ∧ e 49 = (.int .i64 ((ordN D).length : Int)) ∧ e 50 = (.int .i64 (k : Int)) ∧ e 63 = (.pointer (some ⟨b47, 0, none⟩)) ∧ e 64 = (.pointer (some ⟨b47, 0, none⟩)) ∧ e 65 = (.pointer (some ⟨b47, 0 + 2, none⟩)) ∧ e 66 = (.slice (some ⟨rb, 0, none⟩) D.length rc) ∧ e 67 = (.int .i64 (i : Int)) ∧ e 68 = (.pointer (some ⟨b47, 0, none⟩)) ∧ e 69 = (.int .i64 r.1) ∧ e 70 = (.pointer (some ⟨rb, 0 + i * 1, none⟩)) ∧ (∃ tv' U' lv', BS w0 w b47 dv rv D.length (upI (mkS D k).1 i r.1) r.2 tv' U' lv' [] ∧ w.ownsRow w0.heap.size 3 1 o1 (ordN D).length ((ordN D).map iv) ∧ w.heap[b1]? = some (.cells #[dv] 25 (0, 0)) ∧ w.heap[c2]? = some (.cells #[.slice none 0 0, .slice none 0 0] 34 (0, 0)) ∧ w.heap[c3]? = some (.cells #[.int .i64 0, .int .i64 0] 28 (0, 0))) | _ => False) ([([false, false, false, false, false, false, false, false, false], [(0, 1), (4, 2), (5, 3)]), ([true, false, false, false, false, false, false, false, false], [(1, 4), (4, 5), (5, 6)]), ([false, false, false, false, true, false, false, false, false], [(0, 5), (5, 7)]), ([false, false, false, false, false, true, false, false, false], [(0, 6), (4, 7), (6, 8)]), ([true, true, false, false, false, false, false, false, false], [(2, 9), (4, 10), (5, 11)]), ([true, false, false, false, true, false, false, false, false], [(1, 10), (5, 12)]), ([true, false, false, false, false, true, false, false, false], [(1, 11), (4, 12), (6, 13)]), ([false, false, false, false, true, true, false, false, false], [(0, 12), (6, 14)]), ([false, false, false, false, false, true, true, false, false], [(0, 13), (4, 14)]), ([true, true, true, false, false, false, false, false, false], [(3, 15), (4, 16), (5, 17)]), ([true, true, false, false, true, false, false, false, false], [(2, 16), (5, 18)]), ([true, true, false, false, false, true, false, false, false], [(2, 17), (4, 18), (6, 19)]), ([true, false, false, false, true, true, false, false, false], [(1, 18), (6, 20)]), ([true, false, false, false, false, true, true, false, false], [(1, 19), (4, 20)]), ([false, false, false, false, true, true, true, false, false], [(0, 20)]), ([true, true, true, true, false, false, false, false, false], [(4, 21), (5, 22)]), ([true, true, true, false, true, false, false, false, false], [(3, 21), (5, 23)]), ([true, true, true, false, false, true, false, false, false], [(3, 22), (4, 23), (6, 24)]), ([true, true, false, false, true, true, false, false, false], [(2, 23), (6, 25)]), ([true, true, false, false, false, true, true, false, false], [(2, 24), (4, 25)]), ([true, false, false, false, true, true, true, false, false], [(1, 25)]), ([true, true, true, true, true, false, false, false, false], [(5, 26)]), ([true, true, true, true, false, true, false, false, false], [(4, 26), (6, 27)]), ([true, true, true, false, true, true, false, false, false], [(3, 26), (6, 28)]), ([true, true, true, false, false, true, true, false, false], [(3, 27), (4, 28)]), ([true, true, false, false, true, true, true, false, false], [(2, 28)]), ([true, true, true, true, true, true, false, false, false], [(6, 29)]), ([true, true, true, true, false, true, true, false, false], [(4, 29)]), ([true, true, true, false, true, true, true, false, false], [(3, 29)]), ([true, true, true, true, true, true, true, false, false], [(7, 30)]), ([true, true, true, true, true, true, true, true, false], [(8, 31)]), ([true, true, true, true, true, true, true, true, true], [])]) rfl (by kernel_rfl) rfl ⟨h1, h2, h3, h9, rfl, h48, h49, h50, by rw [hwq]; exact Only.refl _ _⟩ (⟨?_, ?_, ?_, ?_, ?_, ?_, ?_, ?_, ?_, ?_, ?_, ?_, ?_, ?_, ?_, ?_, ?_, ?_, ?_, ?_, ?_, ?_, ?_, ?_, ?_, ?_, ?_, ?_, ?_, ?_, ?_, ?_, trivial⟩)
   ·-- state 0 of region 14
    rintro e w ⟨h1, h2, h3, h9, h11, h48, h49, h50, hR⟩
    refine ⟨?_, ?_, ?_, trivial⟩
    ·skip
     refine WO.c rfl rfl (o_mvh h9 ?_)
     exact ⟨h1, h2, h3, h9, h11, h48, h49, h50, rfl, hR⟩
    ·skip
     refine WO.c rfl rfl (o_mvh h11 ?_)
     exact ⟨h1, h2, h3, h9, h11, h48, h49, h50, rfl, hR⟩
    skip
    refine WO.c rfl rfl (o_mvh h9 ?_)
    exact ⟨h1, h2, h3, h9, h11, h48, h49, h50, rfl, hR⟩
   ·-- state 1 of region 14
    rintro e w ⟨h1, h2, h3, h9, h11, h48, h49, h50, h63, hR⟩
    refine ⟨?_, ?_, ?_, trivial⟩
    ·skip
     refine WO.c rfl rfl (o_nil h63 ?_)
     exact ⟨h1, h2, h3, h9, h11, h48, h49, h50, h63, rfl, hR⟩
    ·skip
     refine WO.c rfl rfl (o_mvh h11 ?_)
     exact ⟨h1, h2, h3, h9, h11, h48, h49, h50, h63, rfl, hR⟩
    skip
    refine WO.c rfl rfl (o_mvh h9 ?_)
    exact ⟨h1, h2, h3, h9, h11, h48, h49, h50, h63, rfl, hR⟩
   ·-- state 2 of region 14
    rintro e w ⟨h1, h2, h3, h9, h11, h48, h49, h50, h67, hR⟩
    refine ⟨?_, ?_, trivial⟩
    ·skip
     refine WO.c rfl rfl (o_mvh h9 ?_)
     exact ⟨h1, h2, h3, h9, h11, h48, h49, h50, rfl, h67, hR⟩
    skip
    refine WO.c rfl rfl (o_mvh h9 ?_)
    exact ⟨h1, h2, h3, h9, h11, h48, h49, h50, h67, rfl, hR⟩
   ·-- state 3 of region 14
    rintro e w ⟨h1, h2, h3, h9, h11, h48, h49, h50, h68, hR⟩
    refine ⟨?_, ?_, ?_, trivial⟩
    ·skip
     refine WO.c rfl rfl (o_mvh h9 ?_)
     exact ⟨h1, h2, h3, h9, h11, h48, h49, h50, rfl, h68, hR⟩
    ·skip
     refine WO.c rfl rfl (o_mvh h11 ?_)
     exact ⟨h1, h2, h3, h9, h11, h48, h49, h50, rfl, h68, hR⟩
    skip
    refine WO.c rfl rfl (o_call Try.call31 (lc h68 ln) ((hcall _ hR).mono ?_))
    rintro v69 w69 ⟨tv', U', lv', rfl, hS', ho', -, -⟩
    have hE : (∃ tv' U' lv', BS w0 w69 b47 dv rv D.length (mkS D k).1 r.2 tv' U' lv' [] ∧ w69.ownsRow w0.heap.size 3 1 o1 (ordN D).length ((ordN D).map iv) ∧ w69.heap[b1]? = some (.cells #[dv] 25 (0, 0)) ∧ w69.heap[c2]? = some (.cells #[.slice none 0 0, .slice none 0 0] 34 (0, 0)) ∧ w69.heap[c3]? = some (.cells #[.int .i64 0, .int .i64 0] 28 (0, 0))) := ⟨tv', U', lv', hS', own_only (own_ext ho1 hR) ho' (fun b hb h => by
     rcases h with h | h
     ·rw [h] at hb; exact own_off ho1 hS.cell (by decide) hb
     ·exact own_row_off hS.ty.row ho1 (by decide) b hb h),
     ho'.blk (hR.blk hC1 (fun h => h)) (fun h => by rcases h with h | h; exact blk_ne3 hC1 hS.cell (by decide) h; exact own_off hS.ty.row hC1 (by decide) h),
     ho'.blk (hR.blk hC2 (fun h => h)) (fun h => by rcases h with h | h; exact blk_ne3 hC2 hS.cell (by decide) h; exact own_off hS.ty.row hC2 (by decide) h),
     ho'.blk (hR.blk hC3 (fun h => h)) (fun h => by rcases h with h | h; exact blk_ne3 hC3 hS.cell (by decide) h; exact own_off hS.ty.row hC3 (by decide) h)⟩
    exact ⟨h1, h2, h3, h9, h11, h48, h49, h50, h68, rfl, hE⟩
   ·-- state 4 of region 14
    rintro e w ⟨h1, h2, h3, h9, h11, h48, h49, h50, h63, h64, hR⟩
    refine ⟨?_, ?_, ?_, trivial⟩
    ·skip
     refine WO.c rfl rfl (o_fa 2 TI85 rfl TI79 rfl h64 ?_)
     exact ⟨h1, h2, h3, h9, h11, h48, h49, h50, h63, h64, rfl, hR⟩
    ·skip
     refine WO.c rfl rfl (o_mvh h11 ?_)
     exact ⟨h1, h2, h3, h9, h11, h48, h49, h50, h63, h64, rfl, hR⟩
    skip
    refine WO.c rfl rfl (o_mvh h9 ?_)
    exact ⟨h1, h2, h3, h9, h11, h48, h49, h50, h63, h64, rfl, hR⟩
   ·-- state 5 of region 14
    rintro e w ⟨h1, h2, h3, h9, h11, h48, h49, h50, h63, h67, hR⟩
    refine ⟨?_, ?_, trivial⟩
    ·skip
     refine WO.c rfl rfl (o_nil h63 ?_)
     exact ⟨h1, h2, h3, h9, h11, h48, h49, h50, h63, rfl, h67, hR⟩
    skip
    refine WO.c rfl rfl (o_mvh h9 ?_)
    exact ⟨h1, h2, h3, h9, h11, h48, h49, h50, h63, h67, rfl, hR⟩
   ·-- state 6 of region 14
    rintro e w ⟨h1, h2, h3, h9, h11, h48, h49, h50, h63, h68, hR⟩
    refine ⟨?_, ?_, ?_, trivial⟩
    ·skip
     refine WO.c rfl rfl (o_nil h63 ?_)
     exact ⟨h1, h2, h3, h9, h11, h48, h49, h50, h63, rfl, h68, hR⟩
    ·skip
     refine WO.c rfl rfl (o_mvh h11 ?_)
     exact ⟨h1, h2, h3, h9, h11, h48, h49, h50, h63, rfl, h68, hR⟩
    skip
    refine WO.c rfl rfl (o_call Try.call31 (lc h68 ln) ((hcall _ hR).mono ?_))
    rintro v69 w69 ⟨tv', U', lv', rfl, hS', ho', -, -⟩
    have hE : (∃ tv' U' lv', BS w0 w69 b47 dv rv D.length (mkS D k).1 r.2 tv' U' lv' [] ∧ w69.ownsRow w0.heap.size 3 1 o1 (ordN D).length ((ordN D).map iv) ∧ w69.heap[b1]? = some (.cells #[dv] 25 (0, 0)) ∧ w69.heap[c2]? = some (.cells #[.slice none 0 0, .slice none 0 0] 34 (0, 0)) ∧ w69.heap[c3]? = some (.cells #[.int .i64 0, .int .i64 0] 28 (0, 0))) := ⟨tv', U', lv', hS', own_only (own_ext ho1 hR) ho' (fun b hb h => by
     rcases h with h | h
     ·rw [h] at hb; exact own_off ho1 hS.cell (by decide) hb
     ·exact own_row_off hS.ty.row ho1 (by decide) b hb h),
     ho'.blk (hR.blk hC1 (fun h => h)) (fun h => by rcases h with h | h; exact blk_ne3 hC1 hS.cell (by decide) h; exact own_off hS.ty.row hC1 (by decide) h),
     ho'.blk (hR.blk hC2 (fun h => h)) (fun h => by rcases h with h | h; exact blk_ne3 hC2 hS.cell (by decide) h; exact own_off hS.ty.row hC2 (by decide) h),
     ho'.blk (hR.blk hC3 (fun h => h)) (fun h => by rcases h with h | h; exact blk_ne3 hC3 hS.cell (by decide) h; exact own_off hS.ty.row hC3 (by decide) h)⟩
    exact ⟨h1, h2, h3, h9, h11, h48, h49, h50, h63, h68, rfl, hE⟩
   ·-- state 7 of region 14
    rintro e w ⟨h1, h2, h3, h9, h11, h48, h49, h50, h67, h68, hR⟩
    refine ⟨?_, ?_, trivial⟩
    ·skip
     refine WO.c rfl rfl (o_mvh h9 ?_)
     exact ⟨h1, h2, h3, h9, h11, h48, h49, h50, rfl, h67, h68, hR⟩
    skip
    refine WO.c rfl rfl (o_call Try.call31 (lc h68 ln) ((hcall _ hR).mono ?_))
    rintro v69 w69 ⟨tv', U', lv', rfl, hS', ho', -, -⟩
    have hE : (∃ tv' U' lv', BS w0 w69 b47 dv rv D.length (mkS D k).1 r.2 tv' U' lv' [] ∧ w69.ownsRow w0.heap.size 3 1 o1 (ordN D).length ((ordN D).map iv) ∧ w69.heap[b1]? = some (.cells #[dv] 25 (0, 0)) ∧ w69.heap[c2]? = some (.cells #[.slice none 0 0, .slice none 0 0] 34 (0, 0)) ∧ w69.heap[c3]? = some (.cells #[.int .i64 0, .int .i64 0] 28 (0, 0))) := ⟨tv', U', lv', hS', own_only (own_ext ho1 hR) ho' (fun b hb h => by
     rcases h with h | h
     ·rw [h] at hb; exact own_off ho1 hS.cell (by decide) hb
     ·exact own_row_off hS.ty.row ho1 (by decide) b hb h),
     ho'.blk (hR.blk hC1 (fun h => h)) (fun h => by rcases h with h | h; exact blk_ne3 hC1 hS.cell (by decide) h; exact own_off hS.ty.row hC1 (by decide) h),
     ho'.blk (hR.blk hC2 (fun h => h)) (fun h => by rcases h with h | h; exact blk_ne3 hC2 hS.cell (by decide) h; exact own_off hS.ty.row hC2 (by decide) h),
     ho'.blk (hR.blk hC3 (fun h => h)) (fun h => by rcases h with h | h; exact blk_ne3 hC3 hS.cell (by decide) h; exact own_off hS.ty.row hC3 (by decide) h)⟩
    exact ⟨h1, h2, h3, h9, h11, h48, h49, h50, h67, h68, rfl, hE⟩
   ·-- state 8 of region 14
    rintro e w ⟨h1, h2, h3, h9, h11, h48, h49, h50, h68, h69, hE⟩
    refine ⟨?_, ?_, trivial⟩
    ·skip
     refine WO.c rfl rfl (o_mvh h9 ?_)
     exact ⟨h1, h2, h3, h9, h11, h48, h49, h50, rfl, h68, h69, hE⟩
    skip
    refine WO.c rfl rfl (o_mvh h11 ?_)
    exact ⟨h1, h2, h3, h9, h11, h48, h49, h50, rfl, h68, h69, hE⟩
   ·-- state 9 of region 14
    rintro e w ⟨h1, h2, h3, h9, h11, h48, h49, h50, h63, h64, h65, hR⟩
    refine ⟨?_, ?_, ?_, trivial⟩
    ·skip
     refine WO.c rfl rfl (o_ld TI79 rfl h65 (show World.cell? _ ⟨b47, 0 + 2, none⟩ = some (.slice (some ⟨rb, 0, none⟩) D.length rc) from by first | exact (hS.ext hR).rvc hrvE | (obtain ⟨tv', U', lv', hS', -⟩ := hE; exact hS'.rvc hrvE)) ?_)
     exact ⟨h1, h2, h3, h9, h11, h48, h49, h50, h63, h64, h65, rfl, hR⟩
    ·skip
     refine WO.c rfl rfl (o_mvh h11 ?_)
     exact ⟨h1, h2, h3, h9, h11, h48, h49, h50, h63, h64, h65, rfl, hR⟩
    skip
    refine WO.c rfl rfl (o_mvh h9 ?_)
    exact ⟨h1, h2, h3, h9, h11, h48, h49, h50, h63, h64, h65, rfl, hR⟩
   ·-- state 10 of region 14
    rintro e w ⟨h1, h2, h3, h9, h11, h48, h49, h50, h63, h64, h67, hR⟩
    refine ⟨?_, ?_, trivial⟩
    ·skip
     refine WO.c rfl rfl (o_fa 2 TI85 rfl TI79 rfl h64 ?_)
     exact ⟨h1, h2, h3, h9, h11, h48, h49, h50, h63, h64, rfl, h67, hR⟩
    skip
    refine WO.c rfl rfl (o_mvh h9 ?_)
    exact ⟨h1, h2, h3, h9, h11, h48, h49, h50, h63, h64, h67, rfl, hR⟩
   ·-- state 11 of region 14
    rintro e w ⟨h1, h2, h3, h9, h11, h48, h49, h50, h63, h64, h68, hR⟩
    refine ⟨?_, ?_, ?_, trivial⟩
    ·skip
     refine WO.c rfl rfl (o_fa 2 TI85 rfl TI79 rfl h64 ?_)
     exact ⟨h1, h2, h3, h9, h11, h48, h49, h50, h63, h64, rfl, h68, hR⟩
    ·skip
     refine WO.c rfl rfl (o_mvh h11 ?_)
     exact ⟨h1, h2, h3, h9, h11, h48, h49, h50, h63, h64, rfl, h68, hR⟩
    skip
    refine WO.c rfl rfl (o_call Try.call31 (lc h68 ln) ((hcall _ hR).mono ?_))
    rintro v69 w69 ⟨tv', U', lv', rfl, hS', ho', -, -⟩
    have hE : (∃ tv' U' lv', BS w0 w69 b47 dv rv D.length (mkS D k).1 r.2 tv' U' lv' [] ∧ w69.ownsRow w0.heap.size 3 1 o1 (ordN D).length ((ordN D).map iv) ∧ w69.heap[b1]? = some (.cells #[dv] 25 (0, 0)) ∧ w69.heap[c2]? = some (.cells #[.slice none 0 0, .slice none 0 0] 34 (0, 0)) ∧ w69.heap[c3]? = some (.cells #[.int .i64 0, .int .i64 0] 28 (0, 0))) := ⟨tv', U', lv', hS', own_only (own_ext ho1 hR) ho' (fun b hb h => by
     rcases h with h | h
     ·rw [h] at hb; exact own_off ho1 hS.cell (by decide) hb
     ·exact own_row_off hS.ty.row ho1 (by decide) b hb h),
     ho'.blk (hR.blk hC1 (fun h => h)) (fun h => by rcases h with h | h; exact blk_ne3 hC1 hS.cell (by decide) h; exact own_off hS.ty.row hC1 (by decide) h),
     ho'.blk (hR.blk hC2 (fun h => h)) (fun h => by rcases h with h | h; exact blk_ne3 hC2 hS.cell (by decide) h; exact own_off hS.ty.row hC2 (by decide) h),
     ho'.blk (hR.blk hC3 (fun h => h)) (fun h => by rcases h with h | h; exact blk_ne3 hC3 hS.cell (by decide) h; exact own_off hS.ty.row hC3 (by decide) h)⟩
    exact ⟨h1, h2, h3, h9, h11, h48, h49, h50, h63, h64, h68, rfl, hE⟩
   ·-- state 12 of region 14
    rintro e w ⟨h1, h2, h3, h9, h11, h48, h49, h50, h63, h67, h68, hR⟩
    refine ⟨?_, ?_, trivial⟩
    ·skip
     refine WO.c rfl rfl (o_nil h63 ?_)
     exact ⟨h1, h2, h3, h9, h11, h48, h49, h50, h63, rfl, h67, h68, hR⟩
    skip
    refine WO.c rfl rfl (o_call Try.call31 (lc h68 ln) ((hcall _ hR).mono ?_))
    rintro v69 w69 ⟨tv', U', lv', rfl, hS', ho', -, -⟩
    have hE : (∃ tv' U' lv', BS w0 w69 b47 dv rv D.length (mkS D k).1 r.2 tv' U' lv' [] ∧ w69.ownsRow w0.heap.size 3 1 o1 (ordN D).length ((ordN D).map iv) ∧ w69.heap[b1]? = some (.cells #[dv] 25 (0, 0)) ∧ w69.heap[c2]? = some (.cells #[.slice none 0 0, .slice none 0 0] 34 (0, 0)) ∧ w69.heap[c3]? = some (.cells #[.int .i64 0, .int .i64 0] 28 (0, 0))) := ⟨tv', U', lv', hS', own_only (own_ext ho1 hR) ho' (fun b hb h => by
     rcases h with h | h
     ·rw [h] at hb; exact own_off ho1 hS.cell (by decide) hb
     ·exact own_row_off hS.ty.row ho1 (by decide) b hb h),
     ho'.blk (hR.blk hC1 (fun h => h)) (fun h => by rcases h with h | h; exact blk_ne3 hC1 hS.cell (by decide) h; exact own_off hS.ty.row hC1 (by decide) h),
     ho'.blk (hR.blk hC2 (fun h => h)) (fun h => by rcases h with h | h; exact blk_ne3 hC2 hS.cell (by decide) h; exact own_off hS.ty.row hC2 (by decide) h),
     ho'.blk (hR.blk hC3 (fun h => h)) (fun h => by rcases h with h | h; exact blk_ne3 hC3 hS.cell (by decide) h; exact own_off hS.ty.row hC3 (by decide) h)⟩
    exact ⟨h1, h2, h3, h9, h11, h48, h49, h50, h63, h67, h68, rfl, hE⟩
   ·-- state 13 of region 14
    rintro e w ⟨h1, h2, h3, h9, h11, h48, h49, h50, h63, h68, h69, hE⟩
    refine ⟨?_, ?_, trivial⟩
    ·skip
     refine WO.c rfl rfl (o_nil h63 ?_)
     exact ⟨h1, h2, h3, h9, h11, h48, h49, h50, h63, rfl, h68, h69, hE⟩
    skip
    refine WO.c rfl rfl (o_mvh h11 ?_)
    exact ⟨h1, h2, h3, h9, h11, h48, h49, h50, h63, rfl, h68, h69, hE⟩
   ·-- state 14 of region 14
    rintro e w ⟨h1, h2, h3, h9, h11, h48, h49, h50, h67, h68, h69, hE⟩
    refine ⟨?_, trivial⟩
    skip
    refine WO.c rfl rfl (o_mvh h9 ?_)
    exact ⟨h1, h2, h3, h9, h11, h48, h49, h50, rfl, h67, h68, h69, hE⟩
   ·-- state 15 of region 14
    rintro e w ⟨h1, h2, h3, h9, h11, h48, h49, h50, h63, h64, h65, h66, hR⟩
    refine ⟨?_, ?_, trivial⟩
    ·skip
     refine WO.c rfl rfl (o_mvh h11 ?_)
     exact ⟨h1, h2, h3, h9, h11, h48, h49, h50, h63, h64, h65, h66, rfl, hR⟩
    skip
    refine WO.c rfl rfl (o_mvh h9 ?_)
    exact ⟨h1, h2, h3, h9, h11, h48, h49, h50, h63, h64, h65, h66, rfl, hR⟩
   ·-- state 16 of region 14
    rintro e w ⟨h1, h2, h3, h9, h11, h48, h49, h50, h63, h64, h65, h67, hR⟩
    refine ⟨?_, ?_, trivial⟩
    ·skip
     refine WO.c rfl rfl (o_ld TI79 rfl h65 (show World.cell? _ ⟨b47, 0 + 2, none⟩ = some (.slice (some ⟨rb, 0, none⟩) D.length rc) from by first | exact (hS.ext hR).rvc hrvE | (obtain ⟨tv', U', lv', hS', -⟩ := hE; exact hS'.rvc hrvE)) ?_)
     exact ⟨h1, h2, h3, h9, h11, h48, h49, h50, h63, h64, h65, rfl, h67, hR⟩
    skip
    refine WO.c rfl rfl (o_mvh h9 ?_)
    exact ⟨h1, h2, h3, h9, h11, h48, h49, h50, h63, h64, h65, h67, rfl, hR⟩
   ·-- state 17 of region 14
    rintro e w ⟨h1, h2, h3, h9, h11, h48, h49, h50, h63, h64, h65, h68, hR⟩
    refine ⟨?_, ?_, ?_, trivial⟩
    ·skip
     refine WO.c rfl rfl (o_ld TI79 rfl h65 (show World.cell? _ ⟨b47, 0 + 2, none⟩ = some (.slice (some ⟨rb, 0, none⟩) D.length rc) from by first | exact (hS.ext hR).rvc hrvE | (obtain ⟨tv', U', lv', hS', -⟩ := hE; exact hS'.rvc hrvE)) ?_)
     exact ⟨h1, h2, h3, h9, h11, h48, h49, h50, h63, h64, h65, rfl, h68, hR⟩
    ·skip
     refine WO.c rfl rfl (o_mvh h11 ?_)
     exact ⟨h1, h2, h3, h9, h11, h48, h49, h50, h63, h64, h65, rfl, h68, hR⟩
    skip
    refine WO.c rfl rfl (o_call Try.call31 (lc h68 ln) ((hcall _ hR).mono ?_))
    rintro v69 w69 ⟨tv', U', lv', rfl, hS', ho', -, -⟩
    have hE : (∃ tv' U' lv', BS w0 w69 b47 dv rv D.length (mkS D k).1 r.2 tv' U' lv' [] ∧ w69.ownsRow w0.heap.size 3 1 o1 (ordN D).length ((ordN D).map iv) ∧ w69.heap[b1]? = some (.cells #[dv] 25 (0, 0)) ∧ w69.heap[c2]? = some (.cells #[.slice none 0 0, .slice none 0 0] 34 (0, 0)) ∧ w69.heap[c3]? = some (.cells #[.int .i64 0, .int .i64 0] 28 (0, 0))) := ⟨tv', U', lv', hS', own_only (own_ext ho1 hR) ho' (fun b hb h => by
     rcases h with h | h
     ·rw [h] at hb; exact own_off ho1 hS.cell (by decide) hb
     ·exact own_row_off hS.ty.row ho1 (by decide) b hb h),
     ho'.blk (hR.blk hC1 (fun h => h)) (fun h => by rcases h with h | h; exact blk_ne3 hC1 hS.cell (by decide) h; exact own_off hS.ty.row hC1 (by decide) h),
     ho'.blk (hR.blk hC2 (fun h => h)) (fun h => by rcases h with h | h; exact blk_ne3 hC2 hS.cell (by decide) h; exact own_off hS.ty.row hC2 (by decide) h),
     ho'.blk (hR.blk hC3 (fun h => h)) (fun h => by rcases h with h | h; exact blk_ne3 hC3 hS.cell (by decide) h; exact own_off hS.ty.row hC3 (by decide) h)⟩
    exact ⟨h1, h2, h3, h9, h11, h48, h49, h50, h63, h64, h65, h68, rfl, hE⟩
   ·-- state 18 of region 14
    rintro e w ⟨h1, h2, h3, h9, h11, h48, h49, h50, h63, h64, h67, h68, hR⟩
    refine ⟨?_, ?_, trivial⟩
    ·skip
     refine WO.c rfl rfl (o_fa 2 TI85 rfl TI79 rfl h64 ?_)
     exact ⟨h1, h2, h3, h9, h11, h48, h49, h50, h63, h64, rfl, h67, h68, hR⟩
    skip
    refine WO.c rfl rfl (o_call Try.call31 (lc h68 ln) ((hcall _ hR).mono ?_))
    rintro v69 w69 ⟨tv', U', lv', rfl, hS', ho', -, -⟩
    have hE : (∃ tv' U' lv', BS w0 w69 b47 dv rv D.length (mkS D k).1 r.2 tv' U' lv' [] ∧ w69.ownsRow w0.heap.size 3 1 o1 (ordN D).length ((ordN D).map iv) ∧ w69.heap[b1]? = some (.cells #[dv] 25 (0, 0)) ∧ w69.heap[c2]? = some (.cells #[.slice none 0 0, .slice none 0 0] 34 (0, 0)) ∧ w69.heap[c3]? = some (.cells #[.int .i64 0, .int .i64 0] 28 (0, 0))) := ⟨tv', U', lv', hS', own_only (own_ext ho1 hR) ho' (fun b hb h => by
     rcases h with h | h
     ·rw [h] at hb; exact own_off ho1 hS.cell (by decide) hb
     ·exact own_row_off hS.ty.row ho1 (by decide) b hb h),
     ho'.blk (hR.blk hC1 (fun h => h)) (fun h => by rcases h with h | h; exact blk_ne3 hC1 hS.cell (by decide) h; exact own_off hS.ty.row hC1 (by decide) h),
     ho'.blk (hR.blk hC2 (fun h => h)) (fun h => by rcases h with h | h; exact blk_ne3 hC2 hS.cell (by decide) h; exact own_off hS.ty.row hC2 (by decide) h),
     ho'.blk (hR.blk hC3 (fun h => h)) (fun h => by rcases h with h | h; exact blk_ne3 hC3 hS.cell (by decide) h; exact own_off hS.ty.row hC3 (by decide) h)⟩
    exact ⟨h1, h2, h3, h9, h11, h48, h49, h50, h63, h64, h67, h68, rfl, hE⟩
   ·-- state 19 of region 14
    rintro e w ⟨h1, h2, h3, h9, h11, h48, h49, h50, h63, h64, h68, h69, hE⟩
    refine ⟨?_, ?_, trivial⟩
    ·skip
     refine WO.c rfl rfl (o_fa 2 TI85 rfl TI79 rfl h64 ?_)
     exact ⟨h1, h2, h3, h9, h11, h48, h49, h50, h63, h64, rfl, h68, h69, hE⟩
    skip
    refine WO.c rfl rfl (o_mvh h11 ?_)
    exact ⟨h1, h2, h3, h9, h11, h48, h49, h50, h63, h64, rfl, h68, h69, hE⟩
   ·-- state 20 of region 14
    rintro e w ⟨h1, h2, h3, h9, h11, h48, h49, h50, h63, h67, h68, h69, hE⟩
    refine ⟨?_, trivial⟩
    skip
    refine WO.c rfl rfl (o_nil h63 ?_)
    exact ⟨h1, h2, h3, h9, h11, h48, h49, h50, h63, rfl, h67, h68, h69, hE⟩
   ·-- state 21 of region 14
    rintro e w ⟨h1, h2, h3, h9, h11, h48, h49, h50, h63, h64, h65, h66, h67, hR⟩
    refine ⟨?_, trivial⟩
    skip
    refine WO.c rfl rfl (o_mvh h9 ?_)
    exact ⟨h1, h2, h3, h9, h11, h48, h49, h50, h63, h64, h65, h66, h67, rfl, hR⟩
   ·-- state 22 of region 14
    rintro e w ⟨h1, h2, h3, h9, h11, h48, h49, h50, h63, h64, h65, h66, h68, hR⟩
    refine ⟨?_, ?_, trivial⟩
    ·skip
     refine WO.c rfl rfl (o_mvh h11 ?_)
     exact ⟨h1, h2, h3, h9, h11, h48, h49, h50, h63, h64, h65, h66, rfl, h68, hR⟩
    skip
    refine WO.c rfl rfl (o_call Try.call31 (lc h68 ln) ((hcall _ hR).mono ?_))
    rintro v69 w69 ⟨tv', U', lv', rfl, hS', ho', -, -⟩
    have hE : (∃ tv' U' lv', BS w0 w69 b47 dv rv D.length (mkS D k).1 r.2 tv' U' lv' [] ∧ w69.ownsRow w0.heap.size 3 1 o1 (ordN D).length ((ordN D).map iv) ∧ w69.heap[b1]? = some (.cells #[dv] 25 (0, 0)) ∧ w69.heap[c2]? = some (.cells #[.slice none 0 0, .slice none 0 0] 34 (0, 0)) ∧ w69.heap[c3]? = some (.cells #[.int .i64 0, .int .i64 0] 28 (0, 0))) := ⟨tv', U', lv', hS', own_only (own_ext ho1 hR) ho' (fun b hb h => by
     rcases h with h | h
     ·rw [h] at hb; exact own_off ho1 hS.cell (by decide) hb
     ·exact own_row_off hS.ty.row ho1 (by decide) b hb h),
     ho'.blk (hR.blk hC1 (fun h => h)) (fun h => by rcases h with h | h; exact blk_ne3 hC1 hS.cell (by decide) h; exact own_off hS.ty.row hC1 (by decide) h),
     ho'.blk (hR.blk hC2 (fun h => h)) (fun h => by rcases h with h | h; exact blk_ne3 hC2 hS.cell (by decide) h; exact own_off hS.ty.row hC2 (by decide) h),
     ho'.blk (hR.blk hC3 (fun h => h)) (fun h => by rcases h with h | h; exact blk_ne3 hC3 hS.cell (by decide) h; exact own_off hS.ty.row hC3 (by decide) h)⟩
    exact ⟨h1, h2, h3, h9, h11, h48, h49, h50, h63, h64, h65, h66, h68, rfl, hE⟩
   ·-- state 23 of region 14
    rintro e w ⟨h1, h2, h3, h9, h11, h48, h49, h50, h63, h64, h65, h67, h68, hR⟩
    refine ⟨?_, ?_, trivial⟩
    ·skip
     refine WO.c rfl rfl (o_ld TI79 rfl h65 (show World.cell? _ ⟨b47, 0 + 2, none⟩ = some (.slice (some ⟨rb, 0, none⟩) D.length rc) from by first | exact (hS.ext hR).rvc hrvE | (obtain ⟨tv', U', lv', hS', -⟩ := hE; exact hS'.rvc hrvE)) ?_)
     exact ⟨h1, h2, h3, h9, h11, h48, h49, h50, h63, h64, h65, rfl, h67, h68, hR⟩
    skip
    refine WO.c rfl rfl (o_call Try.call31 (lc h68 ln) ((hcall _ hR).mono ?_))
    rintro v69 w69 ⟨tv', U', lv', rfl, hS', ho', -, -⟩
    have hE : (∃ tv' U' lv', BS w0 w69 b47 dv rv D.length (mkS D k).1 r.2 tv' U' lv' [] ∧ w69.ownsRow w0.heap.size 3 1 o1 (ordN D).length ((ordN D).map iv) ∧ w69.heap[b1]? = some (.cells #[dv] 25 (0, 0)) ∧ w69.heap[c2]? = some (.cells #[.slice none 0 0, .slice none 0 0] 34 (0, 0)) ∧ w69.heap[c3]? = some (.cells #[.int .i64 0, .int .i64 0] 28 (0, 0))) := ⟨tv', U', lv', hS', own_only (own_ext ho1 hR) ho' (fun b hb h => by
     rcases h with h | h
     ·rw [h] at hb; exact own_off ho1 hS.cell (by decide) hb
     ·exact own_row_off hS.ty.row ho1 (by decide) b hb h),
     ho'.blk (hR.blk hC1 (fun h => h)) (fun h => by rcases h with h | h; exact blk_ne3 hC1 hS.cell (by decide) h; exact own_off hS.ty.row hC1 (by decide) h),
     ho'.blk (hR.blk hC2 (fun h => h)) (fun h => by rcases h with h | h; exact blk_ne3 hC2 hS.cell (by decide) h; exact own_off hS.ty.row hC2 (by decide) h),
     ho'.blk (hR.blk hC3 (fun h => h)) (fun h => by rcases h with h | h; exact blk_ne3 hC3 hS.cell (by decide) h; exact own_off hS.ty.row hC3 (by decide) h)⟩
    exact ⟨h1, h2, h3, h9, h11, h48, h49, h50, h63, h64, h65, h67, h68, rfl, hE⟩
   ·-- state 24 of region 14
    rintro e w ⟨h1, h2, h3, h9, h11, h48, h49, h50, h63, h64, h65, h68, h69, hE⟩
    refine ⟨?_, ?_, trivial⟩
    ·skip
     refine WO.c rfl rfl (o_ld TI79 rfl h65 (show World.cell? _ ⟨b47, 0 + 2, none⟩ = some (.slice (some ⟨rb, 0, none⟩) D.length rc) from by first | exact (hS.ext hR).rvc hrvE | (obtain ⟨tv', U', lv', hS', -⟩ := hE; exact hS'.rvc hrvE)) ?_)
     exact ⟨h1, h2, h3, h9, h11, h48, h49, h50, h63, h64, h65, rfl, h68, h69, hE⟩
    skip
    refine WO.c rfl rfl (o_mvh h11 ?_)
    exact ⟨h1, h2, h3, h9, h11, h48, h49, h50, h63, h64, h65, rfl, h68, h69, hE⟩
   ·-- state 25 of region 14
    rintro e w ⟨h1, h2, h3, h9, h11, h48, h49, h50, h63, h64, h67, h68, h69, hE⟩
    refine ⟨?_, trivial⟩
    skip
    refine WO.c rfl rfl (o_fa 2 TI85 rfl TI79 rfl h64 ?_)
    exact ⟨h1, h2, h3, h9, h11, h48, h49, h50, h63, h64, rfl, h67, h68, h69, hE⟩
   ·-- state 26 of region 14
    rintro e w ⟨h1, h2, h3, h9, h11, h48, h49, h50, h63, h64, h65, h66, h67, h68, hR⟩
    refine ⟨?_, trivial⟩
    skip
    refine WO.c rfl rfl (o_call Try.call31 (lc h68 ln) ((hcall _ hR).mono ?_))
    rintro v69 w69 ⟨tv', U', lv', rfl, hS', ho', -, -⟩
    have hE : (∃ tv' U' lv', BS w0 w69 b47 dv rv D.length (mkS D k).1 r.2 tv' U' lv' [] ∧ w69.ownsRow w0.heap.size 3 1 o1 (ordN D).length ((ordN D).map iv) ∧ w69.heap[b1]? = some (.cells #[dv] 25 (0, 0)) ∧ w69.heap[c2]? = some (.cells #[.slice none 0 0, .slice none 0 0] 34 (0, 0)) ∧ w69.heap[c3]? = some (.cells #[.int .i64 0, .int .i64 0] 28 (0, 0))) := ⟨tv', U', lv', hS', own_only (own_ext ho1 hR) ho' (fun b hb h => by
     rcases h with h | h
     ·rw [h] at hb; exact own_off ho1 hS.cell (by decide) hb
     ·exact own_row_off hS.ty.row ho1 (by decide) b hb h),
     ho'.blk (hR.blk hC1 (fun h => h)) (fun h => by rcases h with h | h; exact blk_ne3 hC1 hS.cell (by decide) h; exact own_off hS.ty.row hC1 (by decide) h),
     ho'.blk (hR.blk hC2 (fun h => h)) (fun h => by rcases h with h | h; exact blk_ne3 hC2 hS.cell (by decide) h; exact own_off hS.ty.row hC2 (by decide) h),
     ho'.blk (hR.blk hC3 (fun h => h)) (fun h => by rcases h with h | h; exact blk_ne3 hC3 hS.cell (by decide) h; exact own_off hS.ty.row hC3 (by decide) h)⟩
    exact ⟨h1, h2, h3, h9, h11, h48, h49, h50, h63, h64, h65, h66, h67, h68, rfl, hE⟩
   ·-- state 27 of region 14
    rintro e w ⟨h1, h2, h3, h9, h11, h48, h49, h50, h63, h64, h65, h66, h68, h69, hE⟩
    refine ⟨?_, trivial⟩
    skip
    refine WO.c rfl rfl (o_mvh h11 ?_)
    exact ⟨h1, h2, h3, h9, h11, h48, h49, h50, h63, h64, h65, h66, rfl, h68, h69, hE⟩
   ·-- state 28 of region 14
    rintro e w ⟨h1, h2, h3, h9, h11, h48, h49, h50, h63, h64, h65, h67, h68, h69, hE⟩
    refine ⟨?_, trivial⟩
    skip
    refine WO.c rfl rfl (o_ld TI79 rfl h65 (show World.cell? _ ⟨b47, 0 + 2, none⟩ = some (.slice (some ⟨rb, 0, none⟩) D.length rc) from by first | exact (hS.ext hR).rvc hrvE | (obtain ⟨tv', U', lv', hS', -⟩ := hE; exact hS'.rvc hrvE)) ?_)
    exact ⟨h1, h2, h3, h9, h11, h48, h49, h50, h63, h64, h65, rfl, h67, h68, h69, hE⟩
   ·-- state 29 of region 14
    rintro e w ⟨h1, h2, h3, h9, h11, h48, h49, h50, h63, h64, h65, h66, h67, h68, h69, hE⟩
    refine ⟨?_, trivial⟩
    skip
    refine WO.c rfl rfl (o_ixB (i := i) TI79 TI3 h66 h67 (by omega) ?_)
    exact ⟨h1, h2, h3, h9, h11, h48, h49, h50, h63, h64, h65, h66, h67, h68, h69, rfl, hE⟩
   ·-- state 30 of region 14
    rintro e w ⟨h1, h2, h3, h9, h11, h48, h49, h50, h63, h64, h65, h66, h67, h68, h69, h70, hE⟩
    obtain ⟨tv', U', lv', hS', ho1', hC1', hC2', hC3'⟩ := hE
    have hro' := hS'.ro
    rw [hrvE] at hro'
    refine ⟨?_, trivial⟩
    skip
    refine WO.u rfl (o_stRj TI3 h70 (show 0 + i * 1 = i by omega) h69 rfl hro' (show Value.ownBlock (Value.slice (some ⟨rb, 0, none⟩) D.length rc) = some rb from rfl) (by omega) ?_)
    intro w8 hrt ho8 hs8
    rw [zvs_set] at hrt
    have hE : (∃ tv' U' lv', BS w0 w8 b47 dv rv D.length (upI (mkS D k).1 i r.1) r.2 tv' U' lv' [] ∧ w8.ownsRow w0.heap.size 3 1 o1 (ordN D).length ((ordN D).map iv) ∧ w8.heap[b1]? = some (.cells #[dv] 25 (0, 0)) ∧ w8.heap[c2]? = some (.cells #[.slice none 0 0, .slice none 0 0] 34 (0, 0)) ∧ w8.heap[c3]? = some (.cells #[.int .i64 0, .int .i64 0] 28 (0, 0))) := ⟨tv', U', lv', ⟨ho8.blk hS'.cell (fun h => own_off hro' hS'.cell (by decide) h), hS'.ty.only ho8 (fun b hb h => by
      rcases hb with hb | ⟨j, hj, hb⟩
      ·exact own_row_off hS'.ty.row hro' (by decide) b h hb
      exact own_row_off (hS'.ty.tys.row j hj) hro' (by decide) b h hb), by rw [hrvE]; exact hrt, hS'.lf, hS'.ex.trans' ho8 (fun _ h => h) (fun b hb h => by have := (hro'.lt b h).1; omega), hS'.pH⟩,
     own_only ho1' ho8 (fun b hb h => by have h1 := ho1l b hb; have h2 := hrvl b (by rw [hrvE]; exact h); omega),
     ho8.blk hC1' (fun h => own_off hro' hC1' (by decide) h), ho8.blk hC2' (fun h => own_off hro' hC2' (by decide) h), ho8.blk hC3' (fun h => own_off hro' hC3' (by decide) h)⟩
    exact ⟨h1, h2, h3, h9, h11, h48, h49, h50, h63, h64, h65, h66, h67, h68, h69, h70, hE⟩
   -- state 31 of region 14
   rintro e w ⟨h1, h2, h3, h9, h11, h48, h49, h50, h63, h64, h65, h66, h67, h68, h69, h70, hE⟩
   obtain ⟨tv', U', lv', hS', ho1', hC1', hC2', hC3'⟩ := hE
   refine W.region (WL.c rfl (o_addi h50 rfl (by omega) (WL.c rfl (o_mvh vI (WL.nil ?_)))))
   have hsc := mkS_succ hk1
   rw [← hie, ← hr] at hsc
   refine ⟨⟨k + 1, tv', U', lv', [], by omega, h1, h2, h3, h9, h48.trans hV.symm, h49, rfl, by rw [hsc]; exact hS', ho1', hC1', hC2', hC3', by rw [hsc]; show r.2.length ≤ _; omega⟩, ?_⟩
   show (ordN D).length - ((k : Int) + 1).toNat < _
   rw [hm50]; simp [intOf]; omega
  try simp only [cs8] at c51
  have hk1 : k = (ordN D).length := by omega
  obtain ⟨F, hF⟩ : ∃ x, x = (mkS D k).1 := ⟨_, rfl⟩
  obtain ⟨L, hL⟩ : ∃ x, x = (mkS D k).2 := ⟨_, rfl⟩
  rw [← hF, ← hL] at hS
  have hsT : schT D = L := by rw [hL, hk1, mkS_all]; rfl
  have hsR : schR D = rooN D F := by rw [hF, hk1, mkS_all]; rfl
  refine W.exit (W.seq (W.region (WL.c rfl (o_mvh h9 (WL.c rfl (o_nil rfl (WL.c rfl (o_fa 1 TI85 rfl TI31 rfl rfl (WL.c rfl (o_ld TI31 rfl rfl (cell_of hS.cell rfl) (WL.c rfl (o_bldC (cs := [tv, .slice none 0 0]) TI34 (Sizes.cons TI31 (Sizes.cons TI32 Sizes.nil)) rfl (lcp (show _ = tv from rfl) lnp) (by simp [own_one hS.ty.row]) rfl (WL.c rfl (o_alB TI34 ?_))))))))))))))
  intro wa hCa hxa hsa
  refine WL.u (o_stA TI34 rfl (show _ = Value.agg ([tv, .slice none 0 0]).toArray from rfl) rfl (by simp [own_one hS.ty.row, show (Value.slice none 0 0).oneCell' = true from rfl]) hCa rfl ?_)
  intro wb12 hC12 hob hsb
  have hxb := Ext.own hxa (Nat.le_refl _) hob
  obtain ⟨b12, hb12⟩ : ∃ b, b = w.heap.size := ⟨_, rfl⟩
  rw [← hb12] at hC12 ⊢
  clear hCa hxa hsa hob hsb
  have hc212 : ¬ c2 = b12 := by have := blk_lt3 hC2; omega
  have hz12 : w0.heap.size ≤ b12 := by have := hS.ex.size; omega
  replace hS := hS.ext hxb
  replace hC1 := hxb.blk hC1 (fun h => h)
  replace hC2 := hxb.blk hC2 (fun h => h)
  replace hC3 := hxb.blk hC3 (fun h => h)
  clear hxb
  refine WL.nil (W.seq (W.seq (W.region (WL.c rfl (o_fa 0 TI25 rfl TI23 rfl h1 (WL.c rfl (o_ld TI23 rfl rfl (cell_of hC1 rfl) (WL.c rfl (o_lenR TI23 rfl ((hD00.ext hS.ex).row) (WL.c rfl (o_mvh vI (WL.nil (W.block (W.loop (fun e w => ∃ (q : Nat) (qv : Value), q ≤ D.length ∧ e 2 = .pointer (some ⟨c2, 0, none⟩) ∧ e 3 = .pointer (some ⟨c3, 0, none⟩) ∧ e 9 = .pointer (some ⟨b47, 0, none⟩) ∧ e 12 = .pointer (some ⟨b12, 0, none⟩) ∧ e 78 = dv ∧ e 79 = .int .i64 (D.length : Int) ∧ e 80 = .int .i64 (q : Int) ∧ BS w0 w b47 dv rv D.length F L tv U lv left ∧ w.heap[b12]? = some (.cells #[tv, qv] 34 (0, 0)) ∧ w.ownsRow w0.heap.size 47 2 qv q (ros ((rooN D F).take q)) ∧ w.heap[c2]? = some (.cells #[.slice none 0 0, .slice none 0 0] 34 (0, 0)) ∧ w.heap[c3]? = some (.cells #[.int .i64 0, .int .i64 0] 28 (0, 0))) (fun e w => D.length - (intOf (e 80)).toNat) ?_ ?_))))))))))))))
  ·exact ⟨0, .slice none 0 0, Nat.zero_le _, h2, h3, h9, rfl, rfl, rfl, rfl, hS, hC12, World.ownsRow_nil _ _ _ _, hC2, hC3⟩
  rintro e w ⟨q, qv, hq, h2, h3, h9, h12, h78, h79, h80, hS, hC12, hqv, hC2, hC3⟩
  have hm80 := h80
  refine W.seq (W.region (WL.c rfl (o_lt h80 h79 (WL.nil (W.seq (W.cond rfl (fun c81 => ?_) (fun c81 => ?_)))))))
  ·try simp only [cs8] at c81
   have hq1 : q < D.length := by omega
   obtain ⟨gb, go, gc, hdv, hgc, hty⟩ := (hD00.ext hS.ex).atk hq1
   rw [hdv] at h78
   refine W.skip (W.seq (W.block (W.seq (W.region (WL.c rfl (o_mvh h80 (WL.c rfl (o_ixB (i := q) TI23 TI39 h78 h80 (by omega) (WL.c rfl (o_ldA TI39 rfl rfl hgc rfl (WL.c rfl (o_alB TI39 ?_))))))))))))
   intro wa hCa hxa hsa
   refine WL.c rfl (o_ash vI (WL.u (o_stA TI39 rfl (show _ = Value.agg (dcell D[q] (V q)).toArray from rfl) rfl (by simp only [dcell, List.toArray, Array.toList, List.all_cons, List.all_nil, sl_one1 hty]; rfl) hCa rfl ?_)))
   intro wb14 hC14 hob hsb
   have hxb := Ext.own hxa (Nat.le_refl _) hob
   obtain ⟨b14, hb14⟩ : ∃ b, b = w.heap.size := ⟨_, rfl⟩
   rw [← hb14] at hC14 ⊢
   clear hCa hxa hsa hob hsb
   replace hS := hS.ext hxb
   replace hqv := own_ext hqv hxb
   replace hC12 := hxb.blk hC12 (fun h => h)
   replace hC2 := hxb.blk hC2 (fun h => h)
   replace hC3 := hxb.blk hC3 (fun h => h)
   clear hxb
   refine WL.nil ?_
   obtain ⟨RR, hRR⟩ : ∃ x : Ro, x = ⟨D[q].name, F q⟩ := ⟨_, rfl⟩
   obtain ⟨wd2, hwd2⟩ : ∃ wd, wd = wb14.drew := ⟨_, rfl⟩
   have hxd : Ext wb14 wd2 := hwd2 ▸ Only.drew wb14
   replace hS := hS.ext hxd
   replace hqv := own_ext hqv hxd
   replace hC12 := hxd.blk hC12 (fun h => h)
   replace hC2 := hxd.blk hC2 (fun h => h)
   replace hC3 := hxd.blk hC3 (fun h => h)
   replace hC14 := hxd.blk hC14 (fun h => h)
   have hlt : ∀ b, qv.ownBlock = some b → b < wd2.heap.size := fun b hb => (hqv.lt b hb).2
   have hw00 := hS.ex.size
   obtain ⟨rb, rc, hrvE, hrvb⟩ := own_some hS.ro (by omega)
   refine W.drawF 14 [13] [fun k => qv.ownBlock = some k] [(2, fun v _ => v = _), (3, fun v _ => v = _), (9, fun v _ => v = _), (12, fun v _ => v = _), (13, fun v _ => v = _), (14, fun v _ => v = _), (78, fun v _ => v = _), (79, fun v _ => v = _), (80, fun v _ => v = _)] rfl (by kernel_rfl) (by kernel_rfl) ⟨Mono.eq, Mono.eq, Mono.eq, Mono.eq, Mono.eq, Mono.eq, Mono.eq, Mono.eq, Mono.eq, trivial⟩ ⟨h2, h3, h9, h12, rfl, rfl, h78, h79, h80, trivial⟩ (WDS.p rfl (by decide) (fun e w hR hh => by obtain ⟨h12, -⟩ := hh; exact SG.n (o_fa 1 TI34 rfl TI32 rfl h12 ⟨rfl, Only.refl No _⟩)) (WDS.p rfl (by decide) (fun e w hR hh => by obtain ⟨h85, -⟩ := hh; rw [← hwd2] at hR; have hc := hR.blk hC12 (fun hF => by rcases hF with hF | hF <;> first | exact hF | exact own_off hqv hC12 (by decide) hF); exact SG.n (o_ld TI32 rfl h85 (cell_of hc rfl) ⟨rfl, Only.refl No _⟩)) (WDS.p rfl (by decide) (fun e w hR hh => by obtain ⟨h14, -⟩ := hh; exact SG.n (o_fa 0 TI39 rfl TI9 rfl h14 ⟨rfl, Only.refl No _⟩)) (WDS.p rfl (by decide) (fun e w hR hh => by obtain ⟨h87, -⟩ := hh; rw [← hwd2] at hR; have hc := hR.blk hC14 (fun hF => by rcases hF with hF | hF <;> first | exact hF | exact own_off hqv hC14 (by decide) hF); exact SG.n (o_ld TI9 rfl h87 (cell_of hc rfl) ⟨rfl, Only.refl No _⟩)) (WDS.p rfl (by decide) (fun e w hR hh => by obtain ⟨h9, -⟩ := hh; exact SG.n (o_mvh h9 ⟨rfl, Only.refl No _⟩)) (WDS.p rfl (by decide) (fun e w hR hh => by obtain ⟨h89, -⟩ := hh; exact SG.n (o_nil h89 ⟨rfl, Only.refl No _⟩)) (WDS.p rfl (by decide) (fun e w hR hh => by obtain ⟨h90, -⟩ := hh; exact SG.n (o_fa 2 TI85 rfl TI79 rfl h90 ⟨rfl, Only.refl No _⟩)) (WDS.p rfl (by decide) (fun e w hR hh => by obtain ⟨h91, -⟩ := hh; rw [← hwd2] at hR; have hc := hR.blk hS.cell (fun hF => by rcases hF with hF | hF <;> first | exact hF | exact own_off hqv hS.cell (by decide) hF); exact SG.n (o_ld TI79 rfl h91 (show World.cell? _ ⟨b47, 0 + 2, none⟩ = some (.slice (some ⟨rb, 0, none⟩) D.length rc) from by rw [← hrvE]; exact cell_of hc rfl) ⟨rfl, Only.refl No _⟩)) (WDS.p rfl (by decide) (fun e w hR hh => by obtain ⟨h13, -⟩ := hh; exact SG.n (o_mvh h13 ⟨rfl, Only.refl No _⟩)) (WDS.p rfl (by decide) (fun e w hR hh => by obtain ⟨h93, h92, -⟩ := hh; exact SG.n (o_ixB (i := q) TI79 TI3 h92 h93 (by omega) ⟨rfl, Only.refl No _⟩)) (WDS.p rfl (by decide) (fun e w hR hh => by obtain ⟨h94, -⟩ := hh; rw [← hwd2] at hR; have hro := own_only hS.ro hR (fun b hb => fun hF => by rcases hF with hF | hF <;> first | exact hF | exact own_row_off hqv hS.ro (by decide) b hb hF); rw [hrvE] at hro; exact SG.n (o_ld TI3 rfl h94 (show World.cell? _ ⟨rb, 0 + q * 1, none⟩ = some (.int .i64 (F q)) from by rw [Nat.zero_add, Nat.mul_one]; exact own_cell hro (zvs_at hq1)) ⟨rfl, Only.refl No _⟩)) (WDS.p rfl (by decide) (fun e w hR hh => by obtain ⟨h95, h88, -⟩ := hh; exact SG.n (o_bldC (cs := [_, _]) TI47 (Sizes.cons TI9 (Sizes.cons TI3 Sizes.nil)) rfl (lcp h88 (lcp h95 lnp)) rfl rfl ⟨rfl, Only.refl No _⟩)) (WDS.q 0 (fun v w => w.ownsRow wd2.heap.size 47 2 v 1 (roV RR)) (fun v w w2 hR hh => own_only hh hR (fun k hk hF => by rcases hF with hF | hF <;> first | exact hF | (have := hlt k hF; have := (hh.lt k hk).1; omega))) (by kernel_rfl) rfl (by decide) (fun e w hR hh => by obtain ⟨h96, -⟩ := hh; rw [← hwd2] at hR; exact SG.n (o_bs1 TI32 TI47 (show _ = Value.agg (roV RR).toArray from by rw [hRR]; exact h96) (by decide) (by decide) rfl ⟨own_mono (own_new1 rfl) hR.size, Only.alloc w _⟩)) (WDS.mf 0 1 (fun v w => w.ownsRow w0.heap.size 47 2 v (q + 1) (ros ((rooN D F).take q) ++ roV RR)) (fun v w w2 hR hh => own_ext hh hR) (by kernel_rfl) rfl rfl rfl (fun e w hR hW hh => by obtain ⟨h97, h86, -⟩ := hh; rw [← hwd2] at hR hW; have hW2 : Ext wd2 w := hW.mono (fun _ _ h => h); have hw2 := hR.size; exact SGX.n (OP.x (o_apO w0.heap.size TI32 TI47 h86 rfl (own_ext hqv hW2) (Sl.own h97) rfl (by decide) (roV_all RR) (by rw [maxLen_eq]; omega) (by omega) (by omega) (fun v' w' h1 h2 h3 _ => ⟨h1, h2⟩)))) ?_))))))))))))))
   rintro e w hR ⟨h98, h97, h96, h95, h94, h93, h92, h91, h90, h89, h88, h87, h86, h85, h2, h3, h9, h12, h13, h14, h78, h79, h80, -⟩
   rw [← hwd2] at hR
   obtain ⟨v98, hv98⟩ : ∃ v, v = e 98 := ⟨_, rfl⟩
   rw [← hv98] at h98
   replace hC12 := hR.blk hC12 (fun hF => by rcases hF with hF | hF <;> first | exact hF | exact own_off hqv hC12 (by decide) hF)
   replace hC2 := hR.blk hC2 (fun hF => by rcases hF with hF | hF <;> first | exact hF | exact own_off hqv hC2 (by decide) hF)
   replace hC3 := hR.blk hC3 (fun hF => by rcases hF with hF | hF <;> first | exact hF | exact own_off hqv hC3 (by decide) hF)
   replace hS := hS.only hR (fun hF => by rcases hF with hF | hF <;> first | exact hF | exact own_off hqv hS.cell (by decide) hF) (fun b hb => fun hF => by rcases hF with hF | hF <;> first | exact hF | exact own_row_off hqv hS.ty.row (by decide) b hb hF) (fun j hj b hb => fun hF => by rcases hF with hF | hF <;> first | exact hF | exact own_row_off hqv (hS.ty.tys.row j hj) (by decide) b hb hF) (fun b hb => fun hF => by rcases hF with hF | hF <;> first | exact hF | exact own_row_off hqv hS.ro (by decide) b hb hF) (fun b hF => by rcases hF with hF | hF <;> first | exact (hqv.lt b hF).1 | exact hF.elim)
   refine WL.c rfl (o_fa 1 TI34 rfl TI32 rfl h12 (WL.u (o_stB TI32 rfl (show _ = v98 from hv98.symm) (own_one h98) hC12 (show 1 < 2 by decide) ?_)))
   intro w9 hC12n ho9 hs9
   replace hC12n : w9.heap[b12]? = some (.cells #[tv, v98] 34 (0, 0)) := hC12n
   have hof := hS.off hC12 (by decide) (by decide) (by decide)
   have hnt : ∀ b, tv.ownBlock = some b → ¬ b = b12 := fun b hb e => by subst e; exact own_off hS.ty.row hC12 (by decide) hb
   replace hS := hS.only ho9 hof.1 hnt hof.2.1 hof.2.2 (fun b e => by omega)
   have hqv2 := own_only h98 ho9 (fun b hb e => by subst e; exact own_off h98 hC12 (by decide) hb)
   replace hC2 := ho9.blk hC2 hc212
   replace hC3 := ho9.blk hC3 (blk_ne3 hC3 hC12 (by decide))
   refine WL.nil (W.region (WL.c rfl (o_addi h80 rfl (by omega) (WL.c rfl (o_mvh vI (WL.nil (⟨⟨q + 1, v98, by omega, h2, h3, h9, h12, h78.trans hdv.symm, h79, rfl, hS, hC12n, by rw [rooN_take hq1, ros_snoc, ← hRR]; exact hqv2, hC2, hC3⟩, ?_⟩)))))))
   show D.length - ((q : Int) + 1).toNat < _
   rw [hm80]; simp [intOf]; omega
  try simp only [cs8] at c81
  have hq1 : q = D.length := by omega
  refine W.exit (W.seq ?_)
  skip
  skip
  refine W.region (WL.c rfl (o_ldA TI34 rfl h12 (show Cells _ b12 0 [tv, qv] from Cells.of hC12 0 _ (by simp)) rfl (WL.c rfl (o_bldC (cs := [(.int .i64 0), (.int .i64 0)]) TI28 (Sizes.cons TI26 (Sizes.cons TI3 Sizes.nil)) rfl lnp rfl rfl (WL.u (o_stA TI34 h2 (show _ = Value.agg #[tv, qv] from rfl) rfl (by simp [own_one hqv, own_one hS.ty.row]) hC2 rfl ?_))))))
  intro wy hC2y hoy hsy
  replace hC2y : wy.heap[c2]? = some (.cells #[tv, qv] 34 (0, 0)) := hC2y
  have hTy := hS.ty.only hoy (fun b hb e => by
   subst e
   rcases hb with hb | ⟨j, hj, hb⟩
   ·exact own_off hS.ty.row hC2 (by decide) hb
   exact own_off (hS.ty.tys.row j hj) hC2 (by decide) hb)
  replace hqv := own_only hqv hoy (fun b hb e => by subst e; exact own_off hqv hC2 (by decide) hb)
  have hx := hS.ex.trans' hoy (fun _ h => h) (fun b hb e => by omega)
  replace hC3 := hoy.blk hC3 (blk_ne3 hC3 hC2 (by decide))
  refine WL.u (o_stA TI28 h3 (show _ = Value.agg #[.int .i64 0, .int .i64 0] from rfl) rfl rfl hC3 rfl ?_)
  intro wz hC3z hoz hsz
  replace hC2y := hoz.blk hC2y (blk_ne3 hC2y hC3 (by decide))
  replace hTy := hTy.only hoz (fun b hb e => by
   subst e
   rcases hb with hb | ⟨j, hj, hb⟩
   ·exact own_off hTy.row hC3 (by decide) hb
   exact own_off (hTy.tys.row j hj) hC3 (by decide) hb)
  replace hqv := own_only hqv hoz (fun b hb e => by subst e; exact own_off hqv hC3 (by decide) hb)
  replace hx := hx.trans' hoz (fun _ h => h) (fun b hb e => by omega)
  refine WL.nil (W.ret (retAA rfl TI34 rfl TI28 rfl h2 h3 (show Cells _ c2 0 [tv, qv] from Cells.of hC2y 0 _ (by simp)) rfl (show Cells _ c3 0 [.int .i64 0, .int .i64 0] from Cells.of hC3z 0 _ (by simp)) rfl ?_))
  obtain ⟨hv1, hv2⟩ := bldV_no hbl
  refine ⟨tv, qv, U, by rw [hv1, hv2], ?_, hx⟩
  have e1 : bldT D = L := by unfold bldT; rw [if_pos hbl, hsT]
  have e2 : bldR D = rooN D F := by unfold bldR; rw [if_pos hbl, hsR]
  have e3 : (rooN D F).length = D.length := by simp [rooN]
  rw [e1, e2, hb1]
  rw [hq1, List.take_of_length_le (by rw [e3]; exact Nat.le_refl _)] at hqv
  exact ⟨hTy, by rw [e3]; exact hqv⟩
 skip
 obtain ⟨ge, hge⟩ : ∃ x, x = fe := ⟨_, rfl⟩
 obtain ⟨ga, hga⟩ : ∃ x, x = fa := ⟨_, rfl⟩
 rw [← hge, ← hga] at hC8
 have hb : bldF D = some (ge, ga) := by rw [hge, hga]; exact bld_fA hck (fA_of_flt hf hfe)
 refine W.region (WL.c rfl (o_fa 0 TI28 rfl TI26 rfl rfl (WL.c rfl (o_ld TI26 rfl rfl (cell_of hC8 rfl) (WL.c rfl (o_eq rfl rfl (WL.nil (W.condF' rfl (by simp; rw [hge]; exact hfe) (W.skip (W.seq (W.seq (W.region (WL.c rfl (o_fa 0 TI28 rfl TI26 rfl rfl (WL.c rfl (o_ld TI26 rfl rfl (cell_of hC8 rfl) (WL.c rfl (o_ne rfl rfl (WL.nil (W.condT' rfl (by simp; rw [hge]; exact hfe) (W.seq ?_)))))))))))))))))))))
 skip
 skip
 refine W.cut (fun e1 w1 => e1 2 = .pointer (some ⟨c2, 0, none⟩) ∧ e1 3 = .pointer (some ⟨c3, 0, none⟩) ∧ w1.heap[c2]? = some (.cells #[.slice none 0 0, .slice none 0 0] 34 (0, 0)) ∧ w1.heap[c3]? = some (.cells #[.int .i64 ge, .int .i64 ga] 28 (0, 0)) ∧ Ext w0 w1) ?_ ?_
 ·-- region 8
  refine W.enum rfl ?_
  have hd := Only.drew wb8
  replace hC2 := hd.blk hC2 (fun h => h)
  replace hC3 := hd.blk hC3 (fun h => h)
  replace hC8 := hd.blk hC8 (fun h => h)
  replace hx := hx.tr hd
  clear hd
  generalize wb8.drew = wd at *
  refine WA.step (r := [0, 1]) (by kernel_rfl) (by decide) (all2 ?_ ?_)
  ·skip
   refine WO.c rfl rfl (o_bldC (cs := [(.slice none 0 0), (.slice none 0 0)]) TI34 (Sizes.cons TI31 (Sizes.cons TI32 Sizes.nil)) rfl lnp rfl rfl (WA.step (r := [1, 2]) (by kernel_rfl) (by decide) (all2 ?_ ?_)))
   ·skip
    refine WO.c rfl rfl (o_ldA TI28 rfl rfl (show Cells _ b8 0 [.int .i64 ge, .int .i64 ga] from Cells.of hC8 0 _ (by simp)) rfl (WA.step (r := [2]) (by kernel_rfl) (by decide) (all1 (WO.u rfl (o_stA TI34 rfl (show _ = Value.agg #[.slice none 0 0, .slice none 0 0] from rfl) rfl rfl hC2 rfl ?_)))))
    intro wy hC2y hoy hsy
    replace hC3 := hoy.blk hC3 (blk_ne3 hC3 hC2 (by decide))
    replace hC8 := hoy.blk hC8 (blk_ne3 hC8 hC2 (by decide))
    replace hx := hx.trans' hoy (fun _ h => h) (fun b hb he => by omega)
    replace hC2 : wy.heap[c2]? = some (.cells #[.slice none 0 0, .slice none 0 0] 34 (0, 0)) := hC2y
    refine WA.step (r := [3]) (by kernel_rfl) (by decide) (all1 (WO.u rfl (o_stA TI28 rfl (show _ = Value.agg #[.int .i64 ge, .int .i64 ga] from rfl) rfl rfl hC3 rfl ?_)))
    intro wz hC3z hoz hsz
    replace hC2 := hoz.blk hC2 (blk_ne3 hC2 hC3 (by decide))
    replace hx := hx.trans' hoz (fun _ h => h) (fun b hb he => by omega)
    replace hC3 : wz.heap[c3]? = some (.cells #[.int .i64 ge, .int .i64 ga] 28 (0, 0)) := hC3z
    refine WA.done (by kernel_rfl) ?_
    exact ⟨rfl, rfl, hC2, hC3, hx⟩
   skip
   refine WO.u rfl (o_stA TI34 rfl (show _ = Value.agg #[.slice none 0 0, .slice none 0 0] from rfl) rfl rfl hC2 rfl ?_)
   intro wy hC2y hoy hsy
   replace hC3 := hoy.blk hC3 (blk_ne3 hC3 hC2 (by decide))
   replace hC8 := hoy.blk hC8 (blk_ne3 hC8 hC2 (by decide))
   replace hx := hx.trans' hoy (fun _ h => h) (fun b hb he => by omega)
   replace hC2 : wy.heap[c2]? = some (.cells #[.slice none 0 0, .slice none 0 0] 34 (0, 0)) := hC2y
   refine WA.step (r := [1]) (by kernel_rfl) (by decide) (all1 (WO.c rfl rfl (o_ldA TI28 rfl rfl (show Cells _ b8 0 [.int .i64 ge, .int .i64 ga] from Cells.of hC8 0 _ (by simp)) rfl (WA.step (r := [3]) (by kernel_rfl) (by decide) (all1 (WO.u rfl (o_stA TI28 rfl (show _ = Value.agg #[.int .i64 ge, .int .i64 ga] from rfl) rfl rfl hC3 rfl ?_)))))))
   intro wz hC3z hoz hsz
   replace hC2 := hoz.blk hC2 (blk_ne3 hC2 hC3 (by decide))
   replace hx := hx.trans' hoz (fun _ h => h) (fun b hb he => by omega)
   replace hC3 : wz.heap[c3]? = some (.cells #[.int .i64 ge, .int .i64 ga] 28 (0, 0)) := hC3z
   refine WA.done (by kernel_rfl) ?_
   exact ⟨rfl, rfl, hC2, hC3, hx⟩
  skip
  refine WO.c rfl rfl (o_ldA TI28 rfl rfl (show Cells _ b8 0 [.int .i64 ge, .int .i64 ga] from Cells.of hC8 0 _ (by simp)) rfl (WA.step (r := [0]) (by kernel_rfl) (by decide) (all1 (WO.c rfl rfl (o_bldC (cs := [(.slice none 0 0), (.slice none 0 0)]) TI34 (Sizes.cons TI31 (Sizes.cons TI32 Sizes.nil)) rfl lnp rfl rfl (WA.step (r := [2]) (by kernel_rfl) (by decide) (all1 (WO.u rfl (o_stA TI34 rfl (show _ = Value.agg #[.slice none 0 0, .slice none 0 0] from rfl) rfl rfl hC2 rfl ?_)))))))))
  intro wy hC2y hoy hsy
  replace hC3 := hoy.blk hC3 (blk_ne3 hC3 hC2 (by decide))
  replace hC8 := hoy.blk hC8 (blk_ne3 hC8 hC2 (by decide))
  replace hx := hx.trans' hoy (fun _ h => h) (fun b hb he => by omega)
  replace hC2 : wy.heap[c2]? = some (.cells #[.slice none 0 0, .slice none 0 0] 34 (0, 0)) := hC2y
  refine WA.step (r := [3]) (by kernel_rfl) (by decide) (all1 (WO.u rfl (o_stA TI28 rfl (show _ = Value.agg #[.int .i64 ge, .int .i64 ga] from rfl) rfl rfl hC3 rfl ?_)))
  intro wz hC3z hoz hsz
  replace hC2 := hoz.blk hC2 (blk_ne3 hC2 hC3 (by decide))
  replace hx := hx.trans' hoz (fun _ h => h) (fun b hb he => by omega)
  replace hC3 : wz.heap[c3]? = some (.cells #[.int .i64 ge, .int .i64 ga] 28 (0, 0)) := hC3z
  refine WA.done (by kernel_rfl) ?_
  exact ⟨rfl, rfl, hC2, hC3, hx⟩
 rintro e w ⟨h2, h3, hC2y, hC3z, hx⟩
 refine W.ret (retAA rfl TI34 rfl TI28 rfl h2 h3 (show Cells _ c2 0 [.slice none 0 0, .slice none 0 0] from Cells.of hC2y 0 _ (by simp)) rfl (show Cells _ c3 0 [.int .i64 ge, .int .i64 ga] from Cells.of hC3z 0 _ (by simp)) rfl ?_)
 obtain ⟨hv1, hv2⟩ := bldV_of hb
 refine ⟨.slice none 0 0, .slice none 0 0, fun _ => undef, by rw [hv1, hv2], ?_, hx⟩
 rw [(bld_bad hb).1, (bld_bad hb).2]
 exact Schs.nil _ _ _
end Go.Proofs.Ytpbflfgigfdohaa

namespace Go.Proofs.Ytpbflfgigfdohaa
open Go Go.Vc Go.RowKit Go.Proofs

theorem whr_hit {R : List Ro} {nm : List UInt8} {k : Nat} (hk : k < R.length) (h : R[k].name = nm) (hb : ∀ j, j < k → ¬ (R.getD j ro0).name = nm) : whR R nm = some k := by
 refine List.findIdx?_eq_some_iff_getElem.2 ⟨hk, decide_eq_true h, fun j hj => ?_⟩
 have := hb j hj
 rw [List.getD_eq_getElem?_getD, List.getElem?_eq_getElem (by omega)] at this
 simpa using this
theorem whr_miss {R : List Ro} {nm : List UInt8} (hb : ∀ j, j < R.length → ¬ (R.getD j ro0).name = nm) : whR R nm = none := by
 refine List.findIdx?_eq_none_iff.2 fun d hd => ?_
 obtain ⟨j, hj, rfl⟩ := List.getElem_of_mem hd
 have := hb j hj
 rw [List.getD_eq_getElem?_getD, List.getElem?_eq_getElem hj] at this
 simpa using this
theorem rgetD_at {R : List Ro} {k : Nat} (hk : k < R.length) : R.getD k ro0 = R[k] := by simp [List.getD_eq_getElem?_getD, hk]

set_option maxHeartbeats 2000000 in
theorem tfind_spec (R : List Ro) (tv rv : Value) (nm : List UInt8) (w0 : World) (hR : Sl w0 2 rv R.length (ros R)) (hlr : R.length * 24 ≤ 140737488351232) (h1v : tv.oneCell' = true) : Ca Try.prog 10 #[.agg #[tv, rv], st nm] w0 (fun v w' => v = .tuple #[.int .i64 (((whR R nm).getD 0 : Nat) : Int), .int .i64 (if (whR R nm).isSome then 0 else 93)] ∧ Ext w0 w') := by
 refine Ca.of Try.func10 Try.ntmps10 rfl rfl (W.seq (W.region (WL.c rfl (o_boxB rfl ?_))))
 intro w2 hC2 hx2 hs2
 obtain ⟨b2, hb2⟩ : ∃ b, b = w0.heap.size := ⟨_, rfl⟩
 rw [← hb2] at hC2 ⊢
 replace hC2 : w2.heap[b2]? = some (.cells ([tv, rv]).toArray 34 (0, 0)) := hC2
 have hx := hx2
 replace hR := hR.ext hx2
 refine WL.c rfl (o_ash vI (WL.c rfl (o_ash vI (WL.nil (W.seq (W.seq (W.region (WL.c rfl (o_fa 1 TI34 rfl TI32 rfl rfl (WL.c rfl (o_ld TI32 rfl rfl (cell_of hC2 rfl) (WL.c rfl (o_lenR TI32 rfl hR (WL.c rfl (o_mvh vI (WL.nil (W.block (W.loop (fun e w => ∃ k : Nat, k ≤ R.length ∧ e 1 = st nm ∧ e 9 = rv ∧ e 10 = .int .i64 (R.length : Int) ∧ e 11 = .int .i64 (k : Int) ∧ Sl w 2 rv R.length (ros R) ∧ (∀ j, j < k → ¬ (R.getD j ro0).name = nm) ∧ Ext w0 w) (fun e w => R.length - (intOf (e 11)).toNat) ?_ ?_))))))))))))))))))
 ·exact ⟨0, Nat.zero_le _, rfl, rfl, rfl, rfl, hR, fun j hj => by omega, hx⟩
 rintro e w ⟨k, hk, h1, h9, h10, h11, hR, hno, hx⟩
 have hm11 := h11
 refine W.seq (W.region (WL.c rfl (o_lt h11 h10 (WL.nil (W.seq (W.cond rfl (fun c12 => ?_) (fun c12 => ?_)))))))
 ·try simp only [cs8] at c12
  have hk1 : k < R.length := by omega
  obtain ⟨ub, uo, uc, hrv, huc⟩ := Sl.roq hR hk1
  rw [hrv] at h9
  refine W.skip (W.seq (W.block (W.seq (W.region (WL.c rfl (o_mvh h11 (WL.c rfl (o_ixB (i := k) TI32 TI47 h9 h11 (by omega) (WL.c rfl (o_ldA TI47 rfl rfl huc rfl (WL.c rfl (o_alB TI47 ?_))))))))))))
  intro wa hCa hxa hsa
  refine WL.c rfl (o_ash vI (WL.u (o_stA TI47 rfl (show _ = Value.agg (roV R[k]).toArray from rfl) rfl rfl hCa rfl ?_)))
  intro wb7 hC7 hob hsb
  have hxb := Ext.own hxa (Nat.le_refl _) hob
  obtain ⟨b7, hb7⟩ : ∃ b, b = w.heap.size := ⟨_, rfl⟩
  rw [← hb7] at hC7 ⊢
  clear hCa hxa hsa hob hsb
  replace hx := hx.tr hxb
  replace hR := hR.ext hxb
  clear hxb
  refine WL.nil (W.seq (W.region (WL.c rfl (o_fa 0 TI47 rfl TI9 rfl rfl (WL.c rfl (o_ld TI9 rfl rfl (cell_of hC7 rfl) (WL.c rfl (o_mvh h1 (WL.c rfl (o_eqT rfl rfl (WL.nil (W.cond rfl (fun c19 => ?_) (fun c19 => ?_)))))))))))))
  ·try simp only [cs8] at c19
   refine W.seq (W.region (WL.c rfl (o_mvh vI (WL.c rfl (o_ash vI (WL.c rfl (o_ash vI (WL.nil (W.ret (ret2v rfl vI vI ?_))))))))))
   exact ⟨by rw [whr_hit hk1 (by simpa using c19) hno]; rfl, hx⟩
  try simp only [cs8] at c19
  refine W.skip (W.region (WL.c rfl (o_addi h11 rfl (by omega) (WL.c rfl (o_mvh vI (WL.nil (⟨⟨k + 1, by omega, h1, h9.trans hrv.symm, h10, rfl, hR, fun j hj => ?_, hx⟩, ?_⟩)))))))
  ·rcases Nat.lt_or_ge j k with h | h
   ·exact hno j h
   rw [show j = k by omega, rgetD_at hk1]; simpa using c19
  show R.length - ((k : Int) + 1).toNat < _
  rw [hm11]; simp [intOf]; omega
 try simp only [cs8] at c12
 have hk1 : k = R.length := by omega
 refine W.exit (W.seq (W.region (WL.c rfl (o_ash vI (WL.c rfl (o_ash vI (WL.nil (W.ret (ret2v rfl vI vI ?_)))))))))
 exact ⟨by rw [whr_miss (fun j hj => hno j (by omega))]; rfl, hx⟩
end Go.Proofs.Ytpbflfgigfdohaa
