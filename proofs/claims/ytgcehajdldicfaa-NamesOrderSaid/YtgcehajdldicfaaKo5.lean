/-
  Walks and lemmas. Written by program out of specs of mine.
-/
import Derived.WalkKit
import Derived.WalkSpells
import Derived.WalkLawsBesides
import Derived.Deep.Quiet
import Derived.StillTail
import Derived.StringKeys
import Derived.Laws.StructEq
import Derived.Laws.Externs
import Derived.Laws.Tables
import Derived.Scope
import Derived.Test.YtgcehajdldicfaaProg
import Derived.Laws.AppendOwn
import Derived.Maps.AppendAt
import Derived.Recover
import Derived.Lib.Bytealg
import Derived.SizedLaws
import Derived.ChangeArms
import Derived.ChangeSlices
import Derived.Maps.OwnSet
import Derived.Test.YtgcehajdldicfaaRows
import Derived.ProofKit
import Derived.OpenShut
import Derived.ShutString
import Derived.ChangeOld
import Derived.Below
import Derived.Test.YtgcehajdldicfaaKo4
set_option linter.unusedSimpArgs false
set_option linter.unusedVariables false
set_option maxRecDepth 100000
set_option linter.unusedSimpArgs false
set_option linter.unusedVariables false
set_option maxRecDepth 100000
namespace Go.Proofs.Ytgcehajdldicfaa
open Go Go.Vc Go.RowKit Go.Proofs
set_option maxHeartbeats 4000000 in
theorem order_walk (w0 : World) (D : List Df) (dv : Value) (V : Nat → Value) (hD : DefR w0 D dv V) (hlim : DOk D) : Ca Try.prog 4 #[.agg #[dv]] w0 (fun v w' => v = .bool true ∧ Ext w0 w') := by
  have hlen := hlim.len
  have hD00 := hD
  obtain ⟨er, at_, hf⟩ : ∃ er at_, flt D = (er, at_) := ⟨_, _, rfl⟩
  obtain ⟨B1, hB1⟩ : ∃ B, B = w0.heap.size := ⟨_, rfl⟩
  refine Ca.of Try.func4 Try.ntmps4 rfl rfl ?_
  refine W.seq ?_
  refine W.region ?_
  refine WL.c rfl (o_boxB rfl ?_)
  intro w1 hC1 hx1 hs1
  obtain ⟨b1, hb1⟩ : ∃ b, b = w0.heap.size := ⟨_, rfl⟩
  rw [← hb1] at hC1 ⊢
  replace hC1 : w1.heap[b1]? = some (.cells ([dv]).toArray 24 (0, 0)) := hC1
  have hx := hx1
  replace hD := hD.ext hx1
  refine WL.c rfl (o_ash (show _ = Value.bool _ from rfl) ?_)
  refine WL.nil ?_
  refine W.seq ?_
  refine W.seq ?_
  refine W.region ?_
  refine WL.c rfl (o_call Try.call9 ln ((first_spec _).mono ?_))
  rintro v16 w16 ⟨rfl, hx16⟩
  replace hx := hx.tr hx16
  replace hD := hD.ext hx16
  replace hC1 := hx16.blk hC1 (fun h => h)
  refine WL.c rfl (o_not' rfl ?_)
  refine WL.nil ?_
  refine W.condF' rfl (by simp) ?_
  refine W.skip ?_
  refine W.seq ?_
  refine W.region ?_
  refine WL.c rfl (o_ldA TI24 rfl rfl (show Cells _ b1 0 [dv] from Cells.of hC1 0 _ (by simp)) rfl ?_)
  refine WL.c rfl (o_call Try.call13 (lc rfl ln) ((order_call D dv V _ hD hlim hf).mono ?_))
  rintro v20 w20 ⟨ov, rfl, hov, hx20⟩
  replace hov := own_mono hov (show B1 ≤ _ by rw [hB1]; exact hx.size)
  replace hx := hx.tr hx20
  replace hD := hD.ext hx20
  replace hC1 := hx20.blk hC1 (fun h => h)
  refine WL.c rfl (o_mvh (by first | exact (show _ = Value.tuple _ from rfl) | exact rfl) ?_)
  refine WL.c rfl (o_ext rfl rfl ?_)
  refine WL.c rfl (o_ext rfl rfl ?_)
  refine WL.c rfl (o_alB TI32 ?_)
  intro wa hCa hxa hsa
  refine WL.c rfl (o_ash (by first | exact (show _ = Value.slice _ _ _ from rfl) | exact rfl) ?_)
  refine WL.u (o_stA TI32 rfl (show _ = Value.agg ([.int .i64 er, .int .i64 at_]).toArray from rfl) rfl rfl hCa rfl ?_)
  intro wb4 hC4 hob hsb
  have hxb := Ext.own hxa (Nat.le_refl _) hob
  obtain ⟨b4, hb4⟩ : ∃ b, b = w20.heap.size := ⟨_, rfl⟩
  rw [← hb4] at hC4 ⊢
  clear hCa hxa hsa hob hsb
  replace hx := hx.tr hxb
  replace hD := hD.ext hxb
  replace hC1 := hxb.blk hC1 (fun h => h)
  replace hov := own_ext hov hxb
  clear hxb
  refine WL.nil ?_
  refine W.seq ?_
  refine W.region ?_
  refine WL.c rfl (o_ldA TI24 rfl rfl (show Cells _ b1 0 [dv] from Cells.of hC1 0 _ (by simp)) rfl ?_)
  refine WL.c rfl (o_call Try.call14 (lc rfl ln) ((depth_call D dv V _ hD hlim hf).mono ?_))
  rintro v25 w25 ⟨dpv, rfl, hdp, hx25⟩
  replace hdp := own_mono hdp (show B1 ≤ _ by rw [hB1]; exact hx.size)
  replace hx := hx.tr hx25
  replace hD := hD.ext hx25
  replace hC1 := hx25.blk hC1 (fun h => h)
  replace hC4 := hx25.blk hC4 (fun h => h)
  replace hov := own_ext hov hx25
  refine WL.c rfl (o_mvh (by first | exact (show _ = Value.tuple _ from rfl) | exact rfl) ?_)
  refine WL.c rfl (o_ext rfl rfl ?_)
  refine WL.c rfl (o_ext rfl rfl ?_)
  refine WL.c rfl (o_alB TI32 ?_)
  intro wa hCa hxa hsa
  refine WL.c rfl (o_ash (by first | exact (show _ = Value.slice _ _ _ from rfl) | exact rfl) ?_)
  refine WL.u (o_stA TI32 rfl (show _ = Value.agg ([.int .i64 er, .int .i64 at_]).toArray from rfl) rfl rfl hCa rfl ?_)
  intro wb6 hC6 hob hsb
  have hxb := Ext.own hxa (Nat.le_refl _) hob
  obtain ⟨b6, hb6⟩ : ∃ b, b = w25.heap.size := ⟨_, rfl⟩
  rw [← hb6] at hC6 ⊢
  clear hCa hxa hsa hob hsb
  replace hx := hx.tr hxb
  replace hD := hD.ext hxb
  replace hC1 := hxb.blk hC1 (fun h => h)
  replace hC4 := hxb.blk hC4 (fun h => h)
  replace hov := own_ext hov hxb
  replace hdp := own_ext hdp hxb
  clear hxb
  refine WL.nil ?_
  refine W.seq ?_
  refine W.seq ?_
  obtain ⟨wd, hwd⟩ : ∃ wd, wd = wb6.drew := ⟨_, rfl⟩
  have hxd : Ext wb6 wd := hwd ▸ Only.drew wb6
  replace hx := hx.tr hxd
  replace hD := hD.ext hxd
  replace hC1 := hxd.blk hC1 (fun h => h)
  replace hC4 := hxd.blk hC4 (fun h => h)
  replace hC6 := hxd.blk hC6 (fun h => h)
  replace hov := own_ext hov hxd
  replace hdp := own_ext hdp hxd
  refine W.draw (Ext) [(1, fun v _ => v = (.pointer (some ⟨b1, 0, none⟩))), (3, fun v _ => v = (ov)), (4, fun v _ => v = (.pointer (some ⟨b4, 0, none⟩))), (5, fun v _ => v = (dpv)), (6, fun v _ => v = (.pointer (some ⟨b6, 0, none⟩)))] rfl (by kernel_rfl) (Only.refl No) (fun _ _ _ h k => h.trans k) ⟨Mono.eq, Mono.eq, Mono.eq, Mono.eq, Mono.eq, trivial⟩ ⟨rfl, rfl, rfl, rfl, rfl, trivial⟩ ?_
  refine WD.p rfl (fun e w hR hh => by obtain ⟨h4, -⟩ := hh; rw [← hwd] at hR; exact SG.n (o_ldA TI32 rfl h4 (show Cells _ b4 0 [.int .i64 er, .int .i64 at_] from Cells.of (hR.blk hC4 (fun h => h)) 0 _ (by simp)) rfl ⟨rfl, Only.refl No _⟩)) ?_
  refine WD.p rfl (fun e w hR hh => by obtain ⟨h1, -⟩ := hh; rw [← hwd] at hR; exact SG.n (o_ldA TI24 rfl h1 (show Cells _ b1 0 [dv] from Cells.of (hR.blk hC1 (fun h => h)) 0 _ (by simp)) rfl ⟨rfl, Only.refl No _⟩)) ?_
  refine WD.p rfl (fun e w hR hh => by obtain ⟨h29, -⟩ := hh; rw [← hwd] at hR; exact SG.n (o_call Try.call12 (lc h29 ln) ((check_call D dv V _ (hD.ext hR) hlim hf).mono (fun v w' ⟨h1, h2⟩ => ⟨h1, h2⟩)))) ?_
  refine WD.p rfl (fun e w hR hh => by obtain ⟨h30, h28, -⟩ := hh; exact SG.n (o_neR TI32 (by kernel_rfl) (by kernel_rfl) h28 h30 (.int TI30 (by decide) rfl rfl (.int TI3 (by decide) rfl rfl .nil)) ⟨rfl, Only.refl No _⟩)) ?_
  refine WD.p rfl (fun e w hR hh => by obtain ⟨h31, -⟩ := hh; exact SG.n (o_mvh h31 ⟨rfl, Only.refl No _⟩)) ?_
  refine WD.p rfl (fun e w hR hh => by obtain ⟨h32, h6, -⟩ := hh; rw [← hwd] at hR; exact SG.g h32 (by simp) (o_ldA TI32 rfl h6 (show Cells _ b6 0 [.int .i64 er, .int .i64 at_] from Cells.of (hR.blk hC6 (fun h => h)) 0 _ (by simp)) rfl ⟨rfl, Only.refl No _⟩)) ?_
  refine WD.p rfl (fun e w hR hh => by obtain ⟨h32, h4, -⟩ := hh; rw [← hwd] at hR; exact SG.g h32 (by simp) (o_ldA TI32 rfl h4 (show Cells _ b4 0 [.int .i64 er, .int .i64 at_] from Cells.of (hR.blk hC4 (fun h => h)) 0 _ (by simp)) rfl ⟨rfl, Only.refl No _⟩)) ?_
  refine WD.p rfl (fun e w hR hh => by obtain ⟨h34, h33, h32, -⟩ := hh; exact SG.g h32 (by simp) (o_neR TI32 (by kernel_rfl) (by kernel_rfl) h33 h34 (.int TI30 (by decide) rfl rfl (.int TI3 (by decide) rfl rfl .nil)) ⟨rfl, Only.refl No _⟩)) ?_
  refine WD.p rfl (fun e w hR hh => by obtain ⟨h35, h32, -⟩ := hh; exact SG.n (o_pickO h32 h35 ⟨rfl, Only.refl No _⟩)) ?_
  rintro e w hR ⟨h36, h35, h34, h33, h32, h31, h30, h29, h28, h1, h3, h4, h5, h6, -⟩
  rw [← hwd] at hR
  replace hx := hx.tr hR
  replace hD := hD.ext hR
  replace hC1 := hR.blk hC1 (fun h => h)
  replace hC4 := hR.blk hC4 (fun h => h)
  replace hov := own_ext hov hR
  replace hdp := own_ext hdp hR
  clear hR hC6 hxd
  refine W.condF' h36 (by simp) ?_
  refine W.skip ?_
  refine W.seq ?_
  refine W.seq ?_
  refine W.region ?_
  refine WL.c rfl (o_fa 0 TI32 rfl TI30 rfl h4 ?_)
  refine WL.c rfl (o_ld TI30 rfl rfl (cell_of hC4 rfl) ?_)
  refine WL.c rfl (o_ne rfl rfl ?_)
  refine WL.nil ?_
  refine W.cond rfl (fun c39 => ?_) (fun c39 => ?_)
  · try simp only [decide_eq_true_eq, decide_eq_false_iff_not, Bool.not_eq_true', Bool.not_eq_false', Bool.and_eq_true, Bool.or_eq_true, Bool.and_eq_false_iff, Bool.or_eq_false_iff] at c39
    have hbad := flt_bad hf (by simpa using c39)
    rw [ordR_bad hbad] at hov
    rw [depR_bad hbad] at hdp
    refine W.seq ?_
    refine W.region ?_
    refine WL.c rfl (o_mvh h3 ?_)
    refine WL.c rfl (o_lenR TI34 rfl (Sl.own hov) ?_)
    refine WL.c rfl (o_eq rfl rfl ?_)
    refine WL.c rfl (o_mvh (show _ = Value.bool _ from rfl) ?_)
    refine WL.g rfl (by simp) rfl (o_mvh h5 ?_)
    refine WL.g rfl (by simp) rfl (o_lenR TI34 rfl (Sl.own hdp) ?_)
    refine WL.g rfl (by simp) rfl (o_eq rfl rfl ?_)
    refine WL.c rfl (o_pickA rfl rfl ?_)
    refine WL.c rfl (o_ash (show _ = Value.bool _ from rfl) ?_)
    refine WL.nil ?_
    refine W.ret ?_
    refine ret1v rfl (show _ = Value.bool _ from rfl) ?_
    exact ⟨congrArg Value.bool (by simp), hx⟩
  · try simp only [decide_eq_true_eq, decide_eq_false_iff_not, Bool.not_eq_true', Bool.not_eq_false', Bool.and_eq_true, Bool.or_eq_true, Bool.and_eq_false_iff, Bool.or_eq_false_iff] at c39
    have hgood := flt_good hf (by simpa using c39)
    rw [ordR_ok hgood] at hov
    rw [depR_ok hgood, ← dps_map, List.length_map, List.length_range] at hdp
    have hG := good_of hgood
    obtain ⟨hto, htl⟩ := hG.ord
    rw [htl] at hov
    refine W.skip ?_
    refine W.seq ?_
    refine W.seq ?_
    refine W.region ?_
    refine WL.c rfl (o_mvh h3 ?_)
    refine WL.c rfl (o_lenR TI34 rfl (Sl.own hov) ?_)
    refine WL.c rfl (o_fa 0 TI24 rfl TI22 rfl h1 ?_)
    refine WL.c rfl (o_ld TI22 rfl rfl (cell_of hC1 rfl) ?_)
    refine WL.c rfl (o_lenR TI22 rfl hD.row ?_)
    refine WL.c rfl (o_ne rfl rfl ?_)
    refine WL.c rfl (o_mvh (show _ = Value.bool _ from rfl) ?_)
    refine WL.g rfl (by simp) rfl (o_mvh h5 ?_)
    refine WL.g rfl (by simp) rfl (o_lenR TI34 rfl (Sl.own hdp) ?_)
    refine WL.g rfl (by simp) rfl (o_fa 0 TI24 rfl TI22 rfl h1 ?_)
    refine WL.g rfl (by simp) rfl (o_ld TI22 rfl rfl (cell_of hC1 rfl) ?_)
    refine WL.g rfl (by simp) rfl (o_lenR TI22 rfl hD.row ?_)
    refine WL.g rfl (by simp) rfl (o_ne rfl rfl ?_)
    refine WL.c rfl (o_pickO rfl rfl ?_)
    refine WL.nil ?_
    refine W.condF' rfl (by simp) ?_
    refine W.skip ?_
    refine W.seq ?_
    refine W.region ?_
    refine WL.c rfl (o_fa 0 TI24 rfl TI22 rfl h1 ?_)
    refine WL.c rfl (o_ld TI22 rfl rfl (cell_of hC1 rfl) ?_)
    refine WL.c rfl (o_lenR TI22 rfl hD.row ?_)
    refine WL.c rfl (o_mk2 TI46 TI4 (l := D.length) (n := D.length) rfl rfl (Nat.le_refl _) (by omega) (by omega) ?_)
    have hrt := own_made1 (w := w) (el := 4) (l := D.length) (n := D.length) (z := .bool false) rfl (Nat.le_refl _) (by omega)
    have hxb : Ext w (w.alloc (.cells (madeCells (Value.bool false).cells (D.length * 1)) 4)) := Only.alloc w _
    have hzt : B1 ≤ w.heap.size := by rw [hB1]; exact hx.size
    generalize w.alloc (.cells (madeCells (Value.bool false).cells (D.length * 1)) 4) = wt at hrt hxb ⊢
    replace hrt := own_mono hrt hzt
    obtain ⟨tv, htv⟩ : ∃ o, o = Value.slice (some ⟨w.heap.size, 0, none⟩) D.length D.length := ⟨_, rfl⟩
    rw [← htv] at hrt ⊢
    rw [← tlB_nil] at hrt
    replace hx := hx.tr hxb
    replace hD := hD.ext hxb
    replace hC1 := hxb.blk hC1 (fun h => h)
    replace hov := own_ext hov hxb
    replace hdp := own_ext hdp hxb
    clear hxb htv
    refine WL.c rfl (o_ash (by first | exact (show _ = Value.slice _ _ _ from rfl) | exact rfl) ?_)
    refine WL.nil ?_
    refine W.seq ?_
    refine W.region ?_
    refine WL.c rfl (o_ash (show _ = Value.bool _ from rfl) ?_)
    refine WL.nil ?_
    refine W.seq ?_
    refine W.seq ?_
    refine W.region ?_
    refine WL.c rfl (o_ash (show _ = Value.int _ _ from rfl) ?_)
    refine WL.nil ?_
    refine W.block ?_
    refine W.loop (fun e w => ∃ (p : Nat) (b : Bool), p ≤ D.length ∧ e 1 = .pointer (some ⟨b1, 0, none⟩) ∧ e 3 = ov ∧ e 5 = dpv ∧ e 7 = tv ∧ e 8 = .bool b ∧ e 9 = .int .i64 (p : Int) ∧ (b = true → ∀ q, q < p → ∀ u ∈ usesD D ((ordN D).getD q 0), u < (ordN D).getD q 0) ∧ DefR w D dv V ∧ w.heap[b1]? = some (.cells #[dv] 24 (0, 0)) ∧ w.ownsRow B1 3 1 ov D.length ((ordN D).map iv) ∧ w.ownsRow B1 3 1 dpv D.length (dps D.length (depN D (TD D))) ∧ w.ownsRow B1 4 1 tv D.length (tlB D.length ((ordN D).take p)) ∧ Ext w0 w) (fun e w => D.length - (intOf (e 9)).toNat) ?_ ?_
    · exact ⟨0, true, Nat.zero_le _, h1, h3, h5, rfl, rfl, rfl, fun _ q hq => by omega, hD, hC1, hov, hdp, hrt, hx⟩
    rintro e w ⟨p, b, hp, h1, h3, h5, h7, h8, h9, hst, hD, hC1, hov, hdp, hrt, hx⟩
    have hm9 := h9
    refine W.seq ?_
    refine W.seq ?_
    refine W.region ?_
    refine WL.c rfl (o_mvh h9 ?_)
    refine WL.c rfl (o_mvh h3 ?_)
    refine WL.c rfl (o_lenR TI34 rfl (Sl.own hov) ?_)
    refine WL.c rfl (o_lt rfl rfl ?_)
    refine WL.nil ?_
    refine W.cond rfl (fun c69 => ?_) (fun c69 => ?_)
    · try simp only [decide_eq_true_eq, decide_eq_false_iff_not, Bool.not_eq_true', Bool.not_eq_false', Bool.and_eq_true, Bool.or_eq_true, Bool.and_eq_false_iff, Bool.or_eq_false_iff] at c69
      have hp1 : p < D.length := by omega
      have hp2 : p < (ordN D).length := by omega
      have hk := hto.lt _ (List.getElem_mem hp2)
      obtain ⟨k, hkk⟩ : ∃ k, k = (ordN D)[p] := ⟨_, rfl⟩
      rw [← hkk] at hk
      obtain ⟨ob, oc, hov1, -⟩ := own_some hov (by omega)
      obtain ⟨db, dc, hdp1, -⟩ := own_some hdp (by omega)
      obtain ⟨tb, tc, htv1, -⟩ := own_some hrt (by omega)
      rw [hov1] at hov h3
      rw [hdp1] at hdp h5
      rw [htv1] at hrt h7
      have hnk2 : ¬ k ∈ (ordN D).take p := by
        intro h1
        obtain ⟨q, hq, hqe⟩ := List.getElem_of_mem h1
        rw [List.length_take] at hq
        rw [List.getElem_take] at hqe
        have h2 := (List.getElem_inj hto.nd).1 (hqe.trans hkk)
        omega
      have hnk : ((ordN D).take p).contains k = false := by simpa using hnk2
      have hoc : w.cell? ⟨ob, 0 + p * 1, none⟩ = some (.int .i64 (k : Int)) := by
        rw [Nat.zero_add, Nat.mul_one, hkk]
        exact own_cell hov (by rw [List.getElem?_map, List.getElem?_eq_getElem hp2]; rfl)
      have htc : w.cell? ⟨tb, 0 + k * 1, none⟩ = some (.bool (((ordN D).take p).contains k)) := by
        rw [Nat.zero_add, Nat.mul_one]
        exact own_cell hrt (tlB_at hk)
      have hdc : w.cell? ⟨db, 0 + k * 1, none⟩ = some (.int .i64 (depN D (TD D) k : Int)) := by
        rw [Nat.zero_add, Nat.mul_one]
        exact own_cell hdp (dps_at hk)
      have hd1 := dep_ge1 hG.trd hto htl k hk
      have hd64 := hG.deep k hk
      obtain ⟨gb, go, gc, rfl, hgc, hty⟩ := hD.atk hk
      have hexk := hlim.ex _ (List.getElem_mem hk)
      have htyk := hlim.ty _ (List.getElem_mem hk)
      refine W.skip ?_
      refine W.seq ?_
      refine W.block ?_
      refine W.seq ?_
      refine W.region ?_
      refine WL.c rfl (o_mvh h3 ?_)
      refine WL.c rfl (o_mvh h9 ?_)
      refine WL.c rfl (o_ixB (i := p) TI34 TI3 (show _ = Value.slice (some ⟨ob, 0, none⟩) D.length oc from rfl) (show _ = Value.int .i64 (p : Int) from rfl) (by omega) ?_)
      refine WL.c rfl (o_ld TI3 rfl rfl hoc ?_)
      refine WL.c rfl (o_ash (show _ = Value.int _ _ from rfl) ?_)
      refine WL.nil ?_
      refine W.seq ?_
      refine W.seq ?_
      refine W.region ?_
      refine WL.c rfl (o_mvh (show _ = Value.int _ _ from rfl) ?_)
      refine WL.c rfl (o_lt rfl rfl ?_)
      refine WL.c rfl (o_mvh (show _ = Value.bool _ from rfl) ?_)
      refine WL.g rfl (decide_eq_false (by omega)) rfl (o_mvh (show _ = Value.int _ _ from rfl) ?_)
      refine WL.g rfl (decide_eq_false (by omega)) rfl (o_mvh h7 ?_)
      refine WL.g rfl (decide_eq_false (by omega)) rfl (o_len TI46 rfl ?_)
      refine WL.g rfl (decide_eq_false (by omega)) rfl (o_ge rfl rfl ?_)
      refine WL.c rfl (o_pickO rfl rfl ?_)
      refine WL.c rfl (o_mvh (show _ = Value.bool _ from rfl) ?_)
      refine WL.g rfl (by simp <;> omega) rfl (o_mvh h7 ?_)
      refine WL.g rfl (by simp <;> omega) rfl (o_mvh (show _ = Value.int _ _ from rfl) ?_)
      refine WL.g rfl (by simp <;> omega) rfl (o_ixB (i := k) TI46 TI4 (show _ = Value.slice (some ⟨tb, 0, none⟩) D.length tc from rfl) (show _ = Value.int .i64 (k : Int) from rfl) (by omega) ?_)
      refine WL.g rfl (by simp <;> omega) rfl (o_ld TI4 rfl rfl htc ?_)
      refine WL.c rfl (o_pickO rfl rfl ?_)
      refine WL.c rfl (o_mvh (show _ = Value.bool _ from rfl) ?_)
      refine WL.g rfl (by simp [hnk2] <;> omega) rfl (o_mvh h5 ?_)
      refine WL.g rfl (by simp [hnk2] <;> omega) rfl (o_mvh (show _ = Value.int _ _ from rfl) ?_)
      refine WL.g rfl (by simp [hnk2] <;> omega) rfl (o_ixB (i := k) TI34 TI3 (show _ = Value.slice (some ⟨db, 0, none⟩) D.length dc from rfl) (show _ = Value.int .i64 (k : Int) from rfl) (by omega) ?_)
      refine WL.g rfl (by simp [hnk2] <;> omega) rfl (o_ld TI3 rfl rfl hdc ?_)
      refine WL.g rfl (by simp [hnk2] <;> omega) rfl (o_lt rfl rfl ?_)
      refine WL.c rfl (o_pickO rfl rfl ?_)
      refine WL.c rfl (o_mvh (show _ = Value.bool _ from rfl) ?_)
      refine WL.g rfl (by simp [hnk2] <;> omega) rfl (o_mvh h5 ?_)
      refine WL.g rfl (by simp [hnk2] <;> omega) rfl (o_mvh (show _ = Value.int _ _ from rfl) ?_)
      refine WL.g rfl (by simp [hnk2] <;> omega) rfl (o_ixB (i := k) TI34 TI3 (show _ = Value.slice (some ⟨db, 0, none⟩) D.length dc from rfl) (show _ = Value.int .i64 (k : Int) from rfl) (by omega) ?_)
      refine WL.g rfl (by simp [hnk2] <;> omega) rfl (o_ld TI3 rfl rfl hdc ?_)
      refine WL.g rfl (by simp [hnk2] <;> omega) rfl (o_gt rfl rfl ?_)
      refine WL.c rfl (o_pickO rfl rfl ?_)
      refine WL.nil ?_
      refine W.condF' rfl (by simp [hnk2] <;> omega) ?_
      refine W.skip ?_
      refine W.seq ?_
      refine W.region ?_
      refine WL.c rfl (o_fa 0 TI24 rfl TI22 rfl h1 ?_)
      refine WL.c rfl (o_ld TI22 rfl rfl (cell_of hC1 rfl) ?_)
      refine WL.c rfl (o_mvh (show _ = Value.int _ _ from rfl) ?_)
      refine WL.c rfl (o_ixB (i := k) TI22 TI39 rfl (show _ = Value.int .i64 (k : Int) from rfl) (by omega) ?_)
      refine WL.c rfl (o_fa 2 TI39 rfl TI37 rfl rfl ?_)
      refine WL.c rfl (o_ld TI37 rfl rfl (hgc 2 _ rfl) ?_)
      refine WL.c rfl (o_ash (by first | exact (show _ = Value.slice _ _ _ from rfl) | exact rfl) ?_)
      refine WL.nil ?_
      refine W.seq ?_
      refine W.seq ?_
      refine W.region ?_
      refine WL.c rfl (o_ash (show _ = Value.int _ _ from rfl) ?_)
      refine WL.nil ?_
      refine W.block ?_
      refine W.loop (fun e w => ∃ (j : Nat) (b2 : Bool), j ≤ D[k].ty.length ∧ e 1 = .pointer (some ⟨b1, 0, none⟩) ∧ e 3 = .slice (some ⟨ob, 0, none⟩) D.length oc ∧ e 5 = .slice (some ⟨db, 0, none⟩) D.length dc ∧ e 7 = .slice (some ⟨tb, 0, none⟩) D.length tc ∧ e 8 = .bool b2 ∧ e 9 = .int .i64 (p : Int) ∧ e 10 = .int .i64 (k : Int) ∧ e 11 = V k ∧ e 12 = .int .i64 (j : Int) ∧ (b2 = true → b = true ∧ ∀ x ∈ D[k].ty.take j, x.kind = 9 → whD D x.name < k) ∧ DefR w D (.slice (some ⟨gb, go, none⟩) D.length gc) V ∧ w.heap[b1]? = some (.cells #[(.slice (some ⟨gb, go, none⟩) D.length gc)] 24 (0, 0)) ∧ w.ownsRow B1 3 1 (.slice (some ⟨ob, 0, none⟩) D.length oc) D.length ((ordN D).map iv) ∧ w.ownsRow B1 3 1 (.slice (some ⟨db, 0, none⟩) D.length dc) D.length (dps D.length (depN D (TD D))) ∧ w.ownsRow B1 4 1 (.slice (some ⟨tb, 0, none⟩) D.length tc) D.length (tlB D.length ((ordN D).take p)) ∧ Ext w0 w) (fun e w => D[k].ty.length - (intOf (e 12)).toNat) ?_ ?_
      · exact ⟨0, b, Nat.zero_le _, h1, h3, h5, h7, h8, h9, rfl, rfl, rfl, fun h => ⟨h, fun x hx => by simp at hx⟩, hD, hC1, hov, hdp, hrt, hx⟩
      rintro e w ⟨j, b2, hj, h1, h3, h5, h7, h8, h9, h10, h11, h12, hst2, hD, hC1, hov, hdp, hrt, hx⟩
      have hm12 := h12
      have hty := hD.tys k hk
      rw [tyD_at hk] at hty
      refine W.seq ?_
      refine W.seq ?_
      refine W.region ?_
      refine WL.c rfl (o_mvh h12 ?_)
      refine WL.c rfl (o_mvh h11 ?_)
      refine WL.c rfl (o_lenR TI37 rfl hty ?_)
      refine WL.c rfl (o_lt rfl rfl ?_)
      refine WL.nil ?_
      refine W.cond rfl (fun c113 => ?_) (fun c113 => ?_)
      · try simp only [decide_eq_true_eq, decide_eq_false_iff_not, Bool.not_eq_true', Bool.not_eq_false', Bool.and_eq_true, Bool.or_eq_true, Bool.and_eq_false_iff, Bool.or_eq_false_iff] at c113
        have hj1 : j < D[k].ty.length := by omega
        obtain ⟨ub, uo, uc, hVk, huc⟩ := Sl.exq hty hj1
        rw [hVk] at h11
        refine W.skip ?_
        refine W.seq ?_
        refine W.block ?_
        refine W.seq ?_
        refine W.seq ?_
        refine W.region ?_
        refine WL.c rfl (o_mvh h11 ?_)
        refine WL.c rfl (o_mvh h12 ?_)
        refine WL.c rfl (o_ixB TI37 TI26 rfl rfl (by omega) ?_)
        refine WL.c rfl (o_fa 0 TI26 rfl TI3 rfl rfl ?_)
        refine WL.c rfl (o_ld TI3 rfl rfl (huc 0 _ rfl) ?_)
        refine WL.c rfl (o_ne rfl rfl ?_)
        refine WL.nil ?_
        refine W.cond rfl (fun c121 => ?_) (fun c121 => ?_)
        · try simp only [decide_eq_true_eq, decide_eq_false_iff_not, Bool.not_eq_true', Bool.not_eq_false', Bool.and_eq_true, Bool.or_eq_true, Bool.and_eq_false_iff, Bool.or_eq_false_iff] at c121
          have hst2N : b2 = true → b = true ∧ ∀ x ∈ D[k].ty.take (j + 1), x.kind = 9 → whD D x.name < k := fun h => ⟨(hst2 h).1, fun x hx h9 => by
            rw [List.take_succ_eq_append_getElem hj1] at hx
            rcases List.mem_append.1 hx with hx | hx
            · exact (hst2 h).2 x hx h9
            · rw [List.mem_singleton.1 hx] at h9
              simp [h9] at c121⟩
          refine W.exit ?_
          refine W.region ?_
          refine WL.c rfl (o_mvh h12 ?_)
          refine WL.c rfl (o_addi rfl rfl (by omega) ?_)
          refine WL.c rfl (o_ash (show _ = Value.int _ _ from rfl) ?_)
          refine WL.nil ?_
          refine ⟨⟨j + 1, _, by omega, h1, h3, h5, h7, by first | exact h8 | exact rfl, h9, h10, h11.trans hVk.symm, rfl, hst2N, hD, hC1, hov, hdp, hrt, hx⟩, ?_⟩
          show D[k].ty.length - ((j : Int) + 1).toNat < _
          rw [hm12]; simp [intOf]; omega
        · try simp only [decide_eq_true_eq, decide_eq_false_iff_not, Bool.not_eq_true', Bool.not_eq_false', Bool.and_eq_true, Bool.or_eq_true, Bool.and_eq_false_iff, Bool.or_eq_false_iff] at c121
          have h9k : D[k].ty[j].kind = 9 := by simpa using c121
          have hwn := wh_some hG.kn hk (List.getElem_mem hj1) h9k
          have hum := uses_mem hk (List.getElem_mem hj1) h9k
          have hnm := (hexk _ (List.getElem_mem hj1)).1
          obtain ⟨u, hu⟩ : ∃ u, u = whD D D[k].ty[j].name := ⟨_, rfl⟩
          have hdu := dep_use hG.trd hto htl hk (List.getElem_mem hj1) h9k
          rw [← hu] at hwn hum hdu
          have hut : u ∈ (ordN D).take p := hto.bh p hp2 u (by rw [← hkk]; exact hum)
          have hun : u < D.length := hto.lt u (List.mem_of_mem_take hut)
          have htu : ((ordN D).take p).contains u = true := by simpa using hut
          refine W.skip ?_
          refine W.seq ?_
          obtain ⟨wd, hwd⟩ : ∃ wd, wd = w.drew := ⟨_, rfl⟩
          have hxd : Ext w wd := hwd ▸ Only.drew w
          replace hx := hx.tr hxd
          replace hD := hD.ext hxd
          replace hC1 := hxd.blk hC1 (fun h => h)
          replace hov := own_ext hov hxd
          replace hdp := own_ext hdp hxd
          replace hrt := own_ext hrt hxd
          replace hty := hty.ext hxd
          replace huc := Cells.only huc hxd (fun h => h)
          refine W.draw (Ext) [(1, fun v _ => v = _), (3, fun v _ => v = _), (5, fun v _ => v = _), (7, fun v _ => v = _), (8, fun v _ => v = _), (9, fun v _ => v = _), (10, fun v _ => v = _), (11, fun v _ => v = _), (12, fun v _ => v = _)] rfl (by kernel_rfl) (Only.refl No) (fun _ _ _ h k => h.trans k) ⟨Mono.eq, Mono.eq, Mono.eq, Mono.eq, Mono.eq, Mono.eq, Mono.eq, Mono.eq, Mono.eq, trivial⟩ ⟨h1, h3, h5, h7, h8, h9, h10, h11, h12, trivial⟩ ?_
          refine WD.p rfl (fun e w hR hh => by obtain ⟨h1, -⟩ := hh; rw [← hwd] at hR; exact SG.n (o_ldA TI24 rfl h1 (show Cells _ b1 0 [.slice (some ⟨gb, go, none⟩) D.length gc] from Cells.of (hR.blk hC1 (fun h => h)) 0 _ (by simp)) rfl ⟨rfl, Only.refl No _⟩)) ?_
          refine WD.p rfl (fun e w hR hh => by obtain ⟨h11, -⟩ := hh; exact SG.n (o_mvh h11 ⟨rfl, Only.refl No _⟩)) ?_
          refine WD.p rfl (fun e w hR hh => by obtain ⟨h12, -⟩ := hh; exact SG.n (o_mvh h12 ⟨rfl, Only.refl No _⟩)) ?_
          refine WD.p rfl (fun e w hR hh => by obtain ⟨h125, h124, -⟩ := hh; exact SG.n (o_ixB (i := j) TI37 TI26 h124 h125 (by omega) ⟨rfl, Only.refl No _⟩)) ?_
          refine WD.p rfl (fun e w hR hh => by obtain ⟨h126, -⟩ := hh; exact SG.n (o_fa 2 TI26 rfl TI9 rfl h126 ⟨rfl, Only.refl No _⟩)) ?_
          refine WD.p rfl (fun e w hR hh => by obtain ⟨h127, -⟩ := hh; rw [← hwd] at hR; exact SG.n (o_ld TI9 rfl h127 (Cells.only huc hR (fun h => h) 2 _ rfl) ⟨rfl, Only.refl No _⟩)) ?_
          refine WD.p rfl (fun e w hR hh => by obtain ⟨h128, h123, -⟩ := hh; rw [← hwd] at hR; exact SG.n (o_call Try.call19 (lc h123 (lc h128 ln)) ((find_call D _ V D[k].ty[j].name _ (hD.ext hR) hlen hwn).mono (fun v w' ⟨h1, h2⟩ => ⟨h1, h2⟩)))) ?_
          refine WD.p rfl (fun e w hR hh => by obtain ⟨h129, -⟩ := hh; exact SG.n (o_mvh h129 ⟨rfl, Only.refl No _⟩)) ?_
          refine WD.p rfl (fun e w hR hh => by obtain ⟨h122, -⟩ := hh; exact SG.n (o_ext h122 rfl ⟨rfl, Only.refl No _⟩)) ?_
          refine WD.p rfl (fun e w hR hh => by obtain ⟨h122, -⟩ := hh; exact SG.n (o_ext h122 rfl ⟨rfl, Only.refl No _⟩)) ?_
          refine WD.p rfl (fun e w hR hh => by obtain ⟨h130, -⟩ := hh; exact SG.n (o_ash h130 ⟨rfl, Only.refl No _⟩)) ?_
          refine WD.p rfl (fun e w hR hh => by obtain ⟨h131, -⟩ := hh; exact SG.n (o_ash h131 ⟨rfl, Only.refl No _⟩)) ?_
          rintro e w hR ⟨h14, h13, h131, h130, h122, h129, h128, h127, h126, h125, h124, h123, h1, h3, h5, h7, h8, h9, h10, h11, h12, -⟩
          rw [← hwd] at hR
          replace hx := hx.tr hR
          replace hD := hD.ext hR
          replace hC1 := hR.blk hC1 (fun h => h)
          replace hov := own_ext hov hR
          replace hdp := own_ext hdp hR
          replace hrt := own_ext hrt hR
          have htc2 : w.cell? ⟨tb, 0 + u * 1, none⟩ = some (.bool (((ordN D).take p).contains u)) := by
            rw [Nat.zero_add, Nat.mul_one]
            exact own_cell hrt (tlB_at hun)
          have hdc2 : w.cell? ⟨db, 0 + u * 1, none⟩ = some (.int .i64 (depN D (TD D) u : Int)) := by
            rw [Nat.zero_add, Nat.mul_one]
            exact own_cell hdp (dps_at hun)
          have hdc3 : w.cell? ⟨db, 0 + k * 1, none⟩ = some (.int .i64 (depN D (TD D) k : Int)) := by
            rw [Nat.zero_add, Nat.mul_one]
            exact own_cell hdp (dps_at hk)
          refine W.seq ?_
          refine W.seq ?_
          refine W.quiet rfl (by kernel_rfl) ?_
          refine WQ.c rfl ((QO.o rfl fun _ => o_mvh h14 ⟨rfl, rfl⟩)) ?_
          refine WQ.c rfl ((QO.o rfl fun _ => o_ne rfl rfl ⟨rfl, rfl⟩)) ?_
          refine WQ.c rfl ((QO.o rfl fun _ => o_mvh (show _ = Value.bool _ from rfl) ⟨rfl, rfl⟩)) ?_
          refine WQ.g rfl (by simp) rfl ((QO.o rfl fun _ => o_mvh h13 ⟨rfl, rfl⟩)) ?_
          refine WQ.g rfl (by simp) rfl ((QO.o rfl fun _ => o_lt rfl rfl ⟨rfl, rfl⟩)) ?_
          refine WQ.c rfl ((QO.r fun _ => r_pickO rfl rfl)) ?_
          refine WQ.c rfl ((QO.o rfl fun _ => o_mvh (show _ = Value.bool _ from rfl) ⟨rfl, rfl⟩)) ?_
          refine WQ.g rfl (by simp <;> omega) rfl ((QO.o rfl fun _ => o_mvh h13 ⟨rfl, rfl⟩)) ?_
          refine WQ.g rfl (by simp <;> omega) rfl ((QO.o rfl fun _ => o_mvh h7 ⟨rfl, rfl⟩)) ?_
          refine WQ.g rfl (by simp <;> omega) rfl ((QO.r fun _ => r_len TI46 rfl)) ?_
          refine WQ.g rfl (by simp <;> omega) rfl ((QO.o rfl fun _ => o_ge rfl rfl ⟨rfl, rfl⟩)) ?_
          refine WQ.c rfl ((QO.r fun _ => r_pickO rfl rfl)) ?_
          refine WQ.c rfl ((QO.o rfl fun _ => o_mvh (show _ = Value.bool _ from rfl) ⟨rfl, rfl⟩)) ?_
          refine WQ.g rfl (by simp <;> omega) rfl ((QO.o rfl fun _ => o_mvh h7 ⟨rfl, rfl⟩)) ?_
          refine WQ.g rfl (by simp <;> omega) rfl ((QO.o rfl fun _ => o_mvh h13 ⟨rfl, rfl⟩)) ?_
          refine WQ.g rfl (by simp <;> omega) rfl ((QO.o rfl fun _ => o_ixB (i := u) TI46 TI4 (show _ = Value.slice (some ⟨tb, 0, none⟩) D.length tc from rfl) (show _ = Value.int .i64 (u : Int) from rfl) (by omega) ⟨rfl, rfl⟩)) ?_
          refine WQ.g rfl (by simp <;> omega) rfl ((QO.o rfl fun _ => o_ld TI4 rfl rfl htc2 ⟨rfl, rfl⟩)) ?_
          refine WQ.g rfl (by simp <;> omega) rfl ((QO.o rfl fun _ => o_not' rfl ⟨rfl, rfl⟩)) ?_
          refine WQ.c rfl ((QO.r fun _ => r_pickO rfl rfl)) ?_
          refine WQ.c rfl ((QO.o rfl fun _ => o_mvh (show _ = Value.bool _ from rfl) ⟨rfl, rfl⟩)) ?_
          refine WQ.g rfl (by simp [hut] <;> omega) rfl ((QO.o rfl fun _ => o_mvh h5 ⟨rfl, rfl⟩)) ?_
          refine WQ.g rfl (by simp [hut] <;> omega) rfl ((QO.o rfl fun _ => o_mvh h13 ⟨rfl, rfl⟩)) ?_
          refine WQ.g rfl (by simp [hut] <;> omega) rfl ((QO.o rfl fun _ => o_ixB (i := u) TI34 TI3 (show _ = Value.slice (some ⟨db, 0, none⟩) D.length dc from rfl) (show _ = Value.int .i64 (u : Int) from rfl) (by omega) ⟨rfl, rfl⟩)) ?_
          refine WQ.g rfl (by simp [hut] <;> omega) rfl ((QO.o rfl fun _ => o_ld TI3 rfl rfl hdc2 ⟨rfl, rfl⟩)) ?_
          refine WQ.g rfl (by simp [hut] <;> omega) rfl ((QO.o rfl fun _ => o_mvh h5 ⟨rfl, rfl⟩)) ?_
          refine WQ.g rfl (by simp [hut] <;> omega) rfl ((QO.o rfl fun _ => o_mvh h10 ⟨rfl, rfl⟩)) ?_
          refine WQ.g rfl (by simp [hut] <;> omega) rfl ((QO.o rfl fun _ => o_ixB (i := k) TI34 TI3 (show _ = Value.slice (some ⟨db, 0, none⟩) D.length dc from rfl) (show _ = Value.int .i64 (k : Int) from rfl) (by omega) ⟨rfl, rfl⟩)) ?_
          refine WQ.g rfl (by simp [hut] <;> omega) rfl ((QO.o rfl fun _ => o_ld TI3 rfl rfl hdc3 ⟨rfl, rfl⟩)) ?_
          refine WQ.g rfl (by simp [hut] <;> omega) rfl ((QO.o rfl fun _ => o_gt rfl rfl ⟨rfl, rfl⟩)) ?_
          refine WQ.c rfl ((QO.r fun _ => r_pickO rfl rfl)) ?_
          refine WQ.nil ?_
          intro nq
          obtain ⟨wq, hwq⟩ : ∃ q, q = w.drewN nq := ⟨_, rfl⟩
          have hxq : Ext w wq := hwq ▸ Only.drewN w nq
          rw [← hwq]
          replace hx := hx.tr hxq
          replace hD := hD.ext hxq
          replace hC1 := hxq.blk hC1 (fun h => h)
          replace hov := own_ext hov hxq
          replace hdp := own_ext hdp hxq
          replace hrt := own_ext hrt hxq
          refine W.condF' rfl (by simp [hut] <;> omega) ?_
          refine W.skip ?_
          cases b2
          · skip
            have hst2N : false = true → b = true ∧ ∀ x ∈ D[k].ty.take (j + 1), x.kind = 9 → whD D x.name < k := fun h => by cases h
            refine W.region ?_
            refine WL.c rfl (o_mvh h8 ?_)
            refine WL.c rfl (o_mvh (show _ = Value.bool _ from rfl) ?_)
            refine WL.s rfl (rfl) rfl ?_
            refine WL.s rfl (rfl) rfl ?_
            refine WL.s rfl (rfl) rfl ?_
            refine WL.c rfl (o_pickF rfl (rfl) ?_)
            refine WL.c rfl (o_ash (show _ = Value.bool _ from rfl) ?_)
            refine WL.nil ?_
            refine W.region ?_
            refine WL.c rfl (o_mvh h12 ?_)
            refine WL.c rfl (o_addi rfl rfl (by omega) ?_)
            refine WL.c rfl (o_ash (show _ = Value.int _ _ from rfl) ?_)
            refine WL.nil ?_
            refine ⟨⟨j + 1, _, by omega, h1, h3, h5, h7, by first | exact h8 | exact rfl, h9, h10, h11.trans hVk.symm, rfl, hst2N, hD, hC1, hov, hdp, hrt, hx⟩, ?_⟩
            show D[k].ty.length - ((j : Int) + 1).toNat < _
            rw [hm12]; simp [intOf]; omega
          · skip
            have hst2N : (true && decide ((u : Int) < (k : Int))) = true → b = true ∧ ∀ x ∈ D[k].ty.take (j + 1), x.kind = 9 → whD D x.name < k := fun h => ⟨(hst2 rfl).1, fun x hx h9 => by
              rw [List.take_succ_eq_append_getElem hj1] at hx
              rcases List.mem_append.1 hx with hx | hx
              · exact (hst2 rfl).2 x hx h9
              · rw [List.mem_singleton.1 hx, ← hu]
                simp at h
                exact h⟩
            refine W.region ?_
            refine WL.c rfl (o_mvh h8 ?_)
            refine WL.c rfl (o_mvh (show _ = Value.bool _ from rfl) ?_)
            refine WL.g rfl (rfl) rfl (o_mvh h13 ?_)
            refine WL.g rfl (rfl) rfl (o_mvh h10 ?_)
            refine WL.g rfl (rfl) rfl (o_lt rfl rfl ?_)
            refine WL.c rfl (o_pickA rfl rfl ?_)
            refine WL.c rfl (o_ash (show _ = Value.bool _ from rfl) ?_)
            refine WL.nil ?_
            refine W.region ?_
            refine WL.c rfl (o_mvh h12 ?_)
            refine WL.c rfl (o_addi rfl rfl (by omega) ?_)
            refine WL.c rfl (o_ash (show _ = Value.int _ _ from rfl) ?_)
            refine WL.nil ?_
            refine ⟨⟨j + 1, _, by omega, h1, h3, h5, h7, by first | exact h8 | exact rfl, h9, h10, h11.trans hVk.symm, rfl, hst2N, hD, hC1, hov, hdp, hrt, hx⟩, ?_⟩
            show D[k].ty.length - ((j : Int) + 1).toNat < _
            rw [hm12]; simp [intOf]; omega
      · try simp only [decide_eq_true_eq, decide_eq_false_iff_not, Bool.not_eq_true', Bool.not_eq_false', Bool.and_eq_true, Bool.or_eq_true, Bool.and_eq_false_iff, Bool.or_eq_false_iff] at c113
        have hj1 : j = D[k].ty.length := by omega
        have hstK := hst2
        rw [hj1, List.take_length] at hstK
        refine W.exit ?_
        refine W.region ?_
        refine WL.c rfl (o_mvh h7 ?_)
        refine WL.c rfl (o_mvh h10 ?_)
        refine WL.c rfl (o_ixB (i := k) TI46 TI4 (show _ = Value.slice (some ⟨tb, 0, none⟩) D.length tc from rfl) (show _ = Value.int .i64 (k : Int) from rfl) (by omega) ?_)
        refine WL.u (o_stRj TI4 rfl (show 0 + k * 1 = k by omega) (show _ = Value.bool true from rfl) rfl hrt (show Value.ownBlock (Value.slice (some ⟨tb, 0, none⟩) D.length tc) = some tb from rfl) (by omega) ?_)
        intro w49 hrt49 ho49 hs49
        have hlo : B1 ≤ tb := (hrt.lt tb rfl).1
        replace hC1 := ho49.blk hC1 (fun hb => own_off hrt hC1 (by decide) hb)
        replace hov := own_only hov ho49 (own_row_off hrt hov (by decide))
        replace hdp := own_only hdp ho49 (own_row_off hrt hdp (by decide))
        replace hx := hx.trans' ho49 (fun _ h => h) (fun b hb he => by
          have : tb = b := by simpa [Value.ownBlock] using he
          omega)
        replace hD := hD00.ext hx
        clear hrt
        rw [tlB_set, hkk, ← List.take_succ_eq_append_getElem hp2] at hrt49
        have hrt := hrt49
        refine WL.nil ?_
        refine W.region ?_
        refine WL.c rfl (o_mvh h9 ?_)
        refine WL.c rfl (o_addi rfl rfl (by omega) ?_)
        refine WL.c rfl (o_ash (show _ = Value.int _ _ from rfl) ?_)
        refine WL.nil ?_
        refine ⟨⟨p + 1, b2, by omega, h1, h3.trans hov1.symm, h5.trans hdp1.symm, h7.trans htv1.symm, h8, rfl, fun hb q hq u hu => ?_, hD, hC1, by rw [hov1]; exact hov, by rw [hdp1]; exact hdp, by rw [htv1]; exact hrt, hx⟩, ?_⟩
        · obtain ⟨hb1, hb2⟩ := hstK hb
          rcases Nat.lt_or_ge q p with h | h
          · exact hst hb1 q h u hu
          · obtain rfl : q = p := by omega
            rw [List.getD_eq_getElem?_getD, List.getElem?_eq_getElem hp2, Option.getD_some, ← hkk] at hu ⊢
            unfold usesD at hu
            rw [tyD_at hk] at hu
            obtain ⟨x, hxm, rfl⟩ := List.mem_map.1 hu
            obtain ⟨hxm, h9⟩ := List.mem_filter.1 hxm
            exact hb2 x hxm (of_decide_eq_true h9)
        · show D.length - ((p : Int) + 1).toNat < _
          rw [hm9]; simp [intOf]; omega
    · try simp only [decide_eq_true_eq, decide_eq_false_iff_not, Bool.not_eq_true', Bool.not_eq_false', Bool.and_eq_true, Bool.or_eq_true, Bool.and_eq_false_iff, Bool.or_eq_false_iff] at c69
      have hp1 : p = D.length := by omega
      refine W.exit ?_
      refine W.seq ?_
      refine W.seq ?_
      cases b
      · skip
        skip
        refine W.region ?_
        refine WL.c rfl (o_ash (show _ = Value.int _ _ from rfl) ?_)
        refine WL.nil ?_
        refine W.block ?_
        refine W.loop (fun e w => ∃ i : Nat, i ≤ D.length ∧ e 3 = ov ∧ e 8 = .bool false ∧ e 15 = .int .i64 (i : Int) ∧ w.ownsRow B1 3 1 ov D.length ((ordN D).map iv) ∧ Ext w0 w) (fun e w => D.length - (intOf (e 15)).toNat) ?_ ?_
        · exact ⟨0, Nat.zero_le _, h3, h8, rfl, hov, hx⟩
        rintro e w ⟨i, hi, h3, h8, h15, hov, hx⟩
        have hm15 := h15
        refine W.seq ?_
        refine W.seq ?_
        refine W.region ?_
        refine WL.c rfl (o_mvh h8 ?_)
        refine WL.c rfl (o_mvh (show _ = Value.bool _ from rfl) ?_)
        refine WL.s rfl (rfl) rfl ?_
        refine WL.s rfl (rfl) rfl ?_
        refine WL.s rfl (rfl) rfl ?_
        refine WL.s rfl (rfl) rfl ?_
        refine WL.c rfl (o_pickF rfl (rfl) ?_)
        refine WL.nil ?_
        refine W.condF' rfl (rfl) ?_
        refine W.exit ?_
        refine W.seq ?_
        refine W.region ?_
        refine WL.c rfl (o_ash (show _ = Value.bool _ from rfl) ?_)
        refine WL.nil ?_
        refine W.ret ?_
        refine ret1v rfl (show _ = Value.bool _ from rfl) ?_
        exact ⟨rfl, hx⟩
      · skip
        have hor : ordN D = List.range D.length := ord_range hG (fun i hi k hk => by
          obtain ⟨q, hq, hqe⟩ := List.getElem_of_mem (hto.all htl i hi)
          have h1 := hst rfl q (by omega) k
          rw [List.getD_eq_getElem?_getD, List.getElem?_eq_getElem hq, Option.getD_some, hqe] at h1
          exact h1 hk)
        refine W.region ?_
        refine WL.c rfl (o_ash (show _ = Value.int _ _ from rfl) ?_)
        refine WL.nil ?_
        refine W.block ?_
        refine W.loop (fun e w => ∃ i : Nat, i ≤ D.length ∧ e 3 = ov ∧ e 8 = .bool true ∧ e 15 = .int .i64 (i : Int) ∧ w.ownsRow B1 3 1 ov D.length ((ordN D).map iv) ∧ Ext w0 w) (fun e w => D.length - (intOf (e 15)).toNat) ?_ ?_
        · exact ⟨0, Nat.zero_le _, h3, h8, rfl, hov, hx⟩
        rintro e w ⟨i, hi, h3, h8, h15, hov, hx⟩
        have hm15 := h15
        refine W.seq ?_
        refine W.seq ?_
        refine W.region ?_
        refine WL.c rfl (o_mvh h8 ?_)
        refine WL.c rfl (o_mvh (show _ = Value.bool _ from rfl) ?_)
        refine WL.g rfl (rfl) rfl (o_mvh h15 ?_)
        refine WL.g rfl (rfl) rfl (o_mvh h3 ?_)
        refine WL.g rfl (rfl) rfl (o_lenR TI34 rfl (Sl.own hov) ?_)
        refine WL.g rfl (rfl) rfl (o_lt rfl rfl ?_)
        refine WL.c rfl (o_pickA rfl rfl ?_)
        refine WL.nil ?_
        refine W.cond rfl (fun c177 => ?_) (fun c177 => ?_)
        · try simp only [decide_eq_true_eq, decide_eq_false_iff_not, Bool.not_eq_true', Bool.not_eq_false', Bool.and_eq_true, Bool.or_eq_true, Bool.and_eq_false_iff, Bool.or_eq_false_iff] at c177
          have hi1 : i < D.length := by simpa using c177
          obtain ⟨ob, oc, hov1, -⟩ := own_some hov (by omega)
          rw [hov1] at hov h3
          have hoc : w.cell? ⟨ob, 0 + i * 1, none⟩ = some (.int .i64 (i : Int)) := by
            rw [Nat.zero_add, Nat.mul_one]
            exact own_cell hov (by rw [hor, List.getElem?_map, List.getElem?_range hi1]; rfl)
          refine W.skip ?_
          refine W.seq ?_
          refine W.block ?_
          refine W.seq ?_
          refine W.region ?_
          refine WL.c rfl (o_mvh h3 ?_)
          refine WL.c rfl (o_mvh h15 ?_)
          refine WL.c rfl (o_ixB (i := i) TI34 TI3 (show _ = Value.slice (some ⟨ob, 0, none⟩) D.length oc from rfl) (show _ = Value.int .i64 (i : Int) from rfl) (by omega) ?_)
          refine WL.c rfl (o_ld TI3 rfl rfl hoc ?_)
          refine WL.c rfl (o_mvh h15 ?_)
          refine WL.c rfl (o_ne rfl rfl ?_)
          refine WL.nil ?_
          refine W.condF' rfl (by simp) ?_
          refine W.skip ?_
          refine W.region ?_
          refine WL.c rfl (o_mvh h15 ?_)
          refine WL.c rfl (o_addi rfl rfl (by omega) ?_)
          refine WL.c rfl (o_ash (show _ = Value.int _ _ from rfl) ?_)
          refine WL.nil ?_
          refine ⟨⟨i + 1, by omega, h3.trans hov1.symm, h8, rfl, by rw [hov1]; exact hov, hx⟩, ?_⟩
          show D.length - ((i : Int) + 1).toNat < _
          rw [hm15]; simp [intOf]; omega
        · try simp only [decide_eq_true_eq, decide_eq_false_iff_not, Bool.not_eq_true', Bool.not_eq_false', Bool.and_eq_true, Bool.or_eq_true, Bool.and_eq_false_iff, Bool.or_eq_false_iff] at c177
          refine W.exit ?_
          refine W.seq ?_
          refine W.region ?_
          refine WL.c rfl (o_ash (show _ = Value.bool _ from rfl) ?_)
          refine WL.nil ?_
          refine W.ret ?_
          refine ret1v rfl (show _ = Value.bool _ from rfl) ?_
          exact ⟨rfl, hx⟩
end Go.Proofs.Ytgcehajdldicfaa
