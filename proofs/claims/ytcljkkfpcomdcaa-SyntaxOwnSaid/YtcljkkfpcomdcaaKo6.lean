/-
  Walks and lemmas. Written by program out of specs of mine.
-/
import Derived.WalkKit
import Derived.WalkSpells
import Derived.WalkLawsBesides
import Derived.Deep.Quiet
import Derived.StillTail
import Derived.StringKeys
import Derived.Laws.StructEq
import Derived.Laws.Externs
import Derived.Laws.Tables
import Derived.Scope
import Derived.Test.YtcljkkfpcomdcaaProg
import Derived.Laws.AppendOwn
import Derived.Maps.AppendAt
import Derived.Recover
import Derived.Lib.Bytealg
import Derived.SizedLaws
import Derived.ChangeArms
import Derived.ChangeSlices
import Derived.Test.YtcljkkfpcomdcaaRows
import Derived.ProofKit
import Derived.OpenShut
import Derived.ShutString
import Derived.ChangeOld
import Derived.Below
import Derived.Test.YtcljkkfpcomdcaaKo5
set_option linter.unusedSimpArgs false
set_option linter.unusedVariables false
set_option maxRecDepth 100000
set_option linter.unusedSimpArgs false
set_option linter.unusedVariables false
set_option maxRecDepth 100000
namespace Go.Proofs.Ytcljkkfpcomdcaa
open Go Go.Vc Go.RowKit Go.Proofs
set_option maxHeartbeats 8000000 in
theorem own_walk (w0 : World) (v : Value) (ss : List (List UInt8)) (hsl : ss.length ≤ 9223372036854775807) (hss : ∀ s ∈ ss, s.length ≤ 9223372036854775807) (hS : Sl w0 1 v ss.length (ss.map st)) : Ca Try.prog 10 #[v] w0 (fun v w' => v = .bool true ∧ Ext w0 w') := by
  obtain ⟨fD, fa, fb, hf256, hfok, hfix⟩ := parse_fix
  have hgok := gD_ok (ss := ss) hfok
  have hg256 := gD_256 (ss := ss) hf256
  refine Ca.of Try.func10 Try.ntmps10 rfl rfl ?_
  refine W.seq ?_
  refine W.region ?_
  refine WL.c rfl (o_ash (show _ = Value.bool _ from rfl) ?_)
  refine WL.nil ?_
  refine W.seq ?_
  refine W.seq ?_
  refine W.region ?_
  refine WL.c rfl (o_call Try.call11 ln ((first_spec _).mono ?_))
  rintro v25 w25 ⟨rfl, hx⟩
  refine WL.c rfl (o_not' rfl ?_)
  refine WL.nil ?_
  refine W.condF' rfl (rfl) ?_
  refine W.skip ?_
  refine W.seq ?_
  refine W.region ?_
  refine WL.c rfl (o_ash (by first | exact (show _ = Value.slice _ _ _ from rfl) | exact rfl) ?_)
  refine WL.c rfl (o_ash (by first | exact (show _ = Value.slice _ _ _ from rfl) | exact rfl) ?_)
  refine WL.nil ?_
  refine W.seq ?_
  refine W.seq ?_
  have hz0 := hx.size
  generalize hH0 : w25.heap.size = H0 at hz0
  refine W.region ?_
  refine WL.c rfl (o_ash (show _ = Value.int _ _ from rfl) ?_)
  refine WL.nil ?_
  refine W.block ?_
  refine W.loop (fun e w => ∃ (i : Nat) (V : Nat → Value) (U : Nat → Nat → Value) (ow : Nat → Nat) (Wv : Nat → Value) (WU : Nat → Nat → Value) (vg vw : Value), i ≤ ss.length ∧ i ≤ 12 ∧ e 0 = v ∧ e 3 = vg ∧ e 4 = vw ∧ e 5 = .int .i64 (i : Int) ∧ AllS w H0 (4 * i) (gD ss fD) V U ∧ OwnS ow (4 * i) (gD ss fD) V U ∧ AllS w H0 (4 * i) (gD ss fD) Wv WU ∧ w.ownsRow H0 28 1 vg (4 * i) ((List.range (4 * i)).map V) ∧ w.ownsRow H0 28 1 vw (4 * i) ((List.range (4 * i)).map Wv) ∧ Dj vg vw ∧ H0 ≤ w.heap.size ∧ Ext w0 w) (fun e w => 12 - (intOf (e 5)).toNat) ?_ ?_
  · exact ⟨0, fun _ => undef, fun _ _ => undef, fun _ => 0, fun _ => undef, fun _ _ => undef, _, _, Nat.zero_le _, by omega, rfl, rfl, rfl, rfl, fun j hj => by omega, fun j hj => by omega, fun j hj => by omega, World.ownsRow_nil _ _ _ _, World.ownsRow_nil _ _ _ _, Dj.none, Nat.le_of_eq hH0.symm, hx⟩
  rintro e w ⟨i, V, U, ow, Wv, WU, vg, vw, hi, hi12, h0, h3, h4, h5, hG, hO, hW, hg, hw, hDj, hzw, hx⟩
  have hm5 := h5
  refine W.seq ?_
  refine W.seq ?_
  refine W.region ?_
  refine WL.cut (fun e1 w1 => e1 34 = .bool (decide (i < ss.length) && decide (i < 12)) ∧ e1 0 = v ∧ e1 3 = vg ∧ e1 4 = vw ∧ e1 5 = .int .i64 (i : Int) ∧ w1 = w) ?_ ?_
  · -- region 5
    refine WL.c rfl (o_mvh h5 ?_)
    refine WL.c rfl (o_mvh h0 ?_)
    refine WL.c rfl (o_lenR TI62 rfl (hS.ext hx) ?_)
    refine WL.c rfl (o_lt rfl rfl ?_)
    refine WL.c rfl (o_mvh (show _ = Value.bool _ from rfl) ?_)
    refine WL.sp 4 rfl (fun g31 => ?_) (fun g31 => ?_)
    · skip
      refine WL.g rfl (g31) rfl (o_mvh h5 ?_)
      refine WL.g rfl (g31) rfl (o_lt rfl rfl ?_)
      refine WL.c rfl (o_pickA rfl rfl ?_)
      exact WL.nil (⟨congrArg Value.bool (by rw [Bool.eq_iff_iff]; simp_all <;> omega), h0, h3, h4, h5, rfl⟩)
    · skip
      refine WL.s rfl (g31) rfl ?_
      refine WL.s rfl (g31) rfl ?_
      refine WL.c rfl (o_pickF rfl (g31) ?_)
      exact WL.nil (⟨congrArg Value.bool (by rw [Bool.eq_iff_iff]; simp_all <;> omega), h0, h3, h4, h5, rfl⟩)
  rintro e w ⟨h34, h0, h3, h4, h5, rfl⟩
  refine W.cond h34 (fun c34 => ?_) (fun c34 => ?_)
  · try simp only [decide_eq_true_eq, decide_eq_false_iff_not, Bool.not_eq_true', Bool.not_eq_false', Bool.and_eq_true, Bool.or_eq_true, Bool.and_eq_false_iff, Bool.or_eq_false_iff] at c34
    obtain ⟨hi1, hi2⟩ := c34
    refine W.skip ?_
    refine W.seq ?_
    refine W.block ?_
    refine W.seq ?_
    refine W.region ?_
    refine WL.c rfl (o_ash (show _ = Value.int _ _ from rfl) ?_)
    refine WL.nil ?_
    refine W.block ?_
    refine W.loop (fun e w => ∃ (k : Nat) (V : Nat → Value) (U : Nat → Nat → Value) (ow : Nat → Nat) (Wv : Nat → Value) (WU : Nat → Nat → Value) (vg vw : Value), k ≤ 2 ∧ e 0 = v ∧ e 3 = vg ∧ e 4 = vw ∧ e 5 = .int .i64 (i : Int) ∧ e 6 = .int .i64 (k : Int) ∧ AllS w H0 (4 * i + 2 * k) (gD ss fD) V U ∧ OwnS ow (4 * i + 2 * k) (gD ss fD) V U ∧ AllS w H0 (4 * i + 2 * k) (gD ss fD) Wv WU ∧ w.ownsRow H0 28 1 vg (4 * i + 2 * k) ((List.range (4 * i + 2 * k)).map V) ∧ w.ownsRow H0 28 1 vw (4 * i + 2 * k) ((List.range (4 * i + 2 * k)).map Wv) ∧ Dj vg vw ∧ H0 ≤ w.heap.size ∧ Ext w0 w) (fun e w => 2 - (intOf (e 6)).toNat) ?_ ?_
    · exact ⟨0, V, U, ow, Wv, WU, vg, vw, by omega, h0, h3, h4, h5, rfl, hG, hO, hW, hg, hw, hDj, hzw, hx⟩
    rintro e w ⟨k, V, U, ow, Wv, WU, vg, vw, hk, h0, h3, h4, h5, h6, hG, hO, hW, hg, hw, hDj, hzw, hx⟩
    have hm6 := h6
    refine W.seq ?_
    refine W.seq ?_
    by_cases hk2 : k < 2
    · skip
      refine W.region ?_
      refine WL.c rfl (o_mvh h6 ?_)
      refine WL.c rfl (o_lt rfl rfl ?_)
      refine WL.nil ?_
      refine W.condT' rfl (by simp; omega) ?_
      refine W.skip ?_
      refine W.seq ?_
      refine W.block ?_
      refine W.seq ?_
      have hgl := fun (b : Nat) (hb : vg.ownBlock = some b) => (hg.lt b hb).2
      have hwl := fun (b : Nat) (hb : vw.ownBlock = some b) => (hw.lt b hb).2
      obtain ⟨m0, hm0⟩ : ∃ m, m = w.heap.size := ⟨_, rfl⟩
      rw [← hm0] at hgl hwl hzw
      have hGl : ∀ j, j < 4 * i + 2 * k → ∀ b, DF (V j) (U j) (gD ss fD j).length b → b < m0 := fun j hj b hb => by rw [hm0]; exact ((hG j hj).lt b hb).2
      refine W.region ?_
      refine WL.c rfl (o_mvh h0 ?_)
      refine WL.c rfl (o_mvh h5 ?_)
      refine WL.c rfl (o_ix1 TI62 TI9 rfl rfl (hS.ext hx) (by omega) ?_)
      intro b44 o44 hc44 hb44
      refine WL.c rfl (o_ld TI9 rfl rfl (hc44.trans (st_one ss i hi1)) ?_)
      refine WL.c rfl (o_call Try.call19 (lc rfl ln) ((parse_spec ss[i] _ (hss _ (List.getElem_mem hi1))).mono ?_))
      rintro v46 w46 ⟨dv46, V46, rfl, hD46, hxp46⟩
      replace hx := hx.tr hxp46
      replace hG := hG.ext hxp46
      replace hW := hW.ext hxp46
      replace hg := own_ext hg hxp46
      replace hw := own_ext hw hxp46
      rw [← hm0] at hD46
      refine WL.c rfl (o_mvh (by first | exact (show _ = Value.tuple _ from rfl) | exact rfl) ?_)
      refine WL.c rfl (o_ext rfl rfl ?_)
      refine WL.c rfl (o_ext rfl rfl ?_)
      refine WL.c rfl (o_alB TI28 ?_)
      intro wa hCs hxs hss
      refine WL.c rfl (o_alB TI49 ?_)
      intro wb hCf hxf hsf
      replace hCs := hxf.blk hCs (fun h => h)
      refine WL.u (o_stA TI28 rfl (show _ = Value.agg #[dv46] from rfl) rfl (by simp [own_one hD46.row]) hCs rfl ?_)
      intro wc hB7 hos hsz
      replace hCf := hos.blk hCf (by omega)
      refine WL.u (o_stA TI49 rfl (show _ = Value.agg (faultV (parseA ss[i]).2.1 (parseA ss[i]).2.2) from rfl) rfl rfl hCf rfl ?_)
      intro w8z hB8 hof hsz2
      replace hB7 := hof.blk hB7 (by omega)
      have hxn : Ext w46 w8z := ((hxs.tr hxf).trans' hos (fun _ h => h) (fun k hk he => by omega)).trans' hof (fun _ h => h) (fun k hk he => by omega)
      obtain ⟨b7, hb7⟩ : ∃ b, b = w46.heap.size := ⟨_, rfl⟩
      obtain ⟨b8, hb8⟩ : ∃ b, b = wa.heap.size := ⟨_, rfl⟩
      rw [← hb7] at hB7 ⊢
      rw [← hb8] at hB8 ⊢
      clear hCs hCf hos hof
      replace hx := hx.tr hxn
      replace hG := hG.ext hxn
      replace hW := hW.ext hxn
      replace hg := own_ext hg hxn
      replace hw := own_ext hw hxn
      replace hD46 := hD46.ext hxn
      clear hxn
      have l7 : m0 ≤ b7 := by have := hxp46.size; omega
      have l7b := (Array.getElem?_eq_some_iff.1 hB7).1
      refine WL.nil ?_
      refine W.seq ?_
      refine W.region ?_
      have hl46 := fun b hb => (hD46.lt b hb).2
      obtain ⟨m1, hm1⟩ : ∃ m, m = w8z.heap.size := ⟨_, rfl⟩
      rw [← hm1] at hl46 l7b
      refine WL.c rfl (o_call Try.call19 (lc rfl ln) ((hfix _).mono ?_))
      rintro v50 w50 ⟨dv50, V50, rfl, hD50, hxp50⟩
      replace hx := hx.tr hxp50
      replace hG := hG.ext hxp50
      replace hW := hW.ext hxp50
      replace hg := own_ext hg hxp50
      replace hw := own_ext hw hxp50
      replace hB7 := hxp50.blk hB7 (fun h => h)
      replace hB8 := hxp50.blk hB8 (fun h => h)
      replace hD46 := hD46.ext hxp50
      rw [← hm1] at hD50
      refine WL.c rfl (o_mvh (by first | exact (show _ = Value.tuple _ from rfl) | exact rfl) ?_)
      refine WL.c rfl (o_ext rfl rfl ?_)
      refine WL.c rfl (o_ext rfl rfl ?_)
      refine WL.c rfl (o_alB TI28 ?_)
      intro wa hCs hxs hss
      refine WL.c rfl (o_alB TI49 ?_)
      intro wb hCf hxf hsf
      replace hCs := hxf.blk hCs (fun h => h)
      refine WL.u (o_stA TI28 rfl (show _ = Value.agg #[dv50] from rfl) rfl (by simp [own_one hD50.row]) hCs rfl ?_)
      intro wc hB9 hos hsz
      replace hCf := hos.blk hCf (by omega)
      refine WL.u (o_stA TI49 rfl (show _ = Value.agg (faultV _ _) from rfl) rfl rfl hCf rfl ?_)
      intro w10z hB10 hof hsz2
      replace hB9 := hof.blk hB9 (by omega)
      have hxn : Ext w50 w10z := ((hxs.tr hxf).trans' hos (fun _ h => h) (fun k hk he => by omega)).trans' hof (fun _ h => h) (fun k hk he => by omega)
      obtain ⟨b9, hb9⟩ : ∃ b, b = w50.heap.size := ⟨_, rfl⟩
      obtain ⟨b10, hb10⟩ : ∃ b, b = wa.heap.size := ⟨_, rfl⟩
      rw [← hb9] at hB9 ⊢
      rw [← hb10] at hB10 ⊢
      clear hCs hCf hos hof
      replace hx := hx.tr hxn
      replace hG := hG.ext hxn
      replace hW := hW.ext hxn
      replace hg := own_ext hg hxn
      replace hw := own_ext hw hxn
      replace hB7 := hxn.blk hB7 (fun h => h)
      replace hB8 := hxn.blk hB8 (fun h => h)
      replace hD46 := hD46.ext hxn
      replace hD50 := hD50.ext hxn
      clear hxn
      have l9 : m1 ≤ b9 := by have := hxp50.size; omega
      have l9b := (Array.getElem?_eq_some_iff.1 hB9).1
      refine WL.nil ?_
      refine W.seq ?_
      refine W.region ?_
      refine WL.c rfl (o_mvh h3 ?_)
      refine WL.c rfl (o_ldA TI28 rfl rfl (show Cells _ b7 0 [dv46] from Cells.of hB7 0 _ (by simp)) rfl ?_)
      refine WL.c rfl (o_ldA TI28 rfl rfl (show Cells _ b9 0 [dv50] from Cells.of hB9 0 _ (by simp)) rfl ?_)
      refine WL.c rfl (o_bs2A TI63 TI28 rfl rfl ?_)
      have hbl : (w10z.alloc (Obj.cells #[dv46, dv50] 28)).heap[w10z.heap.size]? = some (.cells #[dv46, dv50] 28 (0, 0)) := heap_alloc_new _ _
      have hxl := Only.alloc w10z (Obj.cells #[dv46, dv50] 28)
      have hzl : (w10z.alloc (Obj.cells #[dv46, dv50] 28)).heap.size = w10z.heap.size + 1 := by show (Array.push _ _).size = _; simp
      generalize w10z.alloc (Obj.cells #[dv46, dv50] 28) = w56 at hbl hxl hzl ⊢
      have hl56 : w56.ownsRow H0 28 1 (.slice (some ⟨w10z.heap.size, 0, none⟩) 2 2) 2 [dv46, dv50] := ⟨rfl, .inr ⟨_, _, _, rfl, by omega, hbl, by omega, by rw [maxLen_eq]; omega, rfl, rfl⟩⟩
      replace hx := hx.tr hxl
      replace hG := hG.ext hxl
      replace hW := hW.ext hxl
      replace hg := own_ext hg hxl
      replace hw := own_ext hw hxl
      replace hB7 := hxl.blk hB7 (fun h => h)
      replace hB9 := hxl.blk hB9 (fun h => h)
      replace hD46 := hD46.ext hxl
      replace hD50 := hD50.ext hxl
      refine WL.c rfl (o_apO (H0) TI63 TI28 rfl (show _ = Value.slice _ _ _ from rfl) hg (Sl.own hl56) rfl (by decide) (by intro a ha; simp at ha; rcases ha with rfl | rfl; exact own_one hD46.row; exact own_one hD50.row) (by rw [maxLen_eq]; omega) (by omega) (by omega) ?_)
      intro vg1 w57 hg1 hog hbg hSg
      replace hB7 := hog.blk hB7 (fun he => by have := hgl _ he; omega)
      replace hB9 := hog.blk hB9 (fun he => by have := hgl _ he; omega)
      replace hG := hG.other hg (by decide) (by decide) hog
      replace hW := hW.other hg (by decide) (by decide) hog
      replace hD46 := hD46.other hg (by decide) (by decide) hog
      replace hD50 := hD50.other hg (by decide) (by decide) hog
      replace hx := Ext.many hx hz0 hog (fun k hk => (hg.lt k hk).1)
      replace hw := own_only hw hog hDj.symm
      have hD1 : Dj vg1 vw := hDj.step hbg (fun k hk => by have := hwl k hk; omega)
      have hz57 := hog.size
      clear hog hSg hbg hg
      refine WL.c rfl (o_ash (by first | exact (show _ = Value.slice _ _ _ from rfl) | exact rfl) ?_)
      refine WL.nil ?_
      obtain ⟨wd, hwd⟩ : ∃ wd, wd = w57.drew := ⟨_, rfl⟩
      have hxd : Ext w57 wd := hwd ▸ Only.drew w57
      replace hx := hx.tr hxd
      replace hG := hG.ext hxd
      replace hW := hW.ext hxd
      replace hg1 := own_ext hg1 hxd
      replace hw := own_ext hw hxd
      replace hB7 := hxd.blk hB7 (fun h => h)
      replace hB9 := hxd.blk hB9 (fun h => h)
      replace hD46 := hD46.ext hxd
      replace hD50 := hD50.ext hxd
      have hzd := hxd.size
      refine W.drawT 6 (Ext) [(0, fun v _ => v = _), (3, fun v _ => v = _), (4, fun v _ => v = _), (5, fun v _ => v = _), (6, fun v _ => v = _), (7, fun v _ => v = _), (9, fun v _ => v = _)] rfl (by kernel_rfl) (Only.refl No) (fun _ _ _ h k => h.trans k) ⟨Mono.eq, Mono.eq, Mono.eq, Mono.eq, Mono.eq, Mono.eq, Mono.eq, trivial⟩ ⟨h0, rfl, h4, h5, h6, rfl, rfl, trivial⟩ ?_
      refine WD.p rfl (fun e w hR hh => by obtain ⟨h4, -⟩ := hh; exact SG.n (o_mvh h4 ⟨rfl, Only.refl No _⟩)) ?_
      refine WD.p rfl (fun e w hR hh => by obtain ⟨h7, -⟩ := hh; rw [← hwd] at hR; exact SG.n (o_ldA TI28 rfl h7 (show Cells _ b7 0 [dv46] from Cells.of (hR.blk hB7 (fun h => h)) 0 _ (by simp)) rfl ⟨rfl, Only.refl No _⟩)) ?_
      refine WD.q (fun u w => ∃ gv Uu, u = .agg #[gv] ∧ Defs w wd.heap.size (parseA ss[i]).1 gv Uu) (fun u w w2 hR hh => by obtain ⟨gv, Uu, h1, h2⟩ := hh; exact ⟨gv, Uu, h1, h2.ext hR⟩) rfl (fun e w hR hh => by obtain ⟨h59, -⟩ := hh; rw [← hwd] at hR; exact SG.n (o_call Try.call13 (lc h59 ln) ((lent_spec (parseA ss[i]).1 dv46 V46 _ (hD46.rd.ext hR) (parse_ok _)).mono (fun v w' ⟨gv, Uu, h1, h2, h3⟩ => ⟨⟨shr gv, _, h1, h2.defs.mono hR.size⟩, h3⟩)))) ?_
      refine WD.p rfl (fun e w hR hh => by obtain ⟨h9, -⟩ := hh; rw [← hwd] at hR; exact SG.n (o_ldA TI28 rfl h9 (show Cells _ b9 0 [dv50] from Cells.of (hR.blk hB9 (fun h => h)) 0 _ (by simp)) rfl ⟨rfl, Only.refl No _⟩)) ?_
      refine WD.q (fun u w => ∃ gv Uu, u = .agg #[gv] ∧ Defs w wd.heap.size fD gv Uu) (fun u w w2 hR hh => by obtain ⟨gv, Uu, h1, h2⟩ := hh; exact ⟨gv, Uu, h1, h2.ext hR⟩) rfl (fun e w hR hh => by obtain ⟨h61, -⟩ := hh; rw [← hwd] at hR; exact SG.n (o_call Try.call13 (lc h61 ln) ((lent_spec fD dv50 V50 _ (hD50.rd.ext hR) hfok).mono (fun v w' ⟨gv, Uu, h1, h2, h3⟩ => ⟨⟨shr gv, _, h1, h2.defs.mono hR.size⟩, h3⟩)))) ?_
      refine WD.q (fun u w => ∃ ga Ua gb Ub, Defs w wd.heap.size (parseA ss[i]).1 ga Ua ∧ Defs w wd.heap.size fD gb Ub ∧ ∃ b, wd.heap.size ≤ b ∧ w.heap[b]? = some (.cells #[ga, gb] 28 (0, 0)) ∧ u = .slice (some ⟨b, 0, none⟩) 2 2) (fun u w w2 hR hh => by obtain ⟨ga, Ua, gb, Ub, h1, h2, b, h3, h4, h5⟩ := hh; exact ⟨ga, Ua, gb, Ub, h1.ext hR, h2.ext hR, b, h3, hR.blk h4 (fun h => h), h5⟩) rfl (fun e w hR hh => by obtain ⟨h62, h60, -⟩ := hh; rw [← hwd] at hR; obtain ⟨ga, Ua, h60, hda⟩ := h60; obtain ⟨gb, Ub, h62, hdb⟩ := h62; exact SG.n (o_bs2A TI63 TI28 h60 h62 ⟨⟨ga, Ua, gb, Ub, hda.ext (Only.alloc _ _), hdb.ext (Only.alloc _ _), _, hR.size, heap_alloc_new _ _, rfl⟩, Only.alloc _ _⟩)) ?_
      rintro e w hR ⟨h63, h62, h61, h60, h59, h58, h0, h3, h4, h5, h6, h7, h9, -⟩
      rw [← hwd] at hR
      obtain ⟨ga, Ua, gb, Ub, hda, hdb, bz, hbz, hBz, h63⟩ := h63
      replace hx := hx.tr hR
      replace hG := hG.ext hR
      replace hW := hW.ext hR
      replace hg1 := own_ext hg1 hR
      replace hw := own_ext hw hR
      replace hD46 := hD46.ext hR
      replace hD50 := hD50.ext hR
      have hzR := hR.size
      have hzB := (Array.getElem?_eq_some_iff.1 hBz).1
      have hl63 : w.ownsRow H0 28 1 (.slice (some ⟨bz, 0, none⟩) 2 2) 2 [ga, gb] := ⟨rfl, .inr ⟨_, _, _, rfl, by omega, hBz, by omega, by rw [maxLen_eq]; omega, rfl, rfl⟩⟩
      have hgl1 := fun (b : Nat) (hb : vg1.ownBlock = some b) => (hg1.lt b hb).2
      refine WL.c rfl (o_apO (H0) TI63 TI28 h58 h63 hw (Sl.own hl63) rfl (by decide) (by intro a ha; simp at ha; rcases ha with rfl | rfl; exact own_one hda.row; exact own_one hdb.row) (by rw [maxLen_eq]; omega) (by omega) (by omega) ?_)
      intro vw1 w64 hw1 how hbw hSw
      replace hG := hG.other hw (by decide) (by decide) how
      replace hW := hW.other hw (by decide) (by decide) how
      replace hD46 := hD46.other hw (by decide) (by decide) how
      replace hD50 := hD50.other hw (by decide) (by decide) how
      replace hx := Ext.many hx hz0 how (fun k hk => (hw.lt k hk).1)
      replace hda := hda.other hw (by decide) (by decide) how
      replace hdb := hdb.other hw (by decide) (by decide) how
      replace hg1 := own_only hg1 how hD1
      have hD2 : Dj vg1 vw1 := (hD1.symm.step hbw (fun k hk => hgl1 k hk)).symm
      have hz64 := how.size
      have hG2 := (hG.snoc (show Defs w64 H0 (gD ss fD (4 * i + 2 * k)) dv46 V46 from by rw [gD_x hi1 hk2]; exact hD46.mono hzw)).snoc (show Defs w64 H0 (gD ss fD (4 * i + 2 * k + 1)) dv50 V50 from by rw [show 4 * i + 2 * k + 1 = 2 * (2 * i + k) + 1 by omega, gD_y]; exact hD50.mono (by omega))
      have hW2 := (hW.snoc (show Defs w64 H0 (gD ss fD (4 * i + 2 * k)) ga Ua from by rw [gD_x hi1 hk2]; exact hda.mono (by omega))).snoc (show Defs w64 H0 (gD ss fD (4 * i + 2 * k + 1)) gb Ub from by rw [show 4 * i + 2 * k + 1 = 2 * (2 * i + k) + 1 by omega, gD_y]; exact hdb.mono (by omega))
      have hO2 := (hO.snoc m0 hGl (fun b hb => by rw [gD_x hi1 hk2] at hb; exact (hD46.lt b hb).1)).snoc m1 (lt_snoc (fun j hj b hb => by have := hGl j hj b hb; omega) (fun b hb => by rw [gD_x hi1 hk2] at hb; exact hl46 b hb)) (fun b hb => by rw [show 4 * i + 2 * k + 1 = 2 * (2 * i + k) + 1 by omega, gD_y] at hb; exact (hD50.lt b hb).1)
      have e2 : 4 * i + 2 * (k + 1) = 4 * i + 2 * k + 1 + 1 := by omega
      clear how hSw hbw hw
      refine WL.c rfl (o_ash (by first | exact (show _ = Value.slice _ _ _ from rfl) | exact rfl) ?_)
      refine WL.nil ?_
      refine W.region ?_
      refine WL.c rfl (o_mvh h6 ?_)
      refine WL.c rfl (o_addi rfl rfl (by omega) ?_)
      refine WL.c rfl (o_ash (show _ = Value.int _ _ from rfl) ?_)
      refine WL.nil ?_
      refine ⟨⟨k + 1, _, _, _, _, _, vg1, vw1, by omega, h0, h3, rfl, h5, rfl, by rw [e2]; exact hG2, by rw [e2]; exact hO2, by rw [e2]; exact hW2, by rw [e2, map_snoc, map_snoc, List.append_assoc]; exact hg1, by rw [e2, map_snoc, map_snoc, List.append_assoc]; exact hw1, hD2, by omega, hx⟩, ?_⟩
      show 2 - ((k : Int) + 1).toNat < _
      rw [hm6]; simp [intOf]; omega
    · skip
      have hk : k = 2 := by omega
      subst hk
      rw [show 4 * i + 2 * 2 = 4 * (i + 1) by omega] at hG hO hW hg hw
      refine W.region ?_
      refine WL.c rfl (o_mvh h6 ?_)
      refine WL.c rfl (o_lt rfl rfl ?_)
      refine WL.nil ?_
      refine W.condF' rfl (by simp) ?_
      refine W.exit ?_
      refine W.region ?_
      refine WL.c rfl (o_mvh h5 ?_)
      refine WL.c rfl (o_addi rfl rfl (by omega) ?_)
      refine WL.c rfl (o_ash (show _ = Value.int _ _ from rfl) ?_)
      refine WL.nil ?_
      refine ⟨⟨i + 1, V, U, ow, Wv, WU, vg, vw, by omega, by omega, h0, h3, h4, rfl, hG, hO, hW, hg, hw, hDj, hzw, hx⟩, ?_⟩
      show 12 - ((i : Int) + 1).toNat < _
      rw [hm5]; simp [intOf]; omega
  · try simp only [decide_eq_true_eq, decide_eq_false_iff_not, Bool.not_eq_true', Bool.not_eq_false', Bool.and_eq_true, Bool.or_eq_true, Bool.and_eq_false_iff, Bool.or_eq_false_iff] at c34
    obtain ⟨N, hN⟩ : ∃ N, N = 4 * i := ⟨_, rfl⟩
    rw [← hN] at hG hO hW hg hw
    have hN48 : N ≤ 48 := by omega
    clear c34 h34 h0 h5 hm5 hS
    refine W.exit ?_
    refine W.seq ?_
    refine W.seq ?_
    refine W.region ?_
    refine WL.c rfl (o_ash (show _ = Value.int _ _ from rfl) ?_)
    refine WL.nil ?_
    refine W.block ?_
    refine W.loop (fun e w => ∃ q : Nat, q ≤ N ∧ e 3 = vg ∧ e 4 = vw ∧ e 11 = .int .i64 (q : Int) ∧ AllS w H0 (N) (gD ss fD) V U ∧ OwnS ow (N) (gD ss fD) V U ∧ AllS w H0 (N) (gD ss fD) Wv WU ∧ w.ownsRow H0 28 1 vg (N) ((List.range (N)).map V) ∧ w.ownsRow H0 28 1 vw (N) ((List.range (N)).map Wv) ∧ Dj vg vw ∧ H0 ≤ w.heap.size ∧ Ext w0 w) (fun e w => N - (intOf (e 11)).toNat) ?_ ?_
    · exact ⟨0, by omega, h3, h4, rfl, hG, hO, hW, hg, hw, hDj, hzw, hx⟩
    rintro e w ⟨q, hq, h3, h4, h11, hG, hO, hW, hg, hw, hDj, hzw, hx⟩
    have hm11 := h11
    refine W.seq ?_
    refine W.seq ?_
    refine W.region ?_
    refine WL.c rfl (o_mvh h11 ?_)
    refine WL.c rfl (o_mvh h3 ?_)
    refine WL.c rfl (o_lenR TI63 rfl (Sl.own hg) ?_)
    refine WL.c rfl (o_lt rfl rfl ?_)
    refine WL.nil ?_
    refine W.cond rfl (fun c68 => ?_) (fun c68 => ?_)
    · try simp only [decide_eq_true_eq, decide_eq_false_iff_not, Bool.not_eq_true', Bool.not_eq_false', Bool.and_eq_true, Bool.or_eq_true, Bool.and_eq_false_iff, Bool.or_eq_false_iff] at c68
      have hq1 : q < N := by omega
      refine W.skip ?_
      refine W.seq ?_
      refine W.block ?_
      refine W.seq ?_
      obtain ⟨g1, cg, hvg, -⟩ := own_some hg (by omega)
      obtain ⟨g2, cw, hvw, -⟩ := own_some hw (by omega)
      rw [hvg] at h3
      rw [hvw] at h4
      obtain ⟨wd, hwd⟩ : ∃ wd, wd = w.drew := ⟨_, rfl⟩
      have hxd : Ext w wd := hwd ▸ Only.drew w
      replace hx := hx.tr hxd
      replace hG := hG.ext hxd
      replace hW := hW.ext hxd
      replace hg := own_ext hg hxd
      replace hw := own_ext hw hxd
      have hzd := hxd.size
      have hge := hg
      have hwe := hw
      rw [hvg] at hge
      rw [hvw] at hwe
      refine W.draw (Ext) [(3, fun v _ => v = _), (11, fun v _ => v = _), (4, fun v _ => v = _)] rfl (by kernel_rfl) (Only.refl No) (fun _ _ _ h k => h.trans k) ⟨Mono.eq, Mono.eq, Mono.eq, trivial⟩ ⟨h3, h11, h4, trivial⟩ ?_
      refine WD.p rfl (fun e w hR hh => by obtain ⟨h3, -⟩ := hh; exact SG.n (o_mvh h3 ⟨rfl, Only.refl No _⟩)) ?_
      refine WD.p rfl (fun e w hR hh => by obtain ⟨h11, -⟩ := hh; exact SG.n (o_mvh h11 ⟨rfl, Only.refl No _⟩)) ?_
      refine WD.p rfl (fun e w hR hh => by obtain ⟨h72, h71, -⟩ := hh; exact SG.n (o_ixB TI63 TI28 h71 h72 (by omega) ⟨rfl, Only.refl No _⟩)) ?_
      refine WD.p rfl (fun e w hR hh => by obtain ⟨h73, -⟩ := hh; rw [← hwd] at hR; exact SG.n (o_ldA TI28 rfl h73 (own_cell1 (own_ext hge hR) (map_at hq1)) rfl ⟨rfl, Only.refl No _⟩)) ?_
      refine WD.p rfl (fun e w hR hh => by obtain ⟨h4, -⟩ := hh; exact SG.n (o_mvh h4 ⟨rfl, Only.refl No _⟩)) ?_
      refine WD.p rfl (fun e w hR hh => by obtain ⟨h11, -⟩ := hh; exact SG.n (o_mvh h11 ⟨rfl, Only.refl No _⟩)) ?_
      refine WD.p rfl (fun e w hR hh => by obtain ⟨h76, h75, -⟩ := hh; exact SG.n (o_ixB TI63 TI28 h75 h76 (by omega) ⟨rfl, Only.refl No _⟩)) ?_
      refine WD.p rfl (fun e w hR hh => by obtain ⟨h77, -⟩ := hh; rw [← hwd] at hR; exact SG.n (o_ldA TI28 rfl h77 (own_cell1 (own_ext hwe hR) (map_at hq1)) rfl ⟨rfl, Only.refl No _⟩)) ?_
      refine WD.p rfl (fun e w hR hh => by obtain ⟨h78, h74, -⟩ := hh; rw [← hwd] at hR; exact SG.n (o_call Try.call20 (lc h74 (lc h78 (lc rfl ln))) ((same_spec (gD ss fD q) (gD ss fD q) (V q) (Wv q) (U q) (WU q) _ ((hG q hq1).rd.ext hR) ((hW q hq1).rd.ext hR) (by have := hg256 q; omega) (fun d hd => by have := (hgok q).ty d hd; omega)).mono (fun v w' h => h)))) ?_
      refine WD.p rfl (fun e w hR hh => by obtain ⟨h79, -⟩ := hh; exact SG.n (o_not' h79 ⟨rfl, Only.refl No _⟩)) ?_
      rintro e w hR ⟨h80, h79, h78, h77, h76, h75, h74, h73, h72, h71, h3, h11, h4, -⟩
      rw [← hwd] at hR
      have hzR := hR.size
      replace hx := hx.tr hR
      replace hG := hG.ext hR
      replace hW := hW.ext hR
      replace hg := own_ext hg hR
      replace hw := own_ext hw hR
      refine W.condF' h80 (by simp) ?_
      refine W.skip ?_
      refine W.region ?_
      refine WL.c rfl (o_mvh h11 ?_)
      refine WL.c rfl (o_addi rfl rfl (by omega) ?_)
      refine WL.c rfl (o_ash (show _ = Value.int _ _ from rfl) ?_)
      refine WL.nil ?_
      refine ⟨⟨q + 1, by omega, h3.trans hvg.symm, h4.trans hvw.symm, rfl, hG, hO, hW, hg, hw, hDj, by omega, hx⟩, ?_⟩
      show N - ((q : Int) + 1).toNat < _
      rw [hm11]; simp [intOf]; omega
    · try simp only [decide_eq_true_eq, decide_eq_false_iff_not, Bool.not_eq_true', Bool.not_eq_false', Bool.and_eq_true, Bool.or_eq_true, Bool.and_eq_false_iff, Bool.or_eq_false_iff] at c68
      have hqN : q = N := by omega
      obtain ⟨Q, TY0, hQ, hMT, hQs⟩ := flat_types N hG hO
      have hMD := flat_rows hG hO
      have hTle := offS_le hg256 N
      obtain ⟨T, hT⟩ : ∃ T, T = offS (gD ss fD) N := ⟨_, rfl⟩
      have hlt4 : ∀ i, i < N → ∀ k, k < (gD ss fD i).length → offS (gD ss fD) i + k < T := fun i hi k hk => by rw [hT]; exact offS_lt hk N hi
      rw [← hT] at hMT hQs hTle
      have hTn : ∀ q, q < T → (TY0 q).length * 72 ≤ 140737488351232 := fun q hq => by
        obtain ⟨i, k, h1, h2, h3, h4⟩ := hQs q hq
        rw [h4]; exact (hgok i).tyD h2
      have hQoff := hMT.off
      have hVoff := hMD.off
      have hQV : ∀ q, q < T → ∀ i, i < N → ∀ b, (Q q).ownBlock = some b → ¬ (V i).ownBlock = some b := fun q hq i hi b hb => own_row_off (hMD.row i hi) (hMT.row q hq) (by decide) b hb
      clear hG hO hW hw hDj h4 h11 hm11 hqN hQs
      refine W.exit ?_
      refine W.seq ?_
      refine W.region ?_
      refine WL.c rfl (o_ash (by first | exact (show _ = Value.slice _ _ _ from rfl) | exact rfl) ?_)
      refine WL.c rfl (o_ash (by first | exact (show _ = Value.slice _ _ _ from rfl) | exact rfl) ?_)
      refine WL.nil ?_
      refine W.seq ?_
      refine W.seq ?_
      refine W.region ?_
      refine WL.c rfl (o_ash (show _ = Value.int _ _ from rfl) ?_)
      refine WL.nil ?_
      refine W.block ?_
      refine W.loop (fun e w => ∃ (i : Nat) (C : Nat → List Df) (TY : Nat → List Ex) (vl : Value), i ≤ N ∧ e 3 = vg ∧ e 12 = vl ∧ e 13 = .slice none 0 0 ∧ e 14 = .int .i64 (i : Int) ∧ Many w H0 40 3 N V (fun i => (C i).length) (fun i => drows (C i) (U i)) ∧ Many w H0 30 7 T Q (fun q => (TY q).length) (fun q => exs (TY q)) ∧ w.ownsRow H0 28 1 vg N ((List.range N).map V) ∧ w.ownsRow H0 38 1 vl (offS (gD ss fD) i) ((List.range (offS (gD ss fD) i)).map Q) ∧ (∀ i, (C i).length = (gD ss fD i).length) ∧ (∀ q, (TY q).length = (TY0 q).length) ∧ H0 ≤ w.heap.size ∧ Ext w0 w ∧ (∀ i2, i2 < i → ∀ k2, k2 < (C i2).length → ((C i2).getD k2 df0).at_ = -1 - (i2 : Int)) ∧ (∀ q2, q2 < offS (gD ss fD) i → ∀ x ∈ TY q2, x.kind = -1 - (q2 : Int))) (fun e w => N - (intOf (e 14)).toNat) ?_ ?_
      · exact ⟨0, gD ss fD, TY0, _, Nat.zero_le _, h3, rfl, rfl, rfl, hMD, hMT, hg, World.ownsRow_nil _ _ _ _, fun _ => rfl, fun _ => rfl, hzw, hx, fun i hi => by omega, fun q hq => by simp [offS] at hq⟩
      rintro e w ⟨i, C, TY, vl, hi, h3, h12, h13, h14, hMD, hMT, hg, hl, hCl, hTl, hzw, hx, hCd, hTd⟩
      have hm14 := h14
      refine W.seq ?_
      refine W.seq ?_
      refine W.region ?_
      refine WL.c rfl (o_mvh h14 ?_)
      refine WL.c rfl (o_mvh h3 ?_)
      refine WL.c rfl (o_lenR TI63 rfl (Sl.own hg) ?_)
      refine WL.c rfl (o_lt rfl rfl ?_)
      refine WL.nil ?_
      refine W.cond rfl (fun c84 => ?_) (fun c84 => ?_)
      · try simp only [decide_eq_true_eq, decide_eq_false_iff_not, Bool.not_eq_true', Bool.not_eq_false', Bool.and_eq_true, Bool.or_eq_true, Bool.and_eq_false_iff, Bool.or_eq_false_iff] at c84
        have hi1 : i < N := by omega
        obtain ⟨g1, cg, hvg, -⟩ := own_some hg (by omega)
        subst hvg
        refine W.skip ?_
        refine W.seq ?_
        refine W.block ?_
        refine W.seq ?_
        refine W.region ?_
        refine WL.c rfl (o_ash (show _ = Value.int _ _ from rfl) ?_)
        refine WL.nil ?_
        refine W.block ?_
        refine W.loop (fun e w => ∃ (k : Nat) (C : Nat → List Df) (TY : Nat → List Ex) (vl : Value), k ≤ (gD ss fD i).length ∧ e 3 = Value.slice (some ⟨g1, 0, none⟩) N cg ∧ e 12 = vl ∧ e 13 = .slice none 0 0 ∧ e 14 = .int .i64 (i : Int) ∧ e 15 = .int .i64 (k : Int) ∧ Many w H0 40 3 N V (fun i => (C i).length) (fun i => drows (C i) (U i)) ∧ Many w H0 30 7 T Q (fun q => (TY q).length) (fun q => exs (TY q)) ∧ w.ownsRow H0 28 1 (Value.slice (some ⟨g1, 0, none⟩) N cg) N ((List.range N).map V) ∧ w.ownsRow H0 38 1 vl (offS (gD ss fD) i + k) ((List.range (offS (gD ss fD) i + k)).map Q) ∧ (∀ i, (C i).length = (gD ss fD i).length) ∧ (∀ q, (TY q).length = (TY0 q).length) ∧ H0 ≤ w.heap.size ∧ Ext w0 w ∧ (∀ i2, i2 < i → ∀ k2, k2 < (C i2).length → ((C i2).getD k2 df0).at_ = -1 - (i2 : Int)) ∧ (∀ q2, q2 < offS (gD ss fD) i + k → ∀ x ∈ TY q2, x.kind = -1 - (q2 : Int)) ∧ (∀ k2, k2 < k → ((C i).getD k2 df0).at_ = -1 - (i : Int))) (fun e w => (gD ss fD i).length - (intOf (e 15)).toNat) ?_ ?_
        · exact ⟨0, C, TY, vl, Nat.zero_le _, h3, h12, h13, h14, rfl, hMD, hMT, hg, hl, hCl, hTl, hzw, hx, hCd, hTd, fun k2 hk2 => by omega⟩
        rintro e w ⟨k, C, TY, vl, hk, h3, h12, h13, h14, h15, hMD, hMT, hg, hl, hCl, hTl, hzw, hx, hCd, hTd, hCi⟩
        have hm15 := h15
        have hci := own_cell1 hg (map_at hi1)
        have hdl := hCl i
        refine W.seq ?_
        refine W.seq ?_
        refine W.region ?_
        refine WL.c rfl (o_mvh h15 ?_)
        refine WL.c rfl (o_mvh h3 ?_)
        refine WL.c rfl (o_mvh h14 ?_)
        refine WL.c rfl (o_ixB TI63 TI28 rfl rfl (by omega) ?_)
        refine WL.c rfl (o_fa 0 TI28 rfl TI26 rfl rfl ?_)
        refine WL.c rfl (o_ld TI26 rfl rfl (hci 0 _ rfl) ?_)
        refine WL.c rfl (o_lenR TI26 rfl (Sl.own (hMD.row i hi1)) ?_)
        refine WL.c rfl (o_lt rfl rfl ?_)
        refine WL.nil ?_
        refine W.cond rfl (fun c94 => ?_) (fun c94 => ?_)
        · try simp only [decide_eq_true_eq, decide_eq_false_iff_not, Bool.not_eq_true', Bool.not_eq_false', Bool.and_eq_true, Bool.or_eq_true, Bool.and_eq_false_iff, Bool.or_eq_false_iff] at c94
          have hk1 : k < (gD ss fD i).length := by omega
          have hk2 : k < (C i).length := by omega
          obtain ⟨gI, cI, hVi, -⟩ := own_some (hMD.row i hi1) (by omega)
          obtain ⟨q, hq⟩ : ∃ q, q = offS (gD ss fD) i + k := ⟨_, rfl⟩
          rw [← hq] at hl hTd
          have hqT : q < T := by rw [hq]; exact hlt4 i hi1 k hk1
          have hUQ : U i k = Q q := by rw [hq]; exact (hQ i hi1 k hk1).1.symm
          have hrI := hMD.row i hi1
          have htd : Cells w gI (0 + k * 3) (dcell ((C i).getD k df0) (U i k)) := by
            have h1 := hrI
            simp only [hVi] at h1
            have h2 := own_cellsAt h1 k
            rw [drows_at (C i) (U i) hk2] at h2
            exact h2
          rw [hUQ] at htd
          rw [hVi] at hci
          refine W.skip ?_
          refine W.seq ?_
          refine W.block ?_
          refine W.seq ?_
          refine W.region ?_
          refine WL.c rfl (o_mvh h3 ?_)
          refine WL.c rfl (o_mvh h14 ?_)
          refine WL.c rfl (o_ixB TI63 TI28 rfl rfl (by omega) ?_)
          refine WL.c rfl (o_fa 0 TI28 rfl TI26 rfl rfl ?_)
          refine WL.c rfl (o_ld TI26 rfl rfl (hci 0 _ rfl) ?_)
          refine WL.c rfl (o_mvh h15 ?_)
          refine WL.c rfl (o_ixB TI26 TI40 rfl rfl (by simp only [hdl]; omega) ?_)
          refine WL.c rfl (o_fa 2 TI40 rfl TI38 rfl rfl ?_)
          refine WL.c rfl (o_ld TI38 rfl rfl (htd 2 _ rfl) ?_)
          refine WL.c rfl (o_ash (by first | exact (show _ = Value.slice _ _ _ from rfl) | exact rfl) ?_)
          refine WL.nil ?_
          refine W.seq ?_
          refine W.seq ?_
          refine W.region ?_
          refine WL.c rfl (o_ash (show _ = Value.int _ _ from rfl) ?_)
          refine WL.nil ?_
          refine W.block ?_
          refine W.loop (fun e w => ∃ (j : Nat) (TY : Nat → List Ex), j ≤ (TY0 q).length ∧ e 3 = Value.slice (some ⟨g1, 0, none⟩) N cg ∧ e 12 = vl ∧ e 13 = .slice none 0 0 ∧ e 14 = .int .i64 (i : Int) ∧ e 15 = .int .i64 (k : Int) ∧ e 16 = Q q ∧ e 17 = .int .i64 (j : Int) ∧ Many w H0 40 3 N V (fun i => (C i).length) (fun i => drows (C i) (U i)) ∧ Many w H0 30 7 T Q (fun q => (TY q).length) (fun q => exs (TY q)) ∧ w.ownsRow H0 28 1 (Value.slice (some ⟨g1, 0, none⟩) N cg) N ((List.range N).map V) ∧ w.ownsRow H0 38 1 vl (q) ((List.range (q)).map Q) ∧ (∀ i, (C i).length = (gD ss fD i).length) ∧ (∀ q, (TY q).length = (TY0 q).length) ∧ H0 ≤ w.heap.size ∧ Ext w0 w ∧ (∀ q2, q2 < q → ∀ x ∈ TY q2, x.kind = -1 - (q2 : Int)) ∧ ∀ x ∈ (TY q).take j, x.kind = -1 - (q : Int)) (fun e w => (TY0 q).length - (intOf (e 17)).toNat) ?_ ?_
          · exact ⟨0, TY, Nat.zero_le _, h3, h12, h13, h14, h15, rfl, rfl, hMD, hMT, hg, hl, hCl, hTl, hzw, hx, hTd, fun x hx => by simp at hx⟩
          rintro e w ⟨j, TY, hj, h3, h12, h13, h14, h15, h16, h17, hMD, hMT, hg, hl, hCl, hTl, hzw, hx, hTd, hTj⟩
          have hm17 := h17
          have htl := hTl q
          have hTq1 := hTn q hqT
          refine W.seq ?_
          refine W.seq ?_
          refine W.region ?_
          refine WL.c rfl (o_mvh h17 ?_)
          refine WL.c rfl (o_mvh h16 ?_)
          refine WL.c rfl (o_lenR TI38 rfl (Sl.own (hMT.row q hqT)) ?_)
          refine WL.c rfl (o_lt rfl rfl ?_)
          refine WL.nil ?_
          refine W.cond rfl (fun c109 => ?_) (fun c109 => ?_)
          · try simp only [decide_eq_true_eq, decide_eq_false_iff_not, Bool.not_eq_true', Bool.not_eq_false', Bool.and_eq_true, Bool.or_eq_true, Bool.and_eq_false_iff, Bool.or_eq_false_iff] at c109
            have hj1 : j < (TY q).length := by omega
            obtain ⟨gQ, cQ, hQq, hQb⟩ := own_some (hMT.row q hqT) (by omega)
            rw [hQq] at h16
            have hrQ := hMT.row q hqT
            simp only [hQq] at hrQ
            refine W.skip ?_
            refine W.seq ?_
            refine W.block ?_
            refine W.region ?_
            refine WL.c rfl (o_mvh h16 ?_)
            refine WL.c rfl (o_mvh h17 ?_)
            refine WL.c rfl (o_mvh h12 ?_)
            refine WL.c rfl (o_lenR TI64 rfl (Sl.own hl) ?_)
            refine WL.c rfl (o_subi rfl rfl (by omega) ?_)
            refine WL.c rfl (o_bldC (cs := [_, (.int .i64 0), (.string ⟨#[]⟩), (.string ⟨#[]⟩), (.int .i64 0), (.int .i64 0), (.int .i64 0)]) TI30 (Sizes.cons TI3 (Sizes.cons TI3 (Sizes.cons TI9 (Sizes.cons TI9 (Sizes.cons TI3 (Sizes.cons TI3 (Sizes.cons TI3 Sizes.nil))))))) rfl (lcp (show _ = Value.int _ _ from rfl) lnp) rfl rfl ?_)
            refine WL.c rfl (o_ixB (i := j) TI38 TI30 rfl rfl hj1 ?_)
            refine WL.u (o_stRA (i := j) TI30 rfl (Nat.zero_add _) (show _ = Value.agg (exV (mkE q)).toArray from rfl) rfl rfl hrQ rfl hj1 ?_)
            intro wc hr118 ho hs118
            rw [exs_set7 hj1, ← hQq] at hr118
            rw [← hQq] at ho
            have hrQ2 := hMT.row q hqT
            have hMT2 := many_rowE hMT (L := (TY q).set j (mkE q)) hqT ho (by rw [List.length_set]; exact hr118)
            replace hMD := hMD.other hrQ2 (by decide) ho
            replace hg := own_only hg ho (own_row_off hrQ2 hg (by decide))
            replace hl := own_only hl ho (own_row_off hrQ2 hl (by decide))
            replace hx := Ext.many hx hz0 ho (fun k hk => (hrQ2.lt k hk).1)
            replace hzw := Nat.le_trans hzw ho.size
            refine WL.nil ?_
            refine W.region ?_
            refine WL.c rfl (o_mvh h17 ?_)
            refine WL.c rfl (o_addi rfl rfl (by omega) ?_)
            refine WL.c rfl (o_ash (show _ = Value.int _ _ from rfl) ?_)
            refine WL.nil ?_
            refine ⟨⟨j + 1, _, by omega, h3, h12, h13, h14, h15, h16.trans hQq.symm, rfl, hMD, hMT2, hg, hl, hCl, fun p => ?_, hzw, hx, fun q2 hq2 => ?_, fun x hx2 => ?_⟩, ?_⟩
            · by_cases e : p = q
              · subst e; rw [if_pos rfl, List.length_set]; exact hTl p
              · simp only [if_neg e, hTl]
            · simp only [if_neg (show ¬ q2 = q by omega)]; exact hTd q2 hq2
            · rw [if_pos rfl] at hx2
              rcases take_set hx2 with rfl | h
              · rfl
              · exact hTj x h
            · show (TY0 q).length - ((j : Int) + 1).toNat < _
              rw [hm17]; simp [intOf]; omega
          · try simp only [decide_eq_true_eq, decide_eq_false_iff_not, Bool.not_eq_true', Bool.not_eq_false', Bool.and_eq_true, Bool.or_eq_true, Bool.and_eq_false_iff, Bool.or_eq_false_iff] at c109
            have hjl : j = (TY q).length := by omega
            have hTq : ∀ x ∈ TY q, x.kind = -1 - (q : Int) := fun x hx => hTj x (by rw [hjl, List.take_length]; exact hx)
            refine W.exit ?_
            refine W.seq ?_
            refine W.region ?_
            refine WL.c rfl (o_mvh h12 ?_)
            refine WL.c rfl (o_mvh h16 ?_)
            refine WL.apO (H0) rfl rfl TI64 TI38 rfl rfl hl (by decide) (by decide) (by show (Q q).cells.size = 1; rw [own_cells (hMT.row q hqT)]; rfl) (by show ∀ a ∈ (Q q).cells.toList, _; rw [own_cells (hMT.row q hqT)]; intro a ha; simp at ha; rw [ha]; exact own_one (hMT.row q hqT)) rfl (by rw [maxLen_eq]; omega) (by omega) hzw ?_
            intro vl1 w122 hl1 ho122 hb122 _
            replace hl1 : w122.ownsRow H0 38 1 vl1 (q + 1) ((List.range q).map Q ++ (Q q).cells.toList) := hl1
            replace ho122 : Only (fun k => vl.ownBlock = some k) w w122 := ho122
            rw [own_cells (hMT.row q hqT)] at hl1
            replace hMD := hMD.other hl (by decide) ho122
            replace hMT := hMT.other hl (by decide) ho122
            replace hg := own_only hg ho122 (own_row_off hl hg (by decide))
            replace hx := Ext.many hx hz0 ho122 (fun k hk => (hl.lt k hk).1)
            replace hzw := Nat.le_trans hzw ho122.size
            clear hl ho122 hb122
            have hl : w122.ownsRow H0 38 1 vl1 (q + 1) ((List.range (q + 1)).map Q) := by rw [map_succ]; exact hl1
            clear hl1
            have hrI := hMD.row i hi1
            simp only [hVi] at hrI
            have hci := own_cell1 hg (map_at hi1)
            rw [hVi] at hci
            refine WL.c rfl (o_ash (by first | exact (show _ = Value.slice _ _ _ from rfl) | exact rfl) ?_)
            refine WL.nil ?_
            refine W.region ?_
            refine WL.c rfl (o_mvh h3 ?_)
            refine WL.c rfl (o_mvh h14 ?_)
            refine WL.c rfl (o_ixB TI63 TI28 rfl rfl (by omega) ?_)
            refine WL.c rfl (o_fa 0 TI28 rfl TI26 rfl rfl ?_)
            refine WL.c rfl (o_ld TI26 rfl rfl (hci 0 _ rfl) ?_)
            refine WL.c rfl (o_mvh h15 ?_)
            refine WL.c rfl (o_mvh h14 ?_)
            refine WL.c rfl (o_subi rfl rfl (by omega) ?_)
            refine WL.c rfl (o_ixB TI26 TI40 rfl rfl (by simp only [hdl]; omega) ?_)
            refine WL.c rfl (o_fa 1 TI40 rfl TI3 rfl rfl ?_)
            refine WL.u (o_stRj (i := k * 3 + 1) TI3 rfl (by omega) (show _ = Value.int .i64 (-1 - (i : Int)) from rfl) rfl hrI rfl (by omega) ?_)
            intro wc hr132 ho hs132
            rw [drows_setAt hk2, ← hVi] at hr132
            rw [← hVi] at ho
            have hrI2 := hMD.row i hi1
            have hMD2 := many_rowD hMD (L := setAt (C i) k (-1 - (i : Int))) hi1 ho (by rw [setAt_len]; exact hr132)
            replace hMT := hMT.other hrI2 (by decide) ho
            replace hg := own_only hg ho (own_row_off hrI2 hg (by decide))
            replace hl := own_only hl ho (own_row_off hrI2 hl (by decide))
            replace hx := Ext.many hx hz0 ho (fun k hk => (hrI2.lt k hk).1)
            replace hzw := Nat.le_trans hzw ho.size
            have hCl2 : ∀ p, (if p = i then setAt (C i) k (-1 - (i : Int)) else C p).length = (gD ss fD p).length := fun p => by
              by_cases e : p = i
              · rw [if_pos e, setAt_len, e]; exact hdl
              · rw [if_neg e]; exact hCl p
            refine WL.nil ?_
            refine W.region ?_
            refine WL.c rfl (o_mvh h15 ?_)
            refine WL.c rfl (o_addi rfl rfl (by omega) ?_)
            refine WL.c rfl (o_ash (show _ = Value.int _ _ from rfl) ?_)
            refine WL.nil ?_
            refine ⟨⟨k + 1, _, TY, vl1, by omega, h3, rfl, h13, h14, rfl, hMD2, hMT, hg, by rw [hq] at hl; exact hl, hCl2, hTl, hzw, hx, fun i2 hi2 k2 hk2 => ?_, fun q2 hq2 => ?_, fun k2 hk2 => ?_⟩, ?_⟩
            · have hne : ¬ i2 = i := by omega
              simp only [if_neg hne] at hk2 ⊢
              exact hCd i2 hi2 k2 hk2
            · rcases Nat.lt_or_ge q2 q with h | h
              · exact hTd q2 (by omega)
              · obtain rfl : q2 = q := by omega
                exact hTq
            · show ((if i = i then _ else _ : List Df).getD k2 df0).at_ = _
              rw [if_pos rfl, setAt_at]
              by_cases e : k2 = k
              · rw [if_pos ⟨e, by omega⟩]
              · rw [if_neg (fun h => e h.1)]; exact hCi k2 (by omega)
            · show (gD ss fD i).length - ((k : Int) + 1).toNat < _
              rw [hm15]; simp [intOf]; omega
        · try simp only [decide_eq_true_eq, decide_eq_false_iff_not, Bool.not_eq_true', Bool.not_eq_false', Bool.and_eq_true, Bool.or_eq_true, Bool.and_eq_false_iff, Bool.or_eq_false_iff] at c94
          have hkk : k = (gD ss fD i).length := by omega
          have hoi : offS (gD ss fD) (i + 1) = offS (gD ss fD) i + k := by rw [hkk]; rfl
          refine W.exit ?_
          refine W.region ?_
          refine WL.c rfl (o_mvh h14 ?_)
          refine WL.c rfl (o_addi rfl rfl (by omega) ?_)
          refine WL.c rfl (o_ash (show _ = Value.int _ _ from rfl) ?_)
          refine WL.nil ?_
          refine ⟨⟨i + 1, C, TY, vl, by omega, h3, h12, h13, rfl, hMD, hMT, hg, by rw [← hoi] at hl; exact hl, hCl, hTl, hzw, hx, fun i2 hi2 k2 hk2 => ?_, fun q2 hq2 x hx2 => hTd q2 (by rw [hoi] at hq2; exact hq2) x hx2⟩, ?_⟩
          · rcases Nat.lt_or_ge i2 i with h | h
            · exact hCd i2 h k2 hk2
            · obtain rfl : i2 = i := by omega
              exact hCi k2 (by rw [hCl] at hk2; omega)
          · show N - ((i : Int) + 1).toNat < _
            rw [hm14]; simp [intOf]; omega
      · try simp only [decide_eq_true_eq, decide_eq_false_iff_not, Bool.not_eq_true', Bool.not_eq_false', Bool.and_eq_true, Bool.or_eq_true, Bool.and_eq_false_iff, Bool.or_eq_false_iff] at c84
        have hiN : i = N := by omega
        rw [hiN] at hCd
        rw [hiN, ← hT] at hl hTd
        clear hm14 h14
        obtain ⟨w4, hw4⟩ : ∃ w4, w4 = w := ⟨_, rfl⟩
        obtain ⟨H4, hH4⟩ : ∃ H, H = w.heap.size := ⟨_, rfl⟩
        have hQ4 : ∀ q, q < T → ∀ b, (Q q).ownBlock = some b → b < H4 := fun q hq b hb => by rw [hH4]; exact (hMT.lt hq hb).2
        have hV4 : ∀ i, i < N → ∀ b, (V i).ownBlock = some b → b < H4 := fun q hq b hb => by rw [hH4]; exact (hMD.lt hq hb).2
        have hl4 : ∀ b, vl.ownBlock = some b → b < H4 := fun b hb => by rw [hH4]; exact (hl.lt b hb).2
        have hg4 : ∀ b, vg.ownBlock = some b → b < H4 := fun b hb => by rw [hH4]; exact (hg.lt b hb).2
        have hgQ : ∀ q, q < T → ∀ b, vg.ownBlock = some b → ¬ (Q q).ownBlock = some b := fun q hq => own_row_off (hMT.row q hq) hg (by decide)
        have hgV : ∀ i, i < N → ∀ b, vg.ownBlock = some b → ¬ (V i).ownBlock = some b := fun i hi => own_row_off (hMD.row i hi) hg (by decide)
        have hlV : ∀ i, i < N → ∀ b, vl.ownBlock = some b → ¬ (V i).ownBlock = some b := fun i hi => own_row_off (hMD.row i hi) hl (by decide)
        have hgD4 := hg
        have hMD4 := hMD
        rw [← hw4] at hgD4 hMD4
        have hTn2 : ∀ q, q < T → (TY q).length * 72 ≤ 140737488351232 := fun q hq => by rw [hTl]; exact hTn q hq
        have h04 : H0 ≤ H4 := by omega
        have hF0 : Only (fun k => (∃ q, q < T ∧ (Q q).ownBlock = some k) ∨ H4 ≤ k) w4 w := by rw [hw4]; exact Only.refl _ _
        clear hMD hg
        refine W.exit ?_
        refine W.seq ?_
        refine W.seq ?_
        refine W.region ?_
        refine WL.c rfl (o_ash (show _ = Value.int _ _ from rfl) ?_)
        refine WL.nil ?_
        refine W.block ?_
        refine W.loop (fun e w => ∃ (r : Nat) (MV : Nat → Value) (L : Nat → List Ex) (vm : Value), r ≤ T ∧ e 3 = vg ∧ e 12 = vl ∧ e 13 = vm ∧ e 18 = .int .i64 (r : Int) ∧ (∀ q, q < r → L q = TY q ++ [mkE q]) ∧ (∀ q, r ≤ q → MV q = Q q ∧ L q = TY q) ∧ Many w H0 30 7 T MV (fun q => (L q).length) (fun q => exs (L q)) ∧ (∀ q, q < r → Sl w 7 (Q q) (TY q).length (exs (TY q))) ∧ w.ownsRow H4 38 1 vm r ((List.range r).map MV) ∧ w.ownsRow H0 38 1 vl T ((List.range T).map Q) ∧ H4 ≤ w.heap.size ∧ Only (fun k => (∃ q, q < T ∧ (Q q).ownBlock = some k) ∨ H4 ≤ k) w4 w ∧ Ext w0 w) (fun e w => T - (intOf (e 18)).toNat) ?_ ?_
        · exact ⟨0, Q, TY, _, Nat.zero_le _, h3, h12, h13, rfl, fun q hq => by omega, fun q _ => ⟨rfl, rfl⟩, hMT, fun q hq => by omega, World.ownsRow_nil _ _ _ _, hl, Nat.le_of_eq hH4, hF0, hx⟩
        rintro e w ⟨r, MV, L, vm, hr, h3, h12, h13, h18, hL1, hL2, hM, hSq, hvm, hl, hz4, hF, hx⟩
        have hm18 := h18
        have h12v := h12
        refine W.seq ?_
        refine W.seq ?_
        refine W.region ?_
        refine WL.c rfl (o_mvh h18 ?_)
        refine WL.c rfl (o_mvh h12 ?_)
        refine WL.c rfl (o_lenR TI64 rfl (Sl.own hl) ?_)
        refine WL.c rfl (o_lt rfl rfl ?_)
        refine WL.nil ?_
        refine W.cond rfl (fun c136 => ?_) (fun c136 => ?_)
        · try simp only [decide_eq_true_eq, decide_eq_false_iff_not, Bool.not_eq_true', Bool.not_eq_false', Bool.and_eq_true, Bool.or_eq_true, Bool.and_eq_false_iff, Bool.or_eq_false_iff] at c136
          have hr1 : r < T := by omega
          obtain ⟨gl, cl, hvl, -⟩ := own_some hl (by omega)
          rw [hvl] at h12
          have hle := hl
          rw [hvl] at hle
          have hll := own_cell1 hle (map_at hr1)
          have hrR := hM.row r hr1
          have hMVr := (hL2 r (Nat.le_refl _)).1
          have hLr := (hL2 r (Nat.le_refl _)).2
          simp only [hMVr, hLr] at hrR
          have hrn := hTn2 r hr1
          refine W.skip ?_
          refine W.seq ?_
          refine W.block ?_
          refine W.region ?_
          refine WL.c rfl (o_mvh h13 ?_)
          refine WL.c rfl (o_mvh h12 ?_)
          refine WL.c rfl (o_mvh h18 ?_)
          refine WL.c rfl (o_ixB TI64 TI38 rfl rfl (by omega) ?_)
          refine WL.c rfl (o_ld TI38 rfl rfl (hll 0 _ rfl) ?_)
          refine WL.c rfl (o_mvh h18 ?_)
          refine WL.c rfl (o_subi rfl rfl (by omega) ?_)
          refine WL.c rfl (o_bldC (cs := [_, (.int .i64 0), (.string ⟨#[]⟩), (.string ⟨#[]⟩), (.int .i64 0), (.int .i64 0), (.int .i64 0)]) TI30 (Sizes.cons TI3 (Sizes.cons TI3 (Sizes.cons TI9 (Sizes.cons TI9 (Sizes.cons TI3 (Sizes.cons TI3 (Sizes.cons TI3 Sizes.nil))))))) rfl (lcp (show _ = Value.int _ _ from rfl) lnp) rfl rfl ?_)
          refine WL.apO (H0) rfl rfl TI38 TI30 rfl rfl hrR (by decide) (by decide) rfl (by show ∀ a ∈ (Value.agg (exV (mkE r)).toArray).cells.toList, _; exact fun a ha => one_exs [mkE r] a (by simpa [exs, Value.cells] using ha)) rfl (by rw [maxLen_eq]; omega) (by omega) (by omega) ?_
          intro v148 w148 hr148 ho148 hb148 hold148
          have hr148b : w148.ownsRow H0 30 7 v148 (TY r ++ [mkE r]).length (exs (TY r ++ [mkE r])) := by rw [exs_app, List.length_append]; exact hr148
          have hSr := Sl.own hold148
          have hM2 := many_growE hM (M := TY r ++ [mkE r]) hr1 (by rw [hMVr]; exact ho148) (by rw [hMVr]; exact hb148) (Nat.le_succ _) hr148b
          replace hSq := fun q hq => (hSq q hq).only ho148 (fun k hk he => hQoff q r (by omega) hr1 (by omega) k hk he)
          replace hvm := own_only hvm ho148 (fun k hk he => by have h1 := (hvm.lt k hk).1; have h2 := hQ4 r hr1 k he; omega)
          replace hl := own_only hl ho148 (own_row_off hrR hl (by decide))
          replace hF := hF.trans' ho148 (fun _ h => h) (fun k _ he => .inl ⟨r, hr1, he⟩)
          replace hx := Ext.many hx hz0 ho148 (fun k hk => (hrR.lt k hk).1)
          have hz148 := ho148.size
          clear hM hold148 hb148 ho148
          refine WL.apO (H4) rfl rfl TI64 TI38 rfl rfl hvm (by decide) (by decide) (by show v148.cells.size = 1; rw [own_cells hr148]; rfl) (by show ∀ a ∈ v148.cells.toList, _; rw [own_cells hr148]; intro a ha; simp at ha; rw [ha]; exact own_one hr148) rfl (by rw [maxLen_eq]; omega) (by omega) (by omega) ?_
          intro vm1 w150 hvm1 ho150 hb150 _
          replace hvm1 : w150.ownsRow H4 38 1 vm1 (r + 1) ((List.range r).map MV ++ v148.cells.toList) := hvm1
          replace ho150 : Only (fun k => vm.ownBlock = some k) w148 w150 := ho150
          rw [own_cells hr148] at hvm1
          replace hM2 := hM2.other hvm (by decide) ho150
          have hvb := fun k (hk : vm.ownBlock = some k) => (hvm.lt k hk).1
          replace hSq := fun q hq => (hSq q hq).only ho150 (fun k hk he => by have h1 := hvb k he; have h2 := hQ4 q (by omega) k hk; omega)
          replace hSr := hSr.only ho150 (fun k hk he => by have h1 := hvb k he; have h2 := hQ4 r hr1 k hk; omega)
          replace hl := own_only hl ho150 (fun k hk he => by have h1 := hvb k he; have h2 := hl4 k hk; omega)
          replace hF := hF.trans' ho150 (fun _ h => h) (fun k _ he => .inr (hvb k he))
          replace hx := Ext.many hx hz0 ho150 (fun k hk => by have := hvb k hk; omega)
          have hz150 := ho150.size
          have hvm2 : w150.ownsRow H4 38 1 vm1 (r + 1) ((List.range (r + 1)).map (fun p => if p = r then v148 else MV p)) := by rw [map_snoc]; exact hvm1
          clear hvm1 ho150 hb150 hvm
          refine WL.c rfl (o_ash (by first | exact (show _ = Value.slice _ _ _ from rfl) | exact rfl) ?_)
          refine WL.nil ?_
          refine W.region ?_
          refine WL.c rfl (o_mvh h18 ?_)
          refine WL.c rfl (o_addi rfl rfl (by omega) ?_)
          refine WL.c rfl (o_ash (show _ = Value.int _ _ from rfl) ?_)
          refine WL.nil ?_
          refine ⟨⟨r + 1, _, _, vm1, by omega, h3, h12v, rfl, rfl, fun q hq => ?_, fun q hq => ?_, hM2, fun q hq => ?_, hvm2, hl, by omega, hF, hx⟩, ?_⟩
          · by_cases e : q = r
            · subst e; rw [if_pos rfl]
            · simp only [if_neg e]; exact hL1 q (by omega)
          · have e : ¬ q = r := by omega
            simp only [if_neg e]; exact hL2 q (by omega)
          · rcases Nat.lt_or_ge q r with h | h
            · exact hSq q h
            · obtain rfl : q = r := by omega
              exact hSr
          · show T - ((r : Int) + 1).toNat < _
            rw [hm18]; simp [intOf]; omega
        · try simp only [decide_eq_true_eq, decide_eq_false_iff_not, Bool.not_eq_true', Bool.not_eq_false', Bool.and_eq_true, Bool.or_eq_true, Bool.and_eq_false_iff, Bool.or_eq_false_iff] at c136
          have hrT : r = T := by omega
          rw [hrT] at hL1 hSq hvm
          clear hm18 h12v h18 hL2
          have hMD := hMD4.only hF (fun i hi k hk hk2 => by rcases hk2 with ⟨q, hq, h⟩ | h; exact hQV q hq i hi k h hk; have := hV4 i hi k hk; omega)
          have hg := own_only hgD4 hF (fun k hk hk2 => by rcases hk2 with ⟨q, hq, h⟩ | h; exact hgQ q hq k hk h; have := hg4 k hk; omega)
          clear hMD4 hgD4 hF
          obtain ⟨w5, hw5⟩ : ∃ w5, w5 = w := ⟨_, rfl⟩
          obtain ⟨H5, hH5⟩ : ∃ H, H = w.heap.size := ⟨_, rfl⟩
          have hM5 : ∀ q, q < T → Sl w5 7 (MV q) (TY q ++ [mkE q]).length (exs (TY q ++ [mkE q])) := fun q hq => by have h := Sl.own (hM.row q hq); simp only [hL1 q hq] at h; rw [hw5]; exact h
          have hMb : ∀ q, q < T → ∀ k, (MV q).ownBlock = some k → k < H5 ∧ ∀ i, i < N → ¬ (V i).ownBlock = some k := fun q hq k hk => ⟨by rw [hH5]; exact (hM.lt hq hk).2, fun i hi => own_row_off (hMD.row i hi) (hM.row q hq) (by decide) k hk⟩
          have hQb : ∀ q, q < T → ∀ k, (Q q).ownBlock = some k → k < H5 ∧ ∀ i, i < N → ¬ (V i).ownBlock = some k := fun q hq k hk => ⟨by have := hQ4 q hq k hk; omega, fun i hi => hQV q hq i hi k hk⟩
          have hvmb : ∀ k, vm.ownBlock = some k → k < H5 ∧ ∀ i, i < N → ¬ (V i).ownBlock = some k := fun k hk => ⟨by rw [hH5]; exact (hvm.lt k hk).2, fun i hi => own_row_off (hMD.row i hi) hvm (by decide) k hk⟩
          have hvlb : ∀ k, vl.ownBlock = some k → k < H5 ∧ ∀ i, i < N → ¬ (V i).ownBlock = some k := fun k hk => ⟨by have := hl4 k hk; omega, fun i hi => hlV i hi k hk⟩
          have hvm5 := hvm
          have hl5 := hl
          have hSq5 := hSq
          rw [← hw5] at hvm5 hl5 hSq5
          have h05 : H0 ≤ H5 := by omega
          have hF0 : Only (fun k => (∃ i, i < N ∧ (V i).ownBlock = some k) ∨ H5 ≤ k) w5 w := by rw [hw5]; exact Only.refl _ _
          clear hM hvm hl hSq
          refine W.exit ?_
          refine W.seq ?_
          refine W.region ?_
          refine WL.c rfl (o_ash (by first | exact (show _ = Value.slice _ _ _ from rfl) | exact rfl) ?_)
          refine WL.nil ?_
          refine W.seq ?_
          refine W.seq ?_
          refine W.region ?_
          refine WL.c rfl (o_ash (show _ = Value.int _ _ from rfl) ?_)
          refine WL.nil ?_
          refine W.block ?_
          refine W.loop (fun e w => ∃ (r : Nat) (DV : Nat → Value) (n : Nat → Nat) (X : Nat → List Value) (vd : Value), r ≤ N ∧ e 3 = vg ∧ e 12 = vl ∧ e 13 = vm ∧ e 19 = vd ∧ e 20 = .int .i64 (r : Int) ∧ (∀ q, q < r → n q = (C q).length + 1 ∧ X q = drows (C q) (U q) ++ dcell (mkD q) (.slice none 0 0)) ∧ (∀ q, r ≤ q → DV q = V q ∧ n q = (C q).length ∧ X q = drows (C q) (U q)) ∧ Many w H0 40 3 N DV n X ∧ (∀ q, q < r → Sl w 3 (V q) (C q).length (drows (C q) (U q))) ∧ w.ownsRow H5 26 1 vd r ((List.range r).map DV) ∧ w.ownsRow H0 28 1 vg N ((List.range N).map V) ∧ H5 ≤ w.heap.size ∧ Only (fun k => (∃ i, i < N ∧ (V i).ownBlock = some k) ∨ H5 ≤ k) w5 w ∧ Ext w0 w) (fun e w => N - (intOf (e 20)).toNat) ?_ ?_
          · exact ⟨0, V, _, _, _, Nat.zero_le _, h3, h12, h13, rfl, rfl, fun q hq => by omega, fun q _ => ⟨rfl, rfl, rfl⟩, hMD, fun q hq => by omega, World.ownsRow_nil _ _ _ _, hg, Nat.le_of_eq hH5, hF0, hx⟩
          rintro e w ⟨r, DV, n, X, vd, hr, h3, h12, h13, h19, h20, hL1, hL2, hM, hSq, hvd, hg, hz5, hF, hx⟩
          have hm20 := h20
          have h3v := h3
          refine W.seq ?_
          refine W.seq ?_
          refine W.region ?_
          refine WL.c rfl (o_mvh h20 ?_)
          refine WL.c rfl (o_mvh h3 ?_)
          refine WL.c rfl (o_lenR TI63 rfl (Sl.own hg) ?_)
          refine WL.c rfl (o_lt rfl rfl ?_)
          refine WL.nil ?_
          refine W.cond rfl (fun c154 => ?_) (fun c154 => ?_)
          · try simp only [decide_eq_true_eq, decide_eq_false_iff_not, Bool.not_eq_true', Bool.not_eq_false', Bool.and_eq_true, Bool.or_eq_true, Bool.and_eq_false_iff, Bool.or_eq_false_iff] at c154
            have hr1 : r < N := by omega
            obtain ⟨gl, cl, hvl, -⟩ := own_some hg (by omega)
            rw [hvl] at h3
            have hle := hg
            rw [hvl] at hle
            have hll := own_cell1 hle (map_at hr1)
            have hrR := hM.row r hr1
            obtain ⟨hMVr, hnr, hXr⟩ := hL2 r (Nat.le_refl _)
            rw [hMVr, hnr, hXr] at hrR
            have hrn := hCl r
            have hrn2 := hg256 r
            refine W.skip ?_
            refine W.seq ?_
            refine W.block ?_
            refine W.region ?_
            refine WL.c rfl (o_mvh h19 ?_)
            refine WL.c rfl (o_mvh h3 ?_)
            refine WL.c rfl (o_mvh h20 ?_)
            refine WL.c rfl (o_ixB TI63 TI28 rfl rfl (by omega) ?_)
            refine WL.c rfl (o_fa 0 TI28 rfl TI26 rfl rfl ?_)
            refine WL.c rfl (o_ld TI26 rfl rfl (hll 0 _ rfl) ?_)
            refine WL.c rfl (o_mvh h20 ?_)
            refine WL.c rfl (o_subi rfl rfl (by omega) ?_)
            refine WL.c rfl (o_bldC (cs := [(.string ⟨#[]⟩), _, (.slice none 0 0)]) TI40 (Sizes.cons TI9 (Sizes.cons TI3 (Sizes.cons TI38 Sizes.nil))) rfl (lcp (show _ = Value.int _ _ from rfl) lnp) rfl rfl ?_)
            refine WL.apO (H0) rfl rfl TI26 TI40 rfl rfl hrR (by decide) (by decide) rfl (fun a ha => List.all_eq_true.1 (show List.all (dcell (mkD r) (.slice none 0 0)) (·.oneCell') = true from rfl) a ha) rfl (by rw [maxLen_eq]; omega) (by omega) (by omega) ?_
            intro v167 w167 hr167 ho167 hb167 hold167
            have hr167b : w167.ownsRow H0 40 3 v167 ((C r).length + 1) (drows (C r) (U r) ++ dcell (mkD r) (.slice none 0 0)) := hr167
            have hSr := Sl.own hold167
            have hM2 := hM.grow hr1 (by rw [hMVr]; exact ho167) (by rw [hMVr]; exact hb167) (Nat.le_succ _) hr167b
            replace hSq := fun q hq => (hSq q hq).only ho167 (fun k hk he => hVoff q r (by omega) hr1 (by omega) k hk he)
            replace hvd := own_only hvd ho167 (fun k hk he => by have h1 := (hvd.lt k hk).1; have h2 := hV4 r hr1 k he; omega)
            replace hg := own_only hg ho167 (own_row_off hrR hg (by decide))
            replace hF := hF.trans' ho167 (fun _ h => h) (fun k _ he => .inl ⟨r, hr1, he⟩)
            replace hx := Ext.many hx hz0 ho167 (fun k hk => (hrR.lt k hk).1)
            have hz167 := ho167.size
            clear hM hold167 hb167 ho167
            refine WL.apO (H5) rfl rfl TI65 TI26 rfl rfl hvd (by decide) (by decide) (by show v167.cells.size = 1; rw [own_cells hr167]; rfl) (by show ∀ a ∈ v167.cells.toList, _; rw [own_cells hr167]; intro a ha; simp at ha; rw [ha]; exact own_one hr167) rfl (by rw [maxLen_eq]; omega) (by omega) (by omega) ?_
            intro vd1 w169 hvd1 ho169 hb169 _
            replace hvd1 : w169.ownsRow H5 26 1 vd1 (r + 1) ((List.range r).map DV ++ v167.cells.toList) := hvd1
            replace ho169 : Only (fun k => vd.ownBlock = some k) w167 w169 := ho169
            rw [own_cells hr167] at hvd1
            replace hM2 := hM2.other hvd (by decide) ho169
            have hvb := fun k (hk : vd.ownBlock = some k) => (hvd.lt k hk).1
            replace hSq := fun q hq => (hSq q hq).only ho169 (fun k hk he => by have h1 := hvb k he; have h2 := hV4 q (by omega) k hk; omega)
            replace hSr := hSr.only ho169 (fun k hk he => by have h1 := hvb k he; have h2 := hV4 r hr1 k hk; omega)
            replace hg := own_only hg ho169 (fun k hk he => by have h1 := hvb k he; have h2 := hg4 k hk; omega)
            replace hF := hF.trans' ho169 (fun _ h => h) (fun k _ he => .inr (hvb k he))
            replace hx := Ext.many hx hz0 ho169 (fun k hk => by have := hvb k hk; omega)
            have hz169 := ho169.size
            have hvd2 : w169.ownsRow H5 26 1 vd1 (r + 1) ((List.range (r + 1)).map (fun p => if p = r then v167 else DV p)) := by rw [map_snoc]; exact hvd1
            clear hvd1 ho169 hb169 hvd
            refine WL.c rfl (o_ash (by first | exact (show _ = Value.slice _ _ _ from rfl) | exact rfl) ?_)
            refine WL.nil ?_
            refine W.region ?_
            refine WL.c rfl (o_mvh h20 ?_)
            refine WL.c rfl (o_addi rfl rfl (by omega) ?_)
            refine WL.c rfl (o_ash (show _ = Value.int _ _ from rfl) ?_)
            refine WL.nil ?_
            refine ⟨⟨r + 1, _, _, _, vd1, by omega, h3v, h12, h13, rfl, rfl, fun q hq => ?_, fun q hq => ?_, hM2, fun q hq => ?_, hvd2, hg, by omega, hF, hx⟩, ?_⟩
            · by_cases e : q = r
              · subst e; simp only [if_pos]; exact ⟨trivial, trivial⟩
              · simp only [if_neg e]; exact hL1 q (by omega)
            · have e : ¬ q = r := by omega
              simp only [if_neg e]; exact hL2 q (by omega)
            · rcases Nat.lt_or_ge q r with h | h
              · exact hSq q h
              · obtain rfl : q = r := by omega
                exact hSr
            · show N - ((r : Int) + 1).toNat < _
              rw [hm20]; simp [intOf]; omega
          · try simp only [decide_eq_true_eq, decide_eq_false_iff_not, Bool.not_eq_true', Bool.not_eq_false', Bool.and_eq_true, Bool.or_eq_true, Bool.and_eq_false_iff, Bool.or_eq_false_iff] at c154
            have hrN : r = N := by omega
            rw [hrN] at hL1 hSq hvd
            clear hm20 h3v h20 hL2
            have hM6 : ∀ q, q < T → Sl w 7 (MV q) (TY q ++ [mkE q]).length (exs (TY q ++ [mkE q])) := fun q hq => (hM5 q hq).only hF (fun k hk hk2 => by rcases hk2 with ⟨i, hi, h⟩ | h; exact (hMb q hq k hk).2 i hi h; have := (hMb q hq k hk).1; omega)
            have hQ6 : ∀ q, q < T → Sl w 7 (Q q) (TY q).length (exs (TY q)) := fun q hq => (hSq5 q hq).only hF (fun k hk hk2 => by rcases hk2 with ⟨i, hi, h⟩ | h; exact (hQb q hq k hk).2 i hi h; have := (hQb q hq k hk).1; omega)
            have hvm := own_only hvm5 hF (fun k hk hk2 => by rcases hk2 with ⟨i, hi, h⟩ | h; exact (hvmb k hk).2 i hi h; have := (hvmb k hk).1; omega)
            have hl := own_only hl5 hF (fun k hk hk2 => by rcases hk2 with ⟨i, hi, h⟩ | h; exact (hvlb k hk).2 i hi h; have := (hvlb k hk).1; omega)
            have hD6 : ∀ i, i < N → Sl w 3 (DV i) (C i ++ [mkD i]).length (drows (C i ++ [mkD i]) (fun j => if j = (C i).length then .slice none 0 0 else U i j)) := fun i hi => by have h := Sl.own (hM.row i hi); rw [(hL1 i hi).1, (hL1 i hi).2] at h; rw [drows_snoc, List.length_append]; exact h
            have hS6_ := hSq
            clear hM hF hM5 hSq5 hvm5 hl5 hL1
            obtain ⟨w6, hw6⟩ : ∃ w6, w6 = w := ⟨_, rfl⟩
            refine W.exit ?_
            refine W.seq ?_
            refine W.seq ?_
            refine W.region ?_
            refine WL.c rfl (o_ash (show _ = Value.int _ _ from rfl) ?_)
            refine WL.nil ?_
            refine W.block ?_
            refine W.loop (fun e w => ∃ q : Nat, q ≤ T ∧ e 3 = vg ∧ e 12 = vl ∧ e 13 = vm ∧ e 19 = vd ∧ e 21 = .int .i64 (q : Int) ∧ w = w6) (fun e w => T - (intOf (e 21)).toNat) ?_ ?_
            · exact ⟨0, Nat.zero_le _, h3, h12, h13, h19, rfl, hw6.symm⟩
            rintro e w ⟨q, hq, h3, h12, h13, h19, h21, hww⟩
            have hww2 := hww.trans hw6
            subst hww2
            have hm21 := h21
            refine W.seq ?_
            refine W.seq ?_
            refine W.region ?_
            refine WL.c rfl (o_mvh h21 ?_)
            refine WL.c rfl (o_mvh h13 ?_)
            refine WL.c rfl (o_lenR TI64 rfl (Sl.own hvm) ?_)
            refine WL.c rfl (o_lt rfl rfl ?_)
            refine WL.nil ?_
            refine W.cond rfl (fun c173 => ?_) (fun c173 => ?_)
            · try simp only [decide_eq_true_eq, decide_eq_false_iff_not, Bool.not_eq_true', Bool.not_eq_false', Bool.and_eq_true, Bool.or_eq_true, Bool.and_eq_false_iff, Bool.or_eq_false_iff] at c173
              have hq1 : q < T := by omega
              obtain ⟨gm, cm, hvme, -⟩ := own_some hvm (by omega)
              obtain ⟨gl, cl, hvle, -⟩ := own_some hl (by omega)
              have hmm := hvm
              rw [hvme] at hmm
              have hll := hl
              rw [hvle] at hll
              have hcm := own_cell1 hmm (map_at hq1)
              have hcl := own_cell1 hll (map_at hq1)
              have hks := kinds_snoc (hTd q hq1)
              have hqn := hTn2 q hq1
              have h12v := h12
              have h13v := h13
              refine W.skip ?_
              refine W.seq ?_
              refine W.block ?_
              refine W.seq ?_
              refine W.region ?_
              refine WL.c rfl (o_ash (show _ = Value.int _ _ from rfl) ?_)
              refine WL.nil ?_
              refine W.block ?_
              refine W.loop (fun e w => ∃ j : Nat, j ≤ (TY q ++ [mkE q]).length ∧ e 3 = vg ∧ e 12 = vl ∧ e 13 = vm ∧ e 19 = vd ∧ e 21 = .int .i64 (q : Int) ∧ e 22 = .int .i64 (j : Int) ∧ w = w6) (fun e w => (TY q ++ [mkE q]).length - (intOf (e 22)).toNat) ?_ ?_
              · exact ⟨0, Nat.zero_le _, h3, h12, h13, h19, h21, rfl, hw6.symm⟩
              rintro e w ⟨j, hj, h3, h12, h13, h19, h21, h22, hww⟩
              have hww2 := hww.trans hw6
              subst hww2
              have hm22 := h22
              have hlen1 : (TY q ++ [mkE q]).length = (TY q).length + 1 := by simp
              have h13v := h13
              have h12v := h12
              rw [hvme] at h13
              rw [hvle] at h12
              refine W.seq ?_
              refine W.seq ?_
              refine W.region ?_
              refine WL.c rfl (o_mvh h22 ?_)
              refine WL.c rfl (o_mvh h13 ?_)
              refine WL.c rfl (o_mvh h21 ?_)
              refine WL.c rfl (o_ixB TI64 TI38 rfl rfl (by omega) ?_)
              refine WL.c rfl (o_ld TI38 rfl rfl (hcm 0 _ rfl) ?_)
              refine WL.c rfl (o_lenR TI38 rfl (hM6 q hq1) ?_)
              refine WL.c rfl (o_lt rfl rfl ?_)
              refine WL.nil ?_
              refine W.cond rfl (fun c182 => ?_) (fun c182 => ?_)
              · try simp only [decide_eq_true_eq, decide_eq_false_iff_not, Bool.not_eq_true', Bool.not_eq_false', Bool.and_eq_true, Bool.or_eq_true, Bool.and_eq_false_iff, Bool.or_eq_false_iff] at c182
                have hj1 : j < (TY q ++ [mkE q]).length := by omega
                obtain ⟨bm, om, cm2, hMV, htm⟩ := Sl.exq (hM6 q hq1) hj1
                have hkj := hks _ (List.getElem_mem hj1)
                rw [hMV] at hcm
                refine W.skip ?_
                refine W.seq ?_
                refine W.block ?_
                refine W.seq ?_
                by_cases hj2 : j < (TY q).length
                · skip
                  obtain ⟨bq, oq, cq, hQe, htq⟩ := Sl.exq (hQ6 q hq1) hj2
                  have hkq := hTd q hq1 _ (List.getElem_mem hj2)
                  rw [hQe] at hcl
                  have hQ6e := hQ6 q hq1
                  rw [hQe] at hQ6e
                  refine W.region ?_
                  refine WL.c rfl (o_mvh h13 ?_)
                  refine WL.c rfl (o_mvh h21 ?_)
                  refine WL.c rfl (o_ixB TI64 TI38 rfl rfl (by omega) ?_)
                  refine WL.c rfl (o_ld TI38 rfl rfl (hcm 0 _ rfl) ?_)
                  refine WL.c rfl (o_mvh h22 ?_)
                  refine WL.c rfl (o_ixB TI38 TI30 rfl rfl (by omega) ?_)
                  refine WL.c rfl (o_fa 0 TI30 rfl TI3 rfl rfl ?_)
                  refine WL.c rfl (o_ld TI3 rfl rfl (htm 0 _ rfl) ?_)
                  refine WL.c rfl (o_mvh h21 ?_)
                  refine WL.c rfl (o_subi rfl rfl (by omega) ?_)
                  refine WL.c rfl (o_ne rfl rfl ?_)
                  refine WL.c rfl (o_mvh (show _ = Value.bool _ from rfl) ?_)
                  refine WL.g rfl (by simp [hkj]) rfl (o_mvh h22 ?_)
                  refine WL.g rfl (by simp [hkj]) rfl (o_mvh h12 ?_)
                  refine WL.g rfl (by simp [hkj]) rfl (o_mvh h21 ?_)
                  refine WL.g rfl (by simp [hkj]) rfl (o_ixB TI64 TI38 rfl rfl (by omega) ?_)
                  refine WL.g rfl (by simp [hkj]) rfl (o_ld TI38 rfl rfl (hcl 0 _ rfl) ?_)
                  refine WL.g rfl (by simp [hkj]) rfl (o_lenR TI38 rfl hQ6e ?_)
                  refine WL.g rfl (by simp [hkj]) rfl (o_lt rfl rfl ?_)
                  refine WL.g rfl (by simp [hkj]) rfl (o_mvh (show _ = Value.bool _ from rfl) ?_)
                  refine WL.g rfl (decide_eq_true (by omega)) rfl (o_mvh h12 ?_)
                  refine WL.g rfl (decide_eq_true (by omega)) rfl (o_mvh h21 ?_)
                  refine WL.g rfl (decide_eq_true (by omega)) rfl (o_ixB TI64 TI38 rfl rfl (by omega) ?_)
                  refine WL.g rfl (decide_eq_true (by omega)) rfl (o_ld TI38 rfl rfl (hcl 0 _ rfl) ?_)
                  refine WL.g rfl (decide_eq_true (by omega)) rfl (o_mvh h22 ?_)
                  refine WL.g rfl (decide_eq_true (by omega)) rfl (o_ixB TI38 TI30 rfl rfl (by omega) ?_)
                  refine WL.g rfl (decide_eq_true (by omega)) rfl (o_fa 0 TI30 rfl TI3 rfl rfl ?_)
                  refine WL.g rfl (decide_eq_true (by omega)) rfl (o_ld TI3 rfl rfl (htq 0 _ rfl) ?_)
                  refine WL.g rfl (decide_eq_true (by omega)) rfl (o_mvh h21 ?_)
                  refine WL.g rfl (decide_eq_true (by omega)) rfl (o_subi rfl rfl (by omega) ?_)
                  refine WL.g rfl (decide_eq_true (by omega)) rfl (o_ne rfl rfl ?_)
                  refine WL.g rfl (by simp [hkj]) rfl (o_pickA rfl rfl ?_)
                  refine WL.c rfl (o_pickO rfl rfl ?_)
                  refine WL.nil ?_
                  refine W.condF' rfl (by simp [hkj, hkq]) ?_
                  refine W.skip ?_
                  refine W.region ?_
                  refine WL.c rfl (o_mvh h22 ?_)
                  refine WL.c rfl (o_addi rfl rfl (by omega) ?_)
                  refine WL.c rfl (o_ash (show _ = Value.int _ _ from rfl) ?_)
                  refine WL.nil ?_
                  refine ⟨⟨j + 1, by omega, h3, h12v, h13v, h19, h21, rfl, hw6.symm⟩, ?_⟩
                  show (TY q ++ [mkE q]).length - ((j : Int) + 1).toNat < _
                  rw [hm22]; simp [intOf]; omega
                · skip
                  skip
                  refine W.region ?_
                  refine WL.c rfl (o_mvh h13 ?_)
                  refine WL.c rfl (o_mvh h21 ?_)
                  refine WL.c rfl (o_ixB TI64 TI38 rfl rfl (by omega) ?_)
                  refine WL.c rfl (o_ld TI38 rfl rfl (hcm 0 _ rfl) ?_)
                  refine WL.c rfl (o_mvh h22 ?_)
                  refine WL.c rfl (o_ixB TI38 TI30 rfl rfl (by omega) ?_)
                  refine WL.c rfl (o_fa 0 TI30 rfl TI3 rfl rfl ?_)
                  refine WL.c rfl (o_ld TI3 rfl rfl (htm 0 _ rfl) ?_)
                  refine WL.c rfl (o_mvh h21 ?_)
                  refine WL.c rfl (o_subi rfl rfl (by omega) ?_)
                  refine WL.c rfl (o_ne rfl rfl ?_)
                  refine WL.c rfl (o_mvh (show _ = Value.bool _ from rfl) ?_)
                  refine WL.g rfl (by simp [hkj]) rfl (o_mvh h22 ?_)
                  refine WL.g rfl (by simp [hkj]) rfl (o_mvh h12 ?_)
                  refine WL.g rfl (by simp [hkj]) rfl (o_mvh h21 ?_)
                  refine WL.g rfl (by simp [hkj]) rfl (o_ixB TI64 TI38 rfl rfl (by omega) ?_)
                  refine WL.g rfl (by simp [hkj]) rfl (o_ld TI38 rfl rfl (hcl 0 _ rfl) ?_)
                  refine WL.g rfl (by simp [hkj]) rfl (o_lenR TI38 rfl (hQ6 q hq1) ?_)
                  refine WL.g rfl (by simp [hkj]) rfl (o_lt rfl rfl ?_)
                  refine WL.g rfl (by simp [hkj]) rfl (o_mvh (show _ = Value.bool _ from rfl) ?_)
                  refine WL.s rfl (decide_eq_false (by omega)) rfl ?_
                  refine WL.s rfl (decide_eq_false (by omega)) rfl ?_
                  refine WL.s rfl (decide_eq_false (by omega)) rfl ?_
                  refine WL.s rfl (decide_eq_false (by omega)) rfl ?_
                  refine WL.s rfl (decide_eq_false (by omega)) rfl ?_
                  refine WL.s rfl (decide_eq_false (by omega)) rfl ?_
                  refine WL.s rfl (decide_eq_false (by omega)) rfl ?_
                  refine WL.s rfl (decide_eq_false (by omega)) rfl ?_
                  refine WL.s rfl (decide_eq_false (by omega)) rfl ?_
                  refine WL.s rfl (decide_eq_false (by omega)) rfl ?_
                  refine WL.s rfl (decide_eq_false (by omega)) rfl ?_
                  refine WL.g rfl (by simp [hkj]) rfl (o_pickF rfl (decide_eq_false (by omega)) ?_)
                  refine WL.c rfl (o_pickO rfl rfl ?_)
                  refine WL.nil ?_
                  refine W.condF' rfl (by simp [hkj]) ?_
                  refine W.skip ?_
                  refine W.region ?_
                  refine WL.c rfl (o_mvh h22 ?_)
                  refine WL.c rfl (o_addi rfl rfl (by omega) ?_)
                  refine WL.c rfl (o_ash (show _ = Value.int _ _ from rfl) ?_)
                  refine WL.nil ?_
                  refine ⟨⟨j + 1, by omega, h3, h12v, h13v, h19, h21, rfl, hw6.symm⟩, ?_⟩
                  show (TY q ++ [mkE q]).length - ((j : Int) + 1).toNat < _
                  rw [hm22]; simp [intOf]; omega
              · try simp only [decide_eq_true_eq, decide_eq_false_iff_not, Bool.not_eq_true', Bool.not_eq_false', Bool.and_eq_true, Bool.or_eq_true, Bool.and_eq_false_iff, Bool.or_eq_false_iff] at c182
                refine W.exit ?_
                refine W.region ?_
                refine WL.c rfl (o_mvh h21 ?_)
                refine WL.c rfl (o_addi rfl rfl (by omega) ?_)
                refine WL.c rfl (o_ash (show _ = Value.int _ _ from rfl) ?_)
                refine WL.nil ?_
                refine ⟨⟨q + 1, by omega, h3, h12v, h13v, h19, rfl, hw6.symm⟩, ?_⟩
                show T - ((q : Int) + 1).toNat < _
                rw [hm21]; simp [intOf]; omega
            · try simp only [decide_eq_true_eq, decide_eq_false_iff_not, Bool.not_eq_true', Bool.not_eq_false', Bool.and_eq_true, Bool.or_eq_true, Bool.and_eq_false_iff, Bool.or_eq_false_iff] at c173
              refine W.exit ?_
              refine W.seq ?_
              refine W.seq ?_
              refine W.region ?_
              refine WL.c rfl (o_ash (show _ = Value.int _ _ from rfl) ?_)
              refine WL.nil ?_
              refine W.block ?_
              refine W.loop (fun e w => ∃ i : Nat, i ≤ N ∧ e 3 = vg ∧ e 19 = vd ∧ e 23 = .int .i64 (i : Int) ∧ w = w6) (fun e w => N - (intOf (e 23)).toNat) ?_ ?_
              · exact ⟨0, Nat.zero_le _, h3, h19, rfl, hw6.symm⟩
              rintro e w ⟨i, hi, h3, h19, h23, hww⟩
              have hww2 := hww.trans hw6
              subst hww2
              have hm23 := h23
              refine W.seq ?_
              refine W.seq ?_
              refine W.region ?_
              refine WL.c rfl (o_mvh h23 ?_)
              refine WL.c rfl (o_mvh h19 ?_)
              refine WL.c rfl (o_lenR TI65 rfl (Sl.own hvd) ?_)
              refine WL.c rfl (o_lt rfl rfl ?_)
              refine WL.nil ?_
              refine W.cond rfl (fun c221 => ?_) (fun c221 => ?_)
              · try simp only [decide_eq_true_eq, decide_eq_false_iff_not, Bool.not_eq_true', Bool.not_eq_false', Bool.and_eq_true, Bool.or_eq_true, Bool.and_eq_false_iff, Bool.or_eq_false_iff] at c221
                have hi1 : i < N := by omega
                obtain ⟨gm, cm, hvde, -⟩ := own_some hvd (by omega)
                obtain ⟨gl, cl, hvge, -⟩ := own_some hg (by omega)
                have hmm := hvd
                rw [hvde] at hmm
                have hll := hg
                rw [hvge] at hll
                have hcm := own_cell1 hmm (map_at hi1)
                have hcl := own_cell1 hll (map_at hi1)
                have hat := ats_snoc (hCd i hi1)
                have hn1 := hCl i
                have hn2 := hg256 i
                have hlen1 : (C i ++ [mkD i]).length = (C i).length + 1 := by simp
                have h3v := h3
                have h19v := h19
                refine W.skip ?_
                refine W.seq ?_
                refine W.block ?_
                refine W.seq ?_
                refine W.region ?_
                refine WL.c rfl (o_ash (show _ = Value.int _ _ from rfl) ?_)
                refine WL.nil ?_
                refine W.block ?_
                refine W.loop (fun e w => ∃ j : Nat, j ≤ (C i ++ [mkD i]).length ∧ e 3 = vg ∧ e 19 = vd ∧ e 23 = .int .i64 (i : Int) ∧ e 24 = .int .i64 (j : Int) ∧ w = w6) (fun e w => (C i ++ [mkD i]).length - (intOf (e 24)).toNat) ?_ ?_
                · exact ⟨0, Nat.zero_le _, h3, h19, h23, rfl, hw6.symm⟩
                rintro e w ⟨j, hj, h3, h19, h23, h24, hww⟩
                have hww2 := hww.trans hw6
                subst hww2
                have hm24 := h24
                have h3v := h3
                have h19v := h19
                rw [hvde] at h19
                rw [hvge] at h3
                refine W.seq ?_
                refine W.seq ?_
                refine W.region ?_
                refine WL.c rfl (o_mvh h24 ?_)
                refine WL.c rfl (o_mvh h19 ?_)
                refine WL.c rfl (o_mvh h23 ?_)
                refine WL.c rfl (o_ixB TI65 TI26 rfl rfl (by omega) ?_)
                refine WL.c rfl (o_ld TI26 rfl rfl (hcm 0 _ rfl) ?_)
                refine WL.c rfl (o_lenR TI26 rfl (hD6 i hi1) ?_)
                refine WL.c rfl (o_lt rfl rfl ?_)
                refine WL.nil ?_
                refine W.cond rfl (fun c230 => ?_) (fun c230 => ?_)
                · try simp only [decide_eq_true_eq, decide_eq_false_iff_not, Bool.not_eq_true', Bool.not_eq_false', Bool.and_eq_true, Bool.or_eq_true, Bool.and_eq_false_iff, Bool.or_eq_false_iff] at c230
                  have hj1 : j < (C i ++ [mkD i]).length := by omega
                  obtain ⟨bm, om, cm2, hDV, htm⟩ := sl_drow (hD6 i hi1) hj1
                  have hkj := hat j hj1
                  rw [hDV] at hcm
                  refine W.skip ?_
                  refine W.seq ?_
                  refine W.block ?_
                  refine W.seq ?_
                  by_cases hj2 : j < (C i).length
                  · skip
                    have hS6 := hS6_ i hi1
                    obtain ⟨bq, oq, cq, hVe, htq⟩ := sl_drow hS6 hj2
                    have hkq := hCd i hi1 j hj2
                    rw [hVe] at hcl hS6
                    refine W.region ?_
                    refine WL.c rfl (o_mvh h19 ?_)
                    refine WL.c rfl (o_mvh h23 ?_)
                    refine WL.c rfl (o_ixB TI65 TI26 rfl rfl (by omega) ?_)
                    refine WL.c rfl (o_ld TI26 rfl rfl (hcm 0 _ rfl) ?_)
                    refine WL.c rfl (o_mvh h24 ?_)
                    refine WL.c rfl (o_ixB TI26 TI40 rfl rfl (by omega) ?_)
                    refine WL.c rfl (o_fa 1 TI40 rfl TI3 rfl rfl ?_)
                    refine WL.c rfl (o_ld TI3 rfl rfl (htm 1 _ rfl) ?_)
                    refine WL.c rfl (o_mvh h23 ?_)
                    refine WL.c rfl (o_subi rfl rfl (by omega) ?_)
                    refine WL.c rfl (o_ne rfl rfl ?_)
                    refine WL.c rfl (o_mvh (show _ = Value.bool _ from rfl) ?_)
                    refine WL.g rfl (by simp only [hkj]; simp) rfl (o_mvh h24 ?_)
                    refine WL.g rfl (by simp only [hkj]; simp) rfl (o_mvh h3 ?_)
                    refine WL.g rfl (by simp only [hkj]; simp) rfl (o_mvh h23 ?_)
                    refine WL.g rfl (by simp only [hkj]; simp) rfl (o_ixB TI63 TI28 rfl rfl (by omega) ?_)
                    refine WL.g rfl (by simp only [hkj]; simp) rfl (o_fa 0 TI28 rfl TI26 rfl rfl ?_)
                    refine WL.g rfl (by simp only [hkj]; simp) rfl (o_ld TI26 rfl rfl (hcl 0 _ rfl) ?_)
                    refine WL.g rfl (by simp only [hkj]; simp) rfl (o_lenR TI26 rfl hS6 ?_)
                    refine WL.g rfl (by simp only [hkj]; simp) rfl (o_lt rfl rfl ?_)
                    refine WL.g rfl (by simp only [hkj]; simp) rfl (o_mvh (show _ = Value.bool _ from rfl) ?_)
                    refine WL.g rfl (decide_eq_true (by omega)) rfl (o_mvh h3 ?_)
                    refine WL.g rfl (decide_eq_true (by omega)) rfl (o_mvh h23 ?_)
                    refine WL.g rfl (decide_eq_true (by omega)) rfl (o_ixB TI63 TI28 rfl rfl (by omega) ?_)
                    refine WL.g rfl (decide_eq_true (by omega)) rfl (o_fa 0 TI28 rfl TI26 rfl rfl ?_)
                    refine WL.g rfl (decide_eq_true (by omega)) rfl (o_ld TI26 rfl rfl (hcl 0 _ rfl) ?_)
                    refine WL.g rfl (decide_eq_true (by omega)) rfl (o_mvh h24 ?_)
                    refine WL.g rfl (decide_eq_true (by omega)) rfl (o_ixB TI26 TI40 rfl rfl (by omega) ?_)
                    refine WL.g rfl (decide_eq_true (by omega)) rfl (o_fa 1 TI40 rfl TI3 rfl rfl ?_)
                    refine WL.g rfl (decide_eq_true (by omega)) rfl (o_ld TI3 rfl rfl (htq 1 _ rfl) ?_)
                    refine WL.g rfl (decide_eq_true (by omega)) rfl (o_mvh h23 ?_)
                    refine WL.g rfl (decide_eq_true (by omega)) rfl (o_subi rfl rfl (by omega) ?_)
                    refine WL.g rfl (decide_eq_true (by omega)) rfl (o_ne rfl rfl ?_)
                    refine WL.g rfl (by simp only [hkj]; simp) rfl (o_pickA rfl rfl ?_)
                    refine WL.c rfl (o_pickO rfl rfl ?_)
                    refine WL.nil ?_
                    refine W.condF' rfl (by simp only [hkj, hkq]; simp) ?_
                    refine W.skip ?_
                    refine W.region ?_
                    refine WL.c rfl (o_mvh h24 ?_)
                    refine WL.c rfl (o_addi rfl rfl (by omega) ?_)
                    refine WL.c rfl (o_ash (show _ = Value.int _ _ from rfl) ?_)
                    refine WL.nil ?_
                    refine ⟨⟨j + 1, by omega, h3v, h19v, h23, rfl, hw6.symm⟩, ?_⟩
                    show (C i ++ [mkD i]).length - ((j : Int) + 1).toNat < _
                    rw [hm24]; simp [intOf]; omega
                  · skip
                    skip
                    refine W.region ?_
                    refine WL.c rfl (o_mvh h19 ?_)
                    refine WL.c rfl (o_mvh h23 ?_)
                    refine WL.c rfl (o_ixB TI65 TI26 rfl rfl (by omega) ?_)
                    refine WL.c rfl (o_ld TI26 rfl rfl (hcm 0 _ rfl) ?_)
                    refine WL.c rfl (o_mvh h24 ?_)
                    refine WL.c rfl (o_ixB TI26 TI40 rfl rfl (by omega) ?_)
                    refine WL.c rfl (o_fa 1 TI40 rfl TI3 rfl rfl ?_)
                    refine WL.c rfl (o_ld TI3 rfl rfl (htm 1 _ rfl) ?_)
                    refine WL.c rfl (o_mvh h23 ?_)
                    refine WL.c rfl (o_subi rfl rfl (by omega) ?_)
                    refine WL.c rfl (o_ne rfl rfl ?_)
                    refine WL.c rfl (o_mvh (show _ = Value.bool _ from rfl) ?_)
                    refine WL.g rfl (by simp only [hkj]; simp) rfl (o_mvh h24 ?_)
                    refine WL.g rfl (by simp only [hkj]; simp) rfl (o_mvh h3 ?_)
                    refine WL.g rfl (by simp only [hkj]; simp) rfl (o_mvh h23 ?_)
                    refine WL.g rfl (by simp only [hkj]; simp) rfl (o_ixB TI63 TI28 rfl rfl (by omega) ?_)
                    refine WL.g rfl (by simp only [hkj]; simp) rfl (o_fa 0 TI28 rfl TI26 rfl rfl ?_)
                    refine WL.g rfl (by simp only [hkj]; simp) rfl (o_ld TI26 rfl rfl (hcl 0 _ rfl) ?_)
                    refine WL.g rfl (by simp only [hkj]; simp) rfl (o_lenR TI26 rfl (hS6_ i hi1) ?_)
                    refine WL.g rfl (by simp only [hkj]; simp) rfl (o_lt rfl rfl ?_)
                    refine WL.g rfl (by simp only [hkj]; simp) rfl (o_mvh (show _ = Value.bool _ from rfl) ?_)
                    refine WL.s rfl (decide_eq_false (by omega)) rfl ?_
                    refine WL.s rfl (decide_eq_false (by omega)) rfl ?_
                    refine WL.s rfl (decide_eq_false (by omega)) rfl ?_
                    refine WL.s rfl (decide_eq_false (by omega)) rfl ?_
                    refine WL.s rfl (decide_eq_false (by omega)) rfl ?_
                    refine WL.s rfl (decide_eq_false (by omega)) rfl ?_
                    refine WL.s rfl (decide_eq_false (by omega)) rfl ?_
                    refine WL.s rfl (decide_eq_false (by omega)) rfl ?_
                    refine WL.s rfl (decide_eq_false (by omega)) rfl ?_
                    refine WL.s rfl (decide_eq_false (by omega)) rfl ?_
                    refine WL.s rfl (decide_eq_false (by omega)) rfl ?_
                    refine WL.s rfl (decide_eq_false (by omega)) rfl ?_
                    refine WL.g rfl (by simp only [hkj]; simp) rfl (o_pickF rfl (decide_eq_false (by omega)) ?_)
                    refine WL.c rfl (o_pickO rfl rfl ?_)
                    refine WL.nil ?_
                    refine W.condF' rfl (by simp only [hkj]; simp) ?_
                    refine W.skip ?_
                    refine W.region ?_
                    refine WL.c rfl (o_mvh h24 ?_)
                    refine WL.c rfl (o_addi rfl rfl (by omega) ?_)
                    refine WL.c rfl (o_ash (show _ = Value.int _ _ from rfl) ?_)
                    refine WL.nil ?_
                    refine ⟨⟨j + 1, by omega, h3v, h19v, h23, rfl, hw6.symm⟩, ?_⟩
                    show (C i ++ [mkD i]).length - ((j : Int) + 1).toNat < _
                    rw [hm24]; simp [intOf]; omega
                · try simp only [decide_eq_true_eq, decide_eq_false_iff_not, Bool.not_eq_true', Bool.not_eq_false', Bool.and_eq_true, Bool.or_eq_true, Bool.and_eq_false_iff, Bool.or_eq_false_iff] at c230
                  refine W.exit ?_
                  refine W.region ?_
                  refine WL.c rfl (o_mvh h23 ?_)
                  refine WL.c rfl (o_addi rfl rfl (by omega) ?_)
                  refine WL.c rfl (o_ash (show _ = Value.int _ _ from rfl) ?_)
                  refine WL.nil ?_
                  refine ⟨⟨i + 1, by omega, h3v, h19v, rfl, hw6.symm⟩, ?_⟩
                  show N - ((i : Int) + 1).toNat < _
                  rw [hm23]; simp [intOf]; omega
              · try simp only [decide_eq_true_eq, decide_eq_false_iff_not, Bool.not_eq_true', Bool.not_eq_false', Bool.and_eq_true, Bool.or_eq_true, Bool.and_eq_false_iff, Bool.or_eq_false_iff] at c221
                refine W.exit ?_
                refine W.seq ?_
                refine W.region ?_
                refine WL.c rfl (o_ash (show _ = Value.bool _ from rfl) ?_)
                refine WL.nil ?_
                refine W.ret ?_
                refine ret1v rfl (show _ = Value.bool _ from rfl) ?_
                exact ⟨rfl, hx⟩
end Go.Proofs.Ytcljkkfpcomdcaa
