/-
  Walks and lemmas. Written by program out of specs of mine.
-/
import Derived.WalkKit
import Derived.WalkSpells
import Derived.WalkLawsBesides
import Derived.Deep.Quiet
import Derived.StillTail
import Derived.StringKeys
import Derived.Laws.StructEq
import Derived.Laws.Externs
import Derived.Laws.Tables
import Derived.Scope
import Derived.Laws.AppendOwn
import Derived.Maps.AppendAt
import Derived.Recover
import Derived.Test.YthlbhnefldaoiaaDoorProg
import Derived.Shelf.Strconv.Itoa0
import Derived.Shelf.Strconv.Itoa1
import Derived.Shelf.LaysM
import Derived.Shelf.Strconv.Itoa2
import Derived.Shelf.Strconv.Itoa3
import Derived.Shelf.Strings.Builder1
import Derived.Shelf.Strings.OnBuilder
import Derived.Lib.Builder
import Derived.Lib.UnsafeStr
import Derived.Lib.ItoaLen
import Derived.SizedLaws
import Derived.ChangeArms
import Derived.ChangeSlices
import Derived.Lib.ConvBytes
import Derived.Test.YthlbhnefldaoiaaDoorRows
import Derived.ProofKit
import Derived.OpenShut
import Derived.ShutString
import Derived.ChangeOld
import Derived.Below
import Derived.JoinedCond
import Derived.SliceStrings
import Derived.Test.YthlbhnefldaoiaaDoorCards
import Derived.Test.YthlbhnefldaoiaaDoorTie
import Derived.Deep.DeepHandedRow
import Derived.Lib.LaidTab
import Derived.Test.YthlbhnefldaoiaaDoorKa6
set_option linter.unusedSimpArgs false
set_option linter.unusedVariables false
set_option maxRecDepth 100000
set_option linter.unusedSimpArgs false
set_option linter.unusedVariables false
set_option maxRecDepth 100000
namespace Go.Proofs.YthlbhnefldaoiaaDoor
open Go Go.Vc Go.RowKit Go.Proofs
set_option maxHeartbeats 64000000 in
theorem apart_walk (w0 : World) (p : Pg) (cv ev_ : Value) (hp : PgR w0 p cv ev_) (hb : BPg p) (hT : Tab w0) : Ca Tryd.prog 9 #[.agg (pgV p cv ev_).toArray] w0 (fun r w' => r = .bool true ∧ Ext w0 w') := by
  have hpo := hp.one.2.2
  refine Ca.of Tryd.func9 Tryd.ntmps9 rfl rfl ?_
  refine W.seq ?_
  refine W.region ?_
  refine WL.c rfl (o_boxB rfl ?_)
  intro w1 hC1 hx1 hs1
  obtain ⟨b1, hb1⟩ : ∃ b, b = w0.heap.size := ⟨_, rfl⟩
  rw [← hb1] at hC1 ⊢
  replace hC1 : w1.heap[b1]? = some (.cells (pgV p cv ev_).toArray 26 (0, 0)) := hC1
  have hx : Ext w0 w1 := hx1
  refine WL.c rfl (o_ash (show _ = Value.bool _ from rfl) ?_)
  refine WL.nil ?_
  refine W.seq ?_
  refine W.seq ?_
  refine W.region ?_
  refine WL.c rfl (o_call Tryd.call10 ln ((awake_spec _ (hT.ext hx)).mono ?_))
  rintro v28 w28 ⟨rfl, hx28⟩
  replace hx := hx.tr hx28
  replace hC1 := hx28.blk hC1 (fun h => h)
  refine WL.c rfl (o_not' rfl ?_)
  refine WL.nil ?_
  refine W.condF' rfl (by simp) ?_
  refine W.skip ?_
  refine W.seq ?_
  refine W.region ?_
  refine WL.c rfl (o_ldA TI26 rfl rfl (show Cells _ b1 0 (pgV p cv ev_) from Cells.of hC1 0 _ (by simp [pgV])) rfl ?_)
  refine WL.c rfl (o_call Tryd.call17 (lc rfl (lc rfl ln)) ((made_spec p cv ev_ 40 _ (hp.ext hx) hb (by decide)).mono ?_))
  rintro v31 w31 ⟨q, cu, eu, rfl, hok, hq0, hq1, hq2, hcu, heu, hx31⟩
  replace hcu := own_mono hcu (Nat.zero_le _)
  replace heu := own_mono heu (Nat.zero_le _)
  have hqc := hok.read.nc
  have hqe := hok.read.ne
  have hll := lay_len hok.read
  have hlp : 0 < (lay q).length := by obtain ⟨r, hr⟩ := lay_hd q; rw [hr]; simp
  replace hx := hx.tr hx31
  replace hC1 := hx31.blk hC1 (fun h => h)
  refine WL.u (o_stA TI26 rfl (show _ = Value.agg (pgV q cu eu).toArray from rfl) rfl (by simp [pgV, own_one hcu, own_one heu]; rfl) hC1 rfl ?_)
  intro ws31 hBs ho31 hs31
  replace hx := hx.trans' ho31 (fun _ h => h) (fun k hk he => by omega)
  replace hcu := own_only hcu ho31 (fun k hk he => by subst he; exact own_off hcu hC1 (by decide) hk)
  replace heu := own_only heu ho31 (fun k hk he => by subst he; exact own_off heu hC1 (by decide) hk)
  clear hC1
  have hC1 := hBs
  clear hBs
  refine WL.nil ?_
  refine W.seq ?_
  refine W.region ?_
  refine WL.c rfl (o_ldA TI26 rfl rfl (show Cells _ b1 0 (pgV q cu eu) from Cells.of hC1 0 _ (by simp [pgV])) rfl ?_)
  refine WL.c rfl (o_call Tryd.call13 (lc rfl ln) ((encode_ok q hok cu eu _ ⟨Sl.own hcu, Sl.own heu⟩).mono ?_))
  rintro v34 w34 ⟨vb0, rfl, hvb0, hx34⟩
  replace hx := hx.tr hx34
  replace hcu := own_ext hcu hx34
  replace heu := own_ext heu hx34
  replace hC1 := hx34.blk hC1 (fun h => h)
  refine WL.c rfl (o_mvh (by first | exact (show _ = Value.tuple _ from rfl) | exact rfl) ?_)
  refine WL.c rfl (o_ext rfl rfl ?_)
  refine WL.c rfl (o_ext rfl rfl ?_)
  refine WL.c rfl (o_alB TI32 ?_)
  intro wa hCa hxa hsa
  refine WL.c rfl (o_ash (by first | exact (show _ = Value.slice _ _ _ from rfl) | exact rfl) ?_)
  refine WL.u (o_stA TI32 rfl (show _ = Value.agg ([.int .i64 0, .int .i64 0]).toArray from rfl) rfl rfl hCa rfl ?_)
  intro wb4 hC4 hob hsb
  have hxb := Ext.own hxa (Nat.le_refl _) hob
  obtain ⟨b4, hb4⟩ : ∃ b, b = w34.heap.size := ⟨_, rfl⟩
  rw [← hb4] at hC4 ⊢
  clear hCa hxa hsa hob hsb
  replace hx := hx.tr hxb
  replace hcu := own_ext hcu hxb
  replace heu := own_ext heu hxb
  replace hvb0 := own_ext hvb0 hxb
  replace hC1 := hxb.blk hC1 (fun h => h)
  clear hxb
  refine WL.nil ?_
  refine W.seq ?_
  refine W.seq ?_
  refine W.region ?_
  refine WL.c rfl (o_fa 0 TI32 rfl TI30 rfl rfl ?_)
  refine WL.c rfl (o_ld TI30 rfl rfl (cell_of hC4 rfl) ?_)
  refine WL.c rfl (o_call Tryd.call20 (lc rfl ln) ((num_spec 0 _).mono ?_))
  rintro v39 w39 ⟨rfl, hw39⟩
  obtain rfl := hw39.symm
  refine WL.c rfl (o_ne rfl rfl ?_)
  refine WL.nil ?_
  refine W.condF' rfl (by decide) ?_
  refine W.skip ?_
  refine W.seq ?_
  refine W.region ?_
  refine WL.c rfl (o_mvh (by first | exact (show _ = Value.slice _ _ _ from rfl) | exact rfl) ?_)
  refine WL.c rfl (o_cvBS TI34 TI5 TI9 rfl (Sl.own hvb0) ?_)
  refine WL.c rfl (o_ash (show _ = Value.string _ from rfl) ?_)
  refine WL.nil ?_
  refine W.seq ?_
  obtain ⟨H, hH⟩ : ∃ H, H = wb4.heap.size := ⟨_, rfl⟩
  have hO : Old w0 wb4 H q b1 cu eu := ⟨hcu, heu, hC1, hx, by omega, by rw [hH]; exact (Array.getElem?_eq_some_iff.1 hC1).1, fun k hk => by rw [hH]; exact (hcu.lt k hk).2, fun k hk => by rw [hH]; exact (heu.lt k hk).2, by rw [hH]; exact hx.size⟩
  clear hcu heu hC1 hx hC4 hvb0
  refine W.region ?_
  refine WL.c rfl (o_ash (by first | exact (show _ = Value.slice _ _ _ from rfl) | exact rfl) ?_)
  refine WL.nil ?_
  refine W.seq ?_
  refine W.region ?_
  refine WL.c rfl (o_ash (by first | exact (show _ = Value.slice _ _ _ from rfl) | exact rfl) ?_)
  refine WL.nil ?_
  refine W.seq ?_
  refine W.seq ?_
  refine W.region ?_
  refine WL.c rfl (o_ash (show _ = Value.int _ _ from rfl) ?_)
  refine WL.nil ?_
  refine W.block ?_
  refine W.loop (fun e w => ∃ (k : Nat) (VB VC VE : Nat → Value) (vb vp : Value), k ≤ 3 ∧ e 1 = Value.pointer (some ⟨b1, 0, none⟩) ∧ e 5 = st (lay q) ∧ e 6 = vb ∧ e 7 = vp ∧ e 8 = .int .i64 (k : Int) ∧ Apt w H k q.enc VB VC VE (vb) (vp) (fun _ => lay q) (fun _ => q.code) (fun _ => q.ent) ∧ Old w0 w H q b1 cu eu) (fun e w => 3 - (intOf (e 8)).toNat) ?_ ?_
  · exact ⟨0, fun _ => undef, fun _ => undef, fun _ => undef, _, _, by omega, rfl, rfl, rfl, rfl, rfl, Apt.zero _ _ _, hO⟩
  rintro e w ⟨k, VB, VC, VE, vb, vp, hk, h1, h5, h6, h7, h8, hA, hO⟩
  have hm8 := h8
  refine W.seq ?_
  refine W.seq ?_
  refine W.region ?_
  refine WL.c rfl (o_mvh h8 ?_)
  refine WL.c rfl (o_lt rfl rfl ?_)
  refine WL.nil ?_
  refine W.cond rfl (fun c44 => ?_) (fun c44 => ?_)
  · try simp only [decide_eq_true_eq, decide_eq_false_iff_not, Bool.not_eq_true', Bool.not_eq_false', Bool.and_eq_true, Bool.or_eq_true, Bool.and_eq_false_iff, Bool.or_eq_false_iff] at c44
    have hk1 : k < 3 := by omega
    obtain ⟨S1, hS1⟩ : ∃ S, S = w.heap.size := ⟨_, rfl⟩
    have hltB := fun (j : Nat) (hj : j < k) (b : Nat) (hb : (VB j).ownBlock = some b) => (hA.mb.lt hj hb).2
    have hltC := fun (j : Nat) (hj : j < k) (b : Nat) (hb : (VC j).ownBlock = some b) => (hA.mc.lt hj hb).2
    have hltE := fun (j : Nat) (hj : j < k) (b : Nat) (hb : (VE j).ownBlock = some b) => (hA.me.lt hj hb).2
    rw [← hS1] at hltB hltC hltE
    have hHS : H ≤ S1 := by rw [hS1]; exact hO.hs
    have hSs : S1 ≤ w.heap.size := by omega
    refine W.skip ?_
    refine W.seq ?_
    refine W.block ?_
    refine W.seq ?_
    refine W.region ?_
    refine WL.c rfl (o_ldA TI26 rfl h1 (show Cells _ b1 0 (pgV q cu eu) from Cells.of hO.p 0 _ (by simp [pgV])) rfl ?_)
    refine WL.c rfl (o_call Tryd.call13 (lc rfl ln) ((encode_ok q hok cu eu _ hO.pg).mono ?_))
    rintro v49 w49 ⟨vx, rfl, hvx, hx49⟩
    obtain ⟨gx, kx, rfl, -⟩ := own_some hvx hlp
    rw [← hS1] at hvx
    replace hA := hA.ext hx49
    replace hO := hO.ext hx49
    replace hSs := Nat.le_trans hSs hx49.size
    refine WL.c rfl (o_mvh (by first | exact (show _ = Value.tuple _ from rfl) | exact rfl) ?_)
    refine WL.c rfl (o_ext rfl rfl ?_)
    refine WL.c rfl (o_ext rfl rfl ?_)
    refine WL.c rfl (o_alB TI32 ?_)
    intro wa hCa hxa hsa
    refine WL.c rfl (o_ash (by first | exact (show _ = Value.slice _ _ _ from rfl) | exact rfl) ?_)
    refine WL.u (o_stA TI32 rfl (show _ = Value.agg ([.int .i64 0, .int .i64 0]).toArray from rfl) rfl rfl hCa rfl ?_)
    intro wb10 hC10 hob hsb
    have hxb := Ext.own hxa (Nat.le_refl _) hob
    obtain ⟨b10, hb10⟩ : ∃ b, b = w49.heap.size := ⟨_, rfl⟩
    rw [← hb10] at hC10 ⊢
    clear hCa hxa hsa hob hsb
    replace hA := hA.ext hxb
    replace hO := hO.ext hxb
    replace hvx := own_ext hvx hxb
    replace hSs := Nat.le_trans hSs hxb.size
    clear hxb
    refine WL.nil ?_
    refine W.seq ?_
    refine W.region ?_
    refine WL.c rfl (o_mvh h5 ?_)
    refine WL.c rfl (o_cvSB TI9 TI34 TI5 (show _ = st (lay q) from by first | rfl | assumption) ?_)
    intro w54 cap54 hby0 hx54 hcap54
    obtain ⟨bg, hbg⟩ : ∃ b, b = wb10.heap.size := ⟨_, rfl⟩
    rw [← hbg] at hby0 ⊢
    have hby : ByR w54 bg (lay q) := hby0
    clear hby0
    replace hA := hA.ext hx54
    replace hO := hO.ext hx54
    replace hvx := own_ext hvx hx54
    replace hC10 := hx54.blk hC10 (fun h => h)
    replace hSs := Nat.le_trans hSs hx54.size
    refine WL.c rfl (o_call Tryd.call14 (lc rfl ln) ((decode_ok q hok _ _ (hby.sl hcap54)).mono ?_))
    rintro v55 w55 ⟨cy, ey, rfl, hcy, hey, hx55⟩
    obtain ⟨gc, kc, rfl, -⟩ := own_some hcy hq0
    obtain ⟨ge, ke, rfl, -⟩ := own_some hey hq2
    replace hcy := own_mono hcy hSs
    replace hey := own_mono hey hSs
    clear hby
    replace hA := hA.ext hx55
    replace hO := hO.ext hx55
    replace hvx := own_ext hvx hx55
    replace hC10 := hx55.blk hC10 (fun h => h)
    replace hSs := Nat.le_trans hSs hx55.size
    refine WL.c rfl (o_mvh (by first | exact (show _ = Value.tuple _ from rfl) | exact rfl) ?_)
    refine WL.c rfl (o_ext rfl rfl ?_)
    refine WL.c rfl (o_ext rfl rfl ?_)
    refine WL.c rfl (o_alB TI26 ?_)
    intro w11 hC11 hx11 hs11
    obtain ⟨b11, hb11⟩ : ∃ b, b = w55.heap.size := ⟨_, rfl⟩
    rw [← hb11] at hC11 ⊢
    replace hC11 : w11.heap[b11]? = some (.cells ([.bool false, .slice none 0 0, .slice none 0 0]).toArray 26 (0, 0)) := hC11
    skip
    refine WL.c rfl (o_alB TI32 ?_)
    intro w12 hC12 hx12 hs12
    obtain ⟨b12, hb12⟩ : ∃ b, b = w11.heap.size := ⟨_, rfl⟩
    rw [← hb12] at hC12 ⊢
    replace hC12 : w12.heap[b12]? = some (.cells ([.int .i64 0, .int .i64 0]).toArray 32 (0, 0)) := hC12
    replace hC11 := hx12.blk hC11 (fun h => h)
    refine WL.u (o_stA TI26 rfl (show _ = Value.agg (pgV q (Value.slice (some ⟨gc, 0, none⟩) q.code.length kc) (Value.slice (some ⟨ge, 0, none⟩) q.ent.length ke)).toArray from rfl) rfl rfl hC11 rfl ?_)
    intro wp hBp hop hsp
    replace hC12 := hop.blk hC12 (by omega)
    have hxT := Ext.own (hx11.tr hx12) (show w55.heap.size ≤ b11 by omega) hop
    clear hC11
    have hC11 := hBp
    clear hBp
    refine WL.u (o_stA TI32 rfl (show _ = Value.agg ([.int .i64 0, .int .i64 0]).toArray from rfl) rfl rfl hC12 rfl ?_)
    intro wf hBf hof hsf
    replace hC11 := hof.blk hC11 (by omega)
    replace hxT := Ext.own hxT (show w55.heap.size ≤ b12 by omega) hof
    clear hC12
    have hC12 := hBf
    clear hBf hx11 hx12 hop hof
    replace hA := hA.ext hxT
    replace hO := hO.ext hxT
    replace hvx := own_ext hvx hxT
    replace hcy := own_ext hcy hxT
    replace hey := own_ext hey hxT
    replace hC10 := hxT.blk hC10 (fun h => h)
    replace hSs := Nat.le_trans hSs hxT.size
    refine WL.nil ?_
    refine W.seq ?_
    refine W.seq ?_
    refine W.region ?_
    refine WL.c rfl (o_fa 0 TI32 rfl TI30 rfl rfl ?_)
    refine WL.c rfl (o_ld TI30 rfl rfl (cell_of hC10 rfl) ?_)
    refine WL.c rfl (o_call Tryd.call20 (lc rfl ln) ((num_spec 0 _).mono ?_))
    rintro v60 w60 ⟨rfl, hw60⟩
    obtain rfl := hw60.symm
    refine WL.c rfl (o_ne rfl rfl ?_)
    refine WL.c rfl (o_mvh (show _ = Value.bool _ from rfl) ?_)
    refine WL.g rfl (by decide) rfl (o_fa 0 TI32 rfl TI30 rfl rfl ?_)
    refine WL.g rfl (by decide) rfl (o_ld TI30 rfl rfl (cell_of hC12 rfl) ?_)
    refine WL.g rfl (by decide) rfl (o_call Tryd.call20 (lc rfl ln) ((num_spec 0 _).mono ?_))
    rintro v65 w65 ⟨rfl, hw65⟩
    obtain rfl := hw65.symm
    refine WL.g rfl (by decide) rfl (o_ne rfl rfl ?_)
    refine WL.c rfl (o_pickO rfl rfl ?_)
    refine WL.nil ?_
    refine W.condF' rfl (by decide) ?_
    refine W.skip ?_
    refine W.seq ?_
    obtain ⟨VB2, hVB2⟩ : ∃ V : Nat → Value, V = fun j => if j = k then Value.slice (some ⟨gx, 0, none⟩) (lay q).length kx else VB j := ⟨_, rfl⟩
    obtain ⟨VC2, hVC2⟩ : ∃ V : Nat → Value, V = fun j => if j = k then (Value.slice (some ⟨gc, 0, none⟩) q.code.length kc) else VC j := ⟨_, rfl⟩
    obtain ⟨VE2, hVE2⟩ : ∃ V : Nat → Value, V = fun j => if j = k then (Value.slice (some ⟨ge, 0, none⟩) q.ent.length ke) else VE j := ⟨_, rfl⟩
    have hMB := hA.mb.snocG hvx hHS hltB rfl rfl
    have hMC := hA.mc.snocG hcy hHS hltC rfl rfl
    have hME := hA.me.snocG hey hHS hltE rfl rfl
    rw [← hVB2] at hMB
    rw [← hVC2] at hMC
    rw [← hVE2] at hME
    have hOB := hA.ob
    have hOP := hA.op
    clear hA hvx hcy hey
    refine W.region ?_
    refine WL.c rfl (o_mvh h6 ?_)
    refine WL.c rfl (o_mvh (by first | exact (show _ = Value.slice _ _ _ from rfl) | exact rfl) ?_)
    refine WL.ap1 (H) rfl rfl TI48 TI34 rfl rfl hOB (by decide) (by decide) rfl (one1 rfl) rfl (by rw [maxLen_eq]; omega) (by omega) hO.hs ?_
    intro vb2 w71 hOB2 ho71
    replace hMB := hMB.other hOB (by decide) ho71
    replace hMC := hMC.other hOB (by decide) ho71
    replace hME := hME.other hOB (by decide) ho71
    replace hOP := own_only hOP ho71 (own_row_off hOB hOP (by decide))
    replace hC11 := ho71.blk hC11 (own_off hOB hC11 (by decide))
    replace hO := hO.only ho71 (fun g hg => (hOB.lt g hg).1)
    replace hOB2 : w71.ownsRow H 34 1 vb2 (k + 1) ((List.range (k + 1)).map VB2) := by rw [hVB2, rng_if]; exact hOB2
    clear hOB ho71
    refine WL.c rfl (o_ash (by first | exact (show _ = Value.slice _ _ _ from rfl) | exact rfl) ?_)
    refine WL.nil ?_
    refine W.region ?_
    refine WL.c rfl (o_mvh h7 ?_)
    refine WL.c rfl (o_ldA TI26 rfl rfl (show Cells _ b11 0 (pgV q (Value.slice (some ⟨gc, 0, none⟩) q.code.length kc) (Value.slice (some ⟨ge, 0, none⟩) q.ent.length ke)) from Cells.of hC11 0 _ (by simp [pgV])) rfl ?_)
    refine WL.ap1 (H) rfl rfl TI49 TI26 (show _ = Value.agg (pgV q (Value.slice (some ⟨gc, 0, none⟩) q.code.length kc) (Value.slice (some ⟨ge, 0, none⟩) q.ent.length ke)).toArray from rfl) rfl hOP (by decide) (by decide) rfl (one_all (by first | rfl | decide)) rfl (by rw [maxLen_eq]; omega) (by omega) hO.hs ?_
    intro vp2 w75 hOP2 ho75
    replace hMB := hMB.other hOP (by decide) ho75
    replace hMC := hMC.other hOP (by decide) ho75
    replace hME := hME.other hOP (by decide) ho75
    replace hOB2 := own_only hOB2 ho75 (own_row_off hOP hOB2 (by decide))
    replace hO := hO.only ho75 (fun g hg => (hOP.lt g hg).1)
    replace hOP2 : w75.ownsRow H 26 3 vp2 (k + 1) (pgs q.enc VC2 VE2 (k + 1)) := by rw [hVC2, hVE2, pgs_if]; exact hOP2
    have hA2 : Apt w75 H (k + 1) q.enc VB2 VC2 VE2 (vb2) (vp2) (fun _ => lay q) (fun _ => q.code) (fun _ => q.ent) := ⟨hMB, hMC, hME, hOB2, hOP2⟩
    clear hMB hMC hME hOB2 hOP2 hOP ho75
    refine WL.c rfl (o_ash (by first | exact (show _ = Value.slice _ _ _ from rfl) | exact rfl) ?_)
    refine WL.nil ?_
    refine W.region ?_
    refine WL.c rfl (o_mvh h8 ?_)
    refine WL.c rfl (o_addi rfl rfl (by omega) ?_)
    refine WL.c rfl (o_ash (show _ = Value.int _ _ from rfl) ?_)
    refine WL.nil ?_
    refine ⟨⟨k + 1, VB2, VC2, VE2, vb2, vp2, by omega, h1, h5, rfl, rfl, rfl, hA2, hO⟩, ?_⟩
    show 3 - ((k : Int) + 1).toNat < _
    rw [hm8]; simp [intOf]; omega
  · try simp only [decide_eq_true_eq, decide_eq_false_iff_not, Bool.not_eq_true', Bool.not_eq_false', Bool.and_eq_true, Bool.or_eq_true, Bool.and_eq_false_iff, Bool.or_eq_false_iff] at c44
    obtain rfl : k = 3 := by omega
    obtain ⟨gB, kB, hvbe, -⟩ := own_some hA.ob (by omega)
    subst hvbe
    obtain ⟨gP, kP, hvpe, -⟩ := own_some hA.op (by omega)
    subst hvpe
    refine W.exit ?_
    refine W.seq ?_
    refine W.seq ?_
    refine W.region ?_
    refine WL.c rfl (o_ash (show _ = Value.int _ _ from rfl) ?_)
    refine WL.nil ?_
    refine W.block ?_
    refine W.loop (fun e w => ∃ k : Nat, k ≤ 3 ∧ e 1 = Value.pointer (some ⟨b1, 0, none⟩) ∧ e 5 = st (lay q) ∧ e 6 = Value.slice (some ⟨gB, 0, none⟩) 3 kB ∧ e 7 = Value.slice (some ⟨gP, 0, none⟩) 3 kP ∧ e 13 = .int .i64 (k : Int) ∧ Apt w H 3 q.enc VB VC VE (Value.slice (some ⟨gB, 0, none⟩) 3 kB) (Value.slice (some ⟨gP, 0, none⟩) 3 kP) (fun _ => lay q) (fun _ => q.code) (fun _ => q.ent) ∧ Old w0 w H q b1 cu eu) (fun e w => 3 - (intOf (e 13)).toNat) ?_ ?_
    · exact ⟨0, by omega, h1, h5, h6, h7, rfl, hA, hO⟩
    rintro e w ⟨k, hk, h1, h5, h6, h7, h13, hA, hO⟩
    have hm13 := h13
    refine W.seq ?_
    refine W.seq ?_
    refine W.region ?_
    refine WL.c rfl (o_mvh h13 ?_)
    refine WL.c rfl (o_lt rfl rfl ?_)
    refine WL.nil ?_
    refine W.cond rfl (fun c77 => ?_) (fun c77 => ?_)
    · try simp only [decide_eq_true_eq, decide_eq_false_iff_not, Bool.not_eq_true', Bool.not_eq_false', Bool.and_eq_true, Bool.or_eq_true, Bool.and_eq_false_iff, Bool.or_eq_false_iff] at c77
      have hk1 : k < 3 := by omega
      refine W.skip ?_
      refine W.seq ?_
      refine W.block ?_
      refine W.seq ?_
      obtain ⟨wd, hwd⟩ : ∃ wd, wd = World.drew w := ⟨_, rfl⟩
      have hxd : Ext w wd := hwd ▸ Only.drew w
      replace hA := hA.ext hxd
      replace hO := hO.ext hxd
      have hpc := hA.pc hk1
      have hgP : gP < wd.heap.size := (hA.op.lt gP rfl).2
      refine W.draw (Ext) [(1, fun v _ => v = (Value.pointer (some ⟨b1, 0, none⟩))), (5, fun v _ => v = (st (lay q))), (6, fun v _ => v = (Value.slice (some ⟨gB, 0, none⟩) 3 kB)), (7, fun v _ => v = (Value.slice (some ⟨gP, 0, none⟩) 3 kP)), (13, fun v _ => v = (Value.int .i64 (k : Int)))] rfl (by kernel_rfl) (Only.refl No) (fun _ _ _ h k => h.trans k) ⟨Mono.eq, Mono.eq, Mono.eq, Mono.eq, Mono.eq, trivial⟩ ⟨h1, h5, h6, h7, h13, trivial⟩ ?_
      refine WD.p rfl (fun e w hR hh => by obtain ⟨h6, -⟩ := hh; exact SG.n (o_mvh h6 ⟨rfl, Only.refl No _⟩)) ?_
      refine WD.p rfl (fun e w hR hh => by obtain ⟨h13, -⟩ := hh; exact SG.n (o_mvh h13 ⟨rfl, Only.refl No _⟩)) ?_
      refine WD.p rfl (fun e w hR hh => by obtain ⟨h81, h80, -⟩ := hh; exact SG.n (o_ixB (i := k) TI48 TI34 h80 h81 hk1 ⟨rfl, Only.refl No _⟩)) ?_
      refine WD.p rfl (fun e w hR hh => by obtain ⟨h82, -⟩ := hh; rw [← hwd] at hR; exact SG.n (o_ld TI34 rfl h82 (own_at (own_ext hA.ob hR) (rng_get VB hk1)) ⟨rfl, Only.refl No _⟩)) ?_
      refine WD.p rfl (fun e w hR hh => by obtain ⟨h83, -⟩ := hh; rw [← hwd] at hR; exact SG.n (o_cvBS TI34 TI5 TI9 h83 (Sl.own (own_ext (hA.rB hk1) hR)) ⟨rfl, Only.refl No _⟩)) ?_
      refine WD.p rfl (fun e w hR hh => by obtain ⟨h5, -⟩ := hh; exact SG.n (o_mvh h5 ⟨rfl, Only.refl No _⟩)) ?_
      refine WD.p rfl (fun e w hR hh => by obtain ⟨h85, h84, -⟩ := hh; exact SG.n (o_neT h84 h85 ⟨rfl, Only.refl No _⟩)) ?_
      refine WD.p rfl (fun e w hR hh => by obtain ⟨h86, -⟩ := hh; exact SG.n (o_mvh h86 ⟨rfl, Only.refl No _⟩)) ?_
      refine WD.p rfl (fun e w hR hh => by obtain ⟨h87, h7, -⟩ := hh; exact SG.g h87 (by simp) (o_mvh h7 ⟨rfl, Only.refl No _⟩)) ?_
      refine WD.p rfl (fun e w hR hh => by obtain ⟨h87, h13, -⟩ := hh; exact SG.g h87 (by simp) (o_mvh h13 ⟨rfl, Only.refl No _⟩)) ?_
      refine WD.p rfl (fun e w hR hh => by obtain ⟨h89, h88, h87, -⟩ := hh; exact SG.g h87 (by simp) (o_ixB (i := k) TI49 TI26 h88 h89 hk1 ⟨rfl, Only.refl No _⟩)) ?_
      refine WD.p rfl (fun e w hR hh => by obtain ⟨h90, h87, -⟩ := hh; rw [← hwd] at hR; exact SG.g h87 (by simp) (o_ldA TI26 rfl h90 (show Cells _ gP (0 + k * 3) (pgV q (VC k) (VE k)) from Cells.only (F := No) hpc hR (fun h => h)) rfl ⟨rfl, Only.refl No _⟩)) ?_
      refine WD.p rfl (fun e w hR hh => by obtain ⟨h87, h1, -⟩ := hh; rw [← hwd] at hR; have hc9 := hR.blk hO.p (fun h => h); exact SG.g h87 (by simp) (o_ldA TI26 rfl h1 (show Cells _ b1 0 (pgV q cu eu) from Cells.of hc9 0 _ (by simp [pgV])) rfl ⟨rfl, Only.refl No _⟩)) ?_
      refine WD.p rfl (fun e w hR hh => by obtain ⟨h92, h91, h87, -⟩ := hh; rw [← hwd] at hR; exact SG.g h87 (by simp) (o_call Tryd.call19 (lc h91 (lc h92 ln)) ((requal_spec q q (VC k) (VE k) cu eu w ⟨Sl.own (own_ext (hA.rC hk1) hR), Sl.own (own_ext (hA.rE hk1) hR)⟩ ⟨Sl.own (own_ext hO.c hR), Sl.own (own_ext hO.e hR)⟩ (by omega) (by omega)).mono (fun v w' h => h)))) ?_
      refine WD.p rfl (fun e w hR hh => by obtain ⟨h93, h87, -⟩ := hh; exact SG.g h87 (by simp) (o_not' h93 ⟨rfl, Only.refl No _⟩)) ?_
      refine WD.p rfl (fun e w hR hh => by obtain ⟨h94, h87, -⟩ := hh; exact SG.n (o_pickO h87 h94 ⟨rfl, Only.refl No _⟩)) ?_
      rintro e w hR ⟨h95, h94, h93, h92, h91, h90, h89, h88, h87, h86, h85, h84, h83, h82, h81, h80, h1, h5, h6, h7, h13, -⟩
      rw [← hwd] at hR
      replace hA := hA.ext hR
      replace hO := hO.ext hR
      clear hpc
      refine W.condF' h95 (by simp) ?_
      refine W.skip ?_
      refine W.region ?_
      refine WL.c rfl (o_mvh h13 ?_)
      refine WL.c rfl (o_addi rfl rfl (by omega) ?_)
      refine WL.c rfl (o_ash (show _ = Value.int _ _ from rfl) ?_)
      refine WL.nil ?_
      refine ⟨⟨k + 1, by omega, h1, h5, h6, h7, rfl, hA, hO⟩, ?_⟩
      show 3 - ((k : Int) + 1).toNat < _
      rw [hm13]; simp [intOf]; omega
    · try simp only [decide_eq_true_eq, decide_eq_false_iff_not, Bool.not_eq_true', Bool.not_eq_false', Bool.and_eq_true, Bool.or_eq_true, Bool.and_eq_false_iff, Bool.or_eq_false_iff] at c77
      refine W.exit ?_
      refine W.seq ?_
      refine W.region ?_
      refine WL.c rfl (o_ash (by first | exact (show _ = Value.slice _ _ _ from rfl) | exact rfl) ?_)
      refine WL.nil ?_
      refine W.seq ?_
      refine W.region ?_
      refine WL.c rfl (o_ash (by first | exact (show _ = Value.slice _ _ _ from rfl) | exact rfl) ?_)
      refine WL.nil ?_
      refine W.seq ?_
      refine W.region ?_
      refine WL.c rfl (o_ash (by first | exact (show _ = Value.slice _ _ _ from rfl) | exact rfl) ?_)
      refine WL.nil ?_
      refine W.seq ?_
      refine W.seq ?_
      refine W.region ?_
      refine WL.c rfl (o_ash (show _ = Value.int _ _ from rfl) ?_)
      refine WL.nil ?_
      refine W.block ?_
      refine W.loop (fun e w => ∃ k : Nat, k ≤ 3 ∧ e 1 = Value.pointer (some ⟨b1, 0, none⟩) ∧ e 5 = st (lay q) ∧ e 6 = Value.slice (some ⟨gB, 0, none⟩) 3 kB ∧ e 7 = Value.slice (some ⟨gP, 0, none⟩) 3 kP ∧ e 14 = .slice none 0 0 ∧ e 15 = .slice none 0 0 ∧ e 16 = .slice none 0 0 ∧ e 17 = .int .i64 (k : Int) ∧ Apt w H 3 q.enc VB VC VE (Value.slice (some ⟨gB, 0, none⟩) 3 kB) (Value.slice (some ⟨gP, 0, none⟩) 3 kP) (stF fB (lay q) k 0) (stF fC q.code k 0) (stF fE q.ent k 0) ∧ Old w0 w H q b1 cu eu) (fun e w => 3 - (intOf (e 17)).toNat) ?_ ?_
      · exact ⟨0, by omega, h1, h5, h6, h7, rfl, rfl, rfl, rfl, by rw [stF_zero, stF_zero, stF_zero]; exact hA, hO⟩
      rintro e w ⟨k, hk, h1, h5, h6, h7, h14, h15, h16, h17, hA, hO⟩
      have hm17 := h17
      refine W.seq ?_
      refine W.seq ?_
      refine W.region ?_
      refine WL.c rfl (o_mvh h17 ?_)
      refine WL.c rfl (o_lt rfl rfl ?_)
      refine WL.nil ?_
      refine W.cond rfl (fun c97 => ?_) (fun c97 => ?_)
      · try simp only [decide_eq_true_eq, decide_eq_false_iff_not, Bool.not_eq_true', Bool.not_eq_false', Bool.and_eq_true, Bool.or_eq_true, Bool.and_eq_false_iff, Bool.or_eq_false_iff] at c97
        have hk1 : k < 3 := by omega
        refine W.skip ?_
        refine W.seq ?_
        refine W.block ?_
        refine W.seq ?_
        refine W.seq ?_
        refine W.region ?_
        refine WL.c rfl (o_ash (show _ = Value.int _ _ from rfl) ?_)
        refine WL.nil ?_
        refine W.block ?_
        refine W.loop (fun e w => ∃ i : Nat, i ≤ (lay q).length ∧ e 1 = Value.pointer (some ⟨b1, 0, none⟩) ∧ e 5 = st (lay q) ∧ e 6 = Value.slice (some ⟨gB, 0, none⟩) 3 kB ∧ e 7 = Value.slice (some ⟨gP, 0, none⟩) 3 kP ∧ e 14 = .slice none 0 0 ∧ e 15 = .slice none 0 0 ∧ e 16 = .slice none 0 0 ∧ e 17 = .int .i64 (k : Int) ∧ e 18 = .int .i64 (i : Int) ∧ Apt w H 3 q.enc VB VC VE (Value.slice (some ⟨gB, 0, none⟩) 3 kB) (Value.slice (some ⟨gP, 0, none⟩) 3 kP) (stF fB (lay q) k i) (stF fC q.code k 0) (stF fE q.ent k 0) ∧ Old w0 w H q b1 cu eu) (fun e w => (lay q).length - (intOf (e 18)).toNat) ?_ ?_
        · exact ⟨0, Nat.zero_le _, h1, h5, h6, h7, h14, h15, h16, h17, rfl, hA, hO⟩
        rintro e w ⟨i, hi, h1, h5, h6, h7, h14, h15, h16, h17, h18, hA, hO⟩
        have hm18 := h18
        have hsl := stF_len (k := k) fB hi k
        refine W.seq ?_
        refine W.seq ?_
        refine W.region ?_
        refine WL.c rfl (o_mvh h18 ?_)
        refine WL.c rfl (o_mvh h6 ?_)
        refine WL.c rfl (o_mvh h17 ?_)
        refine WL.c rfl (o_ixB (i := k) TI48 TI34 (show _ = Value.slice (some ⟨gB, 0, none⟩) 3 kB from by first | rfl | assumption) (show _ = Value.int .i64 (k : Int) from by first | rfl | assumption) hk1 ?_)
        refine WL.c rfl (o_ld TI34 rfl rfl (own_at hA.ob (rng_get VB hk1)) ?_)
        refine WL.c rfl (o_lenR TI34 rfl (Sl.own (hA.rB hk1)) ?_)
        refine WL.c rfl (o_lt rfl rfl ?_)
        refine WL.nil ?_
        refine W.cond rfl (fun c106 => ?_) (fun c106 => ?_)
        · try simp only [decide_eq_true_eq, decide_eq_false_iff_not, Bool.not_eq_true', Bool.not_eq_false', Bool.and_eq_true, Bool.or_eq_true, Bool.and_eq_false_iff, Bool.or_eq_false_iff] at c106
          have hi1 : i < (lay q).length := by omega
          obtain ⟨gk, ck, hvk, hbk⟩ := own_some (hA.rB hk1) (by rw [stF_len fB hi k]; omega)
          refine W.skip ?_
          refine W.seq ?_
          refine W.block ?_
          refine W.region ?_
          refine WL.c rfl (o_mvh h6 ?_)
          refine WL.c rfl (o_mvh h17 ?_)
          refine WL.c rfl (o_ixB (i := k) TI48 TI34 (show _ = Value.slice (some ⟨gB, 0, none⟩) 3 kB from by first | rfl | assumption) (show _ = Value.int .i64 (k : Int) from by first | rfl | assumption) hk1 ?_)
          refine WL.c rfl (o_ld TI34 rfl rfl (own_at hA.ob (rng_get VB hk1)) ?_)
          refine WL.c rfl (o_mvh h18 ?_)
          refine WL.c rfl (o_mvh h17 ?_)
          refine WL.c rfl (o_addi rfl rfl (by omega) ?_)
          refine WL.c rfl (o_cvB8 (n := k + 1) TI3 TI5 rfl (by omega) (by omega) ?_)
          refine WL.c rfl (o_ixB (i := i) TI34 TI5 (show _ = Value.slice (some ⟨gk, 0, none⟩) (stF fB (lay q) k i k).length ck from hvk) (show _ = Value.int .i64 (i : Int) from by first | rfl | assumption) (by omega) ?_)
          refine WL.u (o_stR1 TI5 rfl (show 0 + i * 1 = i by omega) (show _ = bv (fB k i) from rfl) rfl (hA.rB hk1) hbk (by omega) ?_)
          intro w117 hr117 ho117 hs117
          have hA2 : Apt w117 H 3 q.enc VB VC VE (Value.slice (some ⟨gB, 0, none⟩) 3 kB) (Value.slice (some ⟨gP, 0, none⟩) 3 kP) (stF fB (lay q) k (i + 1)) (stF fC q.code k 0) (stF fE q.ent k 0) := hA.setB hk1 ho117 (bs := (stF fB (lay q) k i k).set i (fB k i)) (by rw [List.length_set, List.map_set]; exact hr117) (stF_step fB hi1)
          replace hO := hO.only ho117 (fun g hg => ((hA.rB hk1).lt g hg).1)
          clear hA
          have hA := hA2
          clear hA2 hr117 ho117
          refine WL.nil ?_
          refine W.region ?_
          refine WL.c rfl (o_mvh h18 ?_)
          refine WL.c rfl (o_addi rfl rfl (by omega) ?_)
          refine WL.c rfl (o_ash (show _ = Value.int _ _ from rfl) ?_)
          refine WL.nil ?_
          refine ⟨⟨i + 1, by omega, h1, h5, h6, h7, h14, h15, h16, h17, rfl, hA, hO⟩, ?_⟩
          show (lay q).length - ((i : Int) + 1).toNat < _
          rw [hm18]; simp [intOf]; omega
        · try simp only [decide_eq_true_eq, decide_eq_false_iff_not, Bool.not_eq_true', Bool.not_eq_false', Bool.and_eq_true, Bool.or_eq_true, Bool.and_eq_false_iff, Bool.or_eq_false_iff] at c106
          obtain rfl : i = (lay q).length := by omega
          rw [stF_next fB (lay q) k] at hA
          refine W.exit ?_
          refine W.seq ?_
          refine W.seq ?_
          refine W.region ?_
          refine WL.c rfl (o_ash (show _ = Value.int _ _ from rfl) ?_)
          refine WL.nil ?_
          refine W.block ?_
          refine W.loop (fun e w => ∃ i : Nat, i ≤ q.code.length ∧ e 1 = Value.pointer (some ⟨b1, 0, none⟩) ∧ e 5 = st (lay q) ∧ e 6 = Value.slice (some ⟨gB, 0, none⟩) 3 kB ∧ e 7 = Value.slice (some ⟨gP, 0, none⟩) 3 kP ∧ e 14 = .slice none 0 0 ∧ e 15 = .slice none 0 0 ∧ e 16 = .slice none 0 0 ∧ e 17 = .int .i64 (k : Int) ∧ e 19 = .int .i64 (i : Int) ∧ Apt w H 3 q.enc VB VC VE (Value.slice (some ⟨gB, 0, none⟩) 3 kB) (Value.slice (some ⟨gP, 0, none⟩) 3 kP) (stF fB (lay q) (k + 1) 0) (stF fC q.code k i) (stF fE q.ent k 0) ∧ Old w0 w H q b1 cu eu) (fun e w => q.code.length - (intOf (e 19)).toNat) ?_ ?_
          · exact ⟨0, Nat.zero_le _, h1, h5, h6, h7, h14, h15, h16, h17, rfl, hA, hO⟩
          rintro e w ⟨i, hi, h1, h5, h6, h7, h14, h15, h16, h17, h19, hA, hO⟩
          have hm19 := h19
          have hsl := stF_len (k := k) fC hi k
          refine W.seq ?_
          refine W.seq ?_
          refine W.region ?_
          refine WL.c rfl (o_mvh h19 ?_)
          refine WL.c rfl (o_mvh h7 ?_)
          refine WL.c rfl (o_mvh h17 ?_)
          refine WL.c rfl (o_ixB (i := k) TI49 TI26 (show _ = Value.slice (some ⟨gP, 0, none⟩) 3 kP from by first | rfl | assumption) (show _ = Value.int .i64 (k : Int) from by first | rfl | assumption) hk1 ?_)
          refine WL.c rfl (o_fa 1 TI26 rfl TI23 rfl rfl ?_)
          refine WL.c rfl (o_ld TI23 rfl rfl (hA.pc hk1 1 _ rfl) ?_)
          refine WL.c rfl (o_lenR TI23 rfl (Sl.own (hA.rC hk1)) ?_)
          refine WL.c rfl (o_lt rfl rfl ?_)
          refine WL.nil ?_
          refine W.cond rfl (fun c125 => ?_) (fun c125 => ?_)
          · try simp only [decide_eq_true_eq, decide_eq_false_iff_not, Bool.not_eq_true', Bool.not_eq_false', Bool.and_eq_true, Bool.or_eq_true, Bool.and_eq_false_iff, Bool.or_eq_false_iff] at c125
            have hi1 : i < q.code.length := by omega
            obtain ⟨gk, ck, hvk, hbk⟩ := own_some (hA.rC hk1) (by rw [stF_len fC hi k]; omega)
            refine W.skip ?_
            refine W.seq ?_
            refine W.block ?_
            refine W.region ?_
            refine WL.c rfl (o_mvh h7 ?_)
            refine WL.c rfl (o_mvh h17 ?_)
            refine WL.c rfl (o_ixB (i := k) TI49 TI26 (show _ = Value.slice (some ⟨gP, 0, none⟩) 3 kP from by first | rfl | assumption) (show _ = Value.int .i64 (k : Int) from by first | rfl | assumption) hk1 ?_)
            refine WL.c rfl (o_fa 1 TI26 rfl TI23 rfl rfl ?_)
            refine WL.c rfl (o_ld TI23 rfl rfl (hA.pc hk1 1 _ rfl) ?_)
            refine WL.c rfl (o_mvh h19 ?_)
            refine WL.c rfl (o_mvh h17 ?_)
            refine WL.c rfl (o_negK (show _ = Value.int .i64 (k : Int) from by first | rfl | assumption) (by omega) ?_)
            refine WL.c rfl (o_subi rfl rfl (by omega) ?_)
            refine WL.c rfl (o_mvh h19 ?_)
            refine WL.c rfl (o_bldC (cs := [_, _, (.int .i64 0), (.int .i64 0)]) TI28 (Sizes.cons TI3 (Sizes.cons TI3 (Sizes.cons TI3 (Sizes.cons TI3 Sizes.nil)))) rfl (lcp (show _ = Value.int _ _ from rfl) (lcp (show _ = Value.int _ _ from rfl) lnp)) rfl rfl ?_)
            refine WL.c rfl (o_ixB (i := i) TI23 TI28 (show _ = Value.slice (some ⟨gk, 0, none⟩) (stF fC q.code k i k).length ck from hvk) (show _ = Value.int .i64 (i : Int) from by first | rfl | assumption) (by omega) ?_)
            refine WL.u (o_stRA TI28 (show _ = Value.pointer (some ⟨gk, 0 + i * 4, none⟩) from rfl) (show 0 + i * 4 = i * 4 by omega) (show _ = Value.agg (insV (fC k i)).toArray from rfl) rfl rfl (hA.rC hk1) hbk (by omega) ?_)
            intro w139 hr139 ho139 hs139
            have hA2 : Apt w139 H 3 q.enc VB VC VE (Value.slice (some ⟨gB, 0, none⟩) 3 kB) (Value.slice (some ⟨gP, 0, none⟩) 3 kP) (stF fB (lay q) (k + 1) 0) (stF fC q.code k (i + 1)) (stF fE q.ent k 0) := hA.setC hk1 ho139 (cs := (stF fC q.code k i k).set i (fC k i)) (by rw [List.length_set, ← inss_setI _ i _ (by omega)]; exact hr139) (stF_step fC hi1)
            replace hO := hO.only ho139 (fun g hg => ((hA.rC hk1).lt g hg).1)
            clear hA
            have hA := hA2
            clear hA2 hr139 ho139
            refine WL.nil ?_
            refine W.region ?_
            refine WL.c rfl (o_mvh h19 ?_)
            refine WL.c rfl (o_addi rfl rfl (by omega) ?_)
            refine WL.c rfl (o_ash (show _ = Value.int _ _ from rfl) ?_)
            refine WL.nil ?_
            refine ⟨⟨i + 1, by omega, h1, h5, h6, h7, h14, h15, h16, h17, rfl, hA, hO⟩, ?_⟩
            show q.code.length - ((i : Int) + 1).toNat < _
            rw [hm19]; simp [intOf]; omega
          · try simp only [decide_eq_true_eq, decide_eq_false_iff_not, Bool.not_eq_true', Bool.not_eq_false', Bool.and_eq_true, Bool.or_eq_true, Bool.and_eq_false_iff, Bool.or_eq_false_iff] at c125
            obtain rfl : i = q.code.length := by omega
            rw [stF_next fC q.code k] at hA
            refine W.exit ?_
            refine W.seq ?_
            refine W.region ?_
            refine WL.c rfl (o_ash (show _ = Value.int _ _ from rfl) ?_)
            refine WL.nil ?_
            refine W.block ?_
            refine W.loop (fun e w => ∃ i : Nat, i ≤ q.ent.length ∧ e 1 = Value.pointer (some ⟨b1, 0, none⟩) ∧ e 5 = st (lay q) ∧ e 6 = Value.slice (some ⟨gB, 0, none⟩) 3 kB ∧ e 7 = Value.slice (some ⟨gP, 0, none⟩) 3 kP ∧ e 14 = .slice none 0 0 ∧ e 15 = .slice none 0 0 ∧ e 16 = .slice none 0 0 ∧ e 17 = .int .i64 (k : Int) ∧ e 20 = .int .i64 (i : Int) ∧ Apt w H 3 q.enc VB VC VE (Value.slice (some ⟨gB, 0, none⟩) 3 kB) (Value.slice (some ⟨gP, 0, none⟩) 3 kP) (stF fB (lay q) (k + 1) 0) (stF fC q.code (k + 1) 0) (stF fE q.ent k i) ∧ Old w0 w H q b1 cu eu) (fun e w => q.ent.length - (intOf (e 20)).toNat) ?_ ?_
            · exact ⟨0, Nat.zero_le _, h1, h5, h6, h7, h14, h15, h16, h17, rfl, hA, hO⟩
            rintro e w ⟨i, hi, h1, h5, h6, h7, h14, h15, h16, h17, h20, hA, hO⟩
            have hm20 := h20
            have hsl := stF_len (k := k) fE hi k
            refine W.seq ?_
            refine W.seq ?_
            refine W.region ?_
            refine WL.c rfl (o_mvh h20 ?_)
            refine WL.c rfl (o_mvh h7 ?_)
            refine WL.c rfl (o_mvh h17 ?_)
            refine WL.c rfl (o_ixB (i := k) TI49 TI26 (show _ = Value.slice (some ⟨gP, 0, none⟩) 3 kP from by first | rfl | assumption) (show _ = Value.int .i64 (k : Int) from by first | rfl | assumption) hk1 ?_)
            refine WL.c rfl (o_fa 2 TI26 rfl TI24 rfl rfl ?_)
            refine WL.c rfl (o_ld TI24 rfl rfl (hA.pc hk1 2 _ rfl) ?_)
            refine WL.c rfl (o_lenR TI24 rfl (Sl.own (hA.rE hk1)) ?_)
            refine WL.c rfl (o_lt rfl rfl ?_)
            refine WL.nil ?_
            refine W.cond rfl (fun c147 => ?_) (fun c147 => ?_)
            · try simp only [decide_eq_true_eq, decide_eq_false_iff_not, Bool.not_eq_true', Bool.not_eq_false', Bool.and_eq_true, Bool.or_eq_true, Bool.and_eq_false_iff, Bool.or_eq_false_iff] at c147
              have hi1 : i < q.ent.length := by omega
              obtain ⟨gk, ck, hvk, hbk⟩ := own_some (hA.rE hk1) (by rw [stF_len fE hi k]; omega)
              refine W.skip ?_
              refine W.seq ?_
              refine W.block ?_
              refine W.region ?_
              refine WL.c rfl (o_mvh h7 ?_)
              refine WL.c rfl (o_mvh h17 ?_)
              refine WL.c rfl (o_ixB (i := k) TI49 TI26 (show _ = Value.slice (some ⟨gP, 0, none⟩) 3 kP from by first | rfl | assumption) (show _ = Value.int .i64 (k : Int) from by first | rfl | assumption) hk1 ?_)
              refine WL.c rfl (o_fa 2 TI26 rfl TI24 rfl rfl ?_)
              refine WL.c rfl (o_ld TI24 rfl rfl (hA.pc hk1 2 _ rfl) ?_)
              refine WL.c rfl (o_mvh h20 ?_)
              refine WL.c rfl (o_mvh h17 ?_)
              refine WL.c rfl (o_negK (show _ = Value.int .i64 (k : Int) from by first | rfl | assumption) (by omega) ?_)
              refine WL.c rfl (o_subi rfl rfl (by omega) ?_)
              refine WL.c rfl (o_ixB (i := i) TI24 TI3 (show _ = Value.slice (some ⟨gk, 0, none⟩) (stF fE q.ent k i k).length ck from hvk) (show _ = Value.int .i64 (i : Int) from by first | rfl | assumption) (by omega) ?_)
              refine WL.u (o_stR1 TI3 rfl (show 0 + i * 1 = i by omega) (show _ = Value.int .i64 (fE k i) from rfl) rfl (hA.rE hk1) hbk (by omega) ?_)
              intro w159 hr159 ho159 hs159
              have hA2 : Apt w159 H 3 q.enc VB VC VE (Value.slice (some ⟨gB, 0, none⟩) 3 kB) (Value.slice (some ⟨gP, 0, none⟩) 3 kP) (stF fB (lay q) (k + 1) 0) (stF fC q.code (k + 1) 0) (stF fE q.ent k (i + 1)) := hA.setE hk1 ho159 (es := (stF fE q.ent k i k).set i (fE k i)) (by rw [List.length_set, zs, List.map_set]; exact hr159) (stF_step fE hi1)
              replace hO := hO.only ho159 (fun g hg => ((hA.rE hk1).lt g hg).1)
              clear hA
              have hA := hA2
              clear hA2 hr159 ho159
              refine WL.nil ?_
              refine W.region ?_
              refine WL.c rfl (o_mvh h20 ?_)
              refine WL.c rfl (o_addi rfl rfl (by omega) ?_)
              refine WL.c rfl (o_ash (show _ = Value.int _ _ from rfl) ?_)
              refine WL.nil ?_
              refine ⟨⟨i + 1, by omega, h1, h5, h6, h7, h14, h15, h16, h17, rfl, hA, hO⟩, ?_⟩
              show q.ent.length - ((i : Int) + 1).toNat < _
              rw [hm20]; simp [intOf]; omega
            · try simp only [decide_eq_true_eq, decide_eq_false_iff_not, Bool.not_eq_true', Bool.not_eq_false', Bool.and_eq_true, Bool.or_eq_true, Bool.and_eq_false_iff, Bool.or_eq_false_iff] at c147
              obtain rfl : i = q.ent.length := by omega
              rw [stF_next fE q.ent k] at hA
              refine W.exit ?_
              refine W.region ?_
              refine WL.c rfl (o_mvh h17 ?_)
              refine WL.c rfl (o_addi rfl rfl (by omega) ?_)
              refine WL.c rfl (o_ash (show _ = Value.int _ _ from rfl) ?_)
              refine WL.nil ?_
              refine ⟨⟨k + 1, by omega, h1, h5, h6, h7, h14, h15, h16, rfl, hA, hO⟩, ?_⟩
              show 3 - ((k : Int) + 1).toNat < _
              rw [hm17]; simp [intOf]; omega
      · try simp only [decide_eq_true_eq, decide_eq_false_iff_not, Bool.not_eq_true', Bool.not_eq_false', Bool.and_eq_true, Bool.or_eq_true, Bool.and_eq_false_iff, Bool.or_eq_false_iff] at c97
        obtain rfl : k = 3 := by omega
        refine W.exit ?_
        refine W.seq ?_
        refine W.seq ?_
        obtain ⟨Hm, hHm⟩ : ∃ H, w.heap.size = H := ⟨_, rfl⟩
        have hL : Lng w H Hm 0 0 0 0 0 0 (lay q).length q.code.length q.ent.length q.enc VB VC VE (Value.slice (some ⟨gB, 0, none⟩) 3 kB) (Value.slice (some ⟨gP, 0, none⟩) 3 kP) VB VC VE (.slice none 0 0) (.slice none 0 0) (.slice none 0 0) := Lng.of hA (fun j hj => stF_full fB (lay q) hj) (fun j hj => stF_full fC q.code hj) (fun j hj => stF_full fE q.ent hj) hHm
        have hHm0 : H ≤ Hm := by rw [← hHm]; exact hO.hs
        have hMs : Hm ≤ w.heap.size := by omega
        clear hA hHm
        refine W.region ?_
        refine WL.c rfl (o_ash (show _ = Value.int _ _ from rfl) ?_)
        refine WL.nil ?_
        refine W.block ?_
        refine W.loop (fun e w => ∃ (k : Nat) (VB1 VC1 VE1 : Nat → Value) (vl vi vn : Value), k ≤ 3 ∧ e 1 = Value.pointer (some ⟨b1, 0, none⟩) ∧ e 5 = st (lay q) ∧ e 6 = Value.slice (some ⟨gB, 0, none⟩) 3 kB ∧ e 7 = Value.slice (some ⟨gP, 0, none⟩) 3 kP ∧ e 14 = vi ∧ e 15 = vn ∧ e 16 = vl ∧ e 21 = .int .i64 (k : Int) ∧ Lng w H Hm k k k k k k (lay q).length q.code.length q.ent.length q.enc VB VC VE (Value.slice (some ⟨gB, 0, none⟩) 3 kB) (Value.slice (some ⟨gP, 0, none⟩) 3 kP) VB1 VC1 VE1 (vl) (vi) (vn) ∧ Hm ≤ w.heap.size ∧ Old w0 w H q b1 cu eu) (fun e w => 3 - (intOf (e 21)).toNat) ?_ ?_
        · exact ⟨0, VB, VC, VE, _, _, _, by omega, h1, h5, h6, h7, h14, h15, h16, rfl, hL, hMs, hO⟩
        rintro e w ⟨k, VB1, VC1, VE1, vl, vi, vn, hk, h1, h5, h6, h7, h14, h15, h16, h21, hL, hMs, hO⟩
        have hm21 := h21
        refine W.seq ?_
        refine W.seq ?_
        refine W.region ?_
        refine WL.c rfl (o_mvh h21 ?_)
        refine WL.c rfl (o_lt rfl rfl ?_)
        refine WL.nil ?_
        refine W.cond rfl (fun c161 => ?_) (fun c161 => ?_)
        · try simp only [decide_eq_true_eq, decide_eq_false_iff_not, Bool.not_eq_true', Bool.not_eq_false', Bool.and_eq_true, Bool.or_eq_true, Bool.and_eq_false_iff, Bool.or_eq_false_iff] at c161
          have hk1 : k < 3 := by omega
          refine W.skip ?_
          refine W.seq ?_
          refine W.block ?_
          refine W.seq ?_
          refine W.region ?_
          refine WL.c rfl (o_mvh h16 ?_)
          refine WL.c rfl (o_mvh h6 ?_)
          refine WL.c rfl (o_mvh h21 ?_)
          refine WL.c rfl (o_ixB (i := k) TI48 TI34 (show _ = Value.slice (some ⟨gB, 0, none⟩) 3 kB from by first | rfl | assumption) (show _ = Value.int .i64 (k : Int) from by first | rfl | assumption) hk1 ?_)
          refine WL.c rfl (o_ld TI34 rfl rfl (own_at hL.ob (rng_get VB hk1)) ?_)
          refine WL.c rfl (o_mvh h21 ?_)
          refine WL.c rfl (o_addi rfl rfl (by omega) ?_)
          refine WL.c rfl (o_cvB8 (n := k + 1) TI3 TI5 rfl (by omega) (by omega) ?_)
          refine WL.apO (H) rfl rfl TI34 TI5 (show _ = bv (fB k (lay q).length) from rfl) rfl (hL.gB.cur hk1) (by decide) (by decide) rfl (one1 rfl) rfl (by rw [maxLen_eq]; omega) (by omega) hO.hs ?_
          intro v173 w173 hr173 ho173 hb173 hold173
          have hLg := hL.growB hk1 (by rw [XB_succ]; exact hr173) ho173 hb173 (Nat.le_succ _) hold173
          replace hO := hO.only ho173 (fun g hg => ((hL.gB.cur hk1).lt g hg).1)
          replace hMs := Nat.le_trans hMs ho173.size
          obtain ⟨VB2, hVB2⟩ : ∃ V : Nat → Value, V = fun j => if j = k then v173 else VB1 j := ⟨_, rfl⟩
          rw [← hVB2] at hLg
          have eB2 : VB2 k = v173 := by rw [hVB2]; simp
          clear hVB2
          obtain ⟨gv, kv, hvv, -⟩ := own_some hr173 (by omega)
          subst hvv
          clear hL hr173 ho173 hb173 hold173
          have hL := hLg
          clear hLg
          refine WL.ap1 (Hm) rfl rfl TI48 TI34 rfl rfl hL.ol (by decide) (by decide) rfl (one1 rfl) rfl (by rw [maxLen_eq]; omega) (by omega) hMs ?_
          intro vl2 w175 hol2 ho175
          have hLp := hL.putB ho175 (by rw [eB2]; exact hol2)
          replace hO := hO.only ho175 (fun g hg => by have := (hL.ol.lt g hg).1; omega)
          replace hMs := Nat.le_trans hMs ho175.size
          clear hL hol2 ho175 eB2
          have hL := hLp
          clear hLp
          refine WL.c rfl (o_ash (by first | exact (show _ = Value.slice _ _ _ from rfl) | exact rfl) ?_)
          refine WL.nil ?_
          refine W.seq ?_
          obtain ⟨wd, hwd⟩ : ∃ wd, wd = World.drew w175 := ⟨_, rfl⟩
          have hxd : Ext w175 wd := hwd ▸ Only.drew w175
          replace hL := hL.ext hxd
          replace hO := hO.ext hxd
          replace hMs := Nat.le_trans hMs hxd.size
          have hold0 := hL.gC.cur hk1
          have hpc := hL.pc hk1
          have hnP := own_row_off hold0 hL.op (by decide) gP rfl
          have hVl := fun (j : Nat) (hj : (VC k).ownBlock = some j) => (hold0.lt j hj).2
          obtain ⟨Hm1, hHm1⟩ : ∃ x, x = wd.heap.size := ⟨_, rfl⟩
          rw [← hHm1] at hVl
          refine W.drawT 19 (Keeps (VC k) (fun w => w.ownsRow H 28 4 (VC k) q.code.length (XC k q.code.length)) (fun w u => w.ownsRow H 28 4 u (q.code.length + 1) (XC k (q.code.length + 1)))) [(1, fun v _ => v = (Value.pointer (some ⟨b1, 0, none⟩))), (5, fun v _ => v = (st (lay q))), (6, fun v _ => v = (Value.slice (some ⟨gB, 0, none⟩) 3 kB)), (7, fun v _ => v = (Value.slice (some ⟨gP, 0, none⟩) 3 kP)), (14, fun v _ => v = (vi)), (15, fun v _ => v = (vn)), (16, fun v _ => v = (vl2)), (21, fun v _ => v = (Value.int .i64 (k : Int)))] rfl (by kernel_rfl) Keeps.refl (fun _ _ _ h k => h.trans k) ⟨Mono.eq, Mono.eq, Mono.eq, Mono.eq, Mono.eq, Mono.eq, Mono.eq, Mono.eq, trivial⟩ ⟨h1, h5, h6, h7, h14, h15, rfl, h21, trivial⟩ ?_
          refine WD.p rfl (fun e w hR hh => by obtain ⟨h14, -⟩ := hh; exact SG.n (o_mvh h14 ⟨rfl, Keeps.refl _⟩)) ?_
          refine WD.p rfl (fun e w hR hh => by obtain ⟨h7, -⟩ := hh; exact SG.n (o_mvh h7 ⟨rfl, Keeps.refl _⟩)) ?_
          refine WD.p rfl (fun e w hR hh => by obtain ⟨h21, -⟩ := hh; exact SG.n (o_mvh h21 ⟨rfl, Keeps.refl _⟩)) ?_
          refine WD.p rfl (fun e w hR hh => by obtain ⟨h178, h177, -⟩ := hh; exact SG.n (o_ixB (i := k) TI49 TI26 h177 h178 hk1 ⟨rfl, Keeps.refl _⟩)) ?_
          refine WD.p rfl (fun e w hR hh => by obtain ⟨h179, -⟩ := hh; exact SG.n (o_fa 1 TI26 rfl TI23 rfl h179 ⟨rfl, Keeps.refl _⟩)) ?_
          refine WD.p rfl (fun e w hR hh => by obtain ⟨h180, -⟩ := hh; rw [← hwd] at hR; have hp9 := Cells.only hpc hR.only hnP; exact SG.n (o_ld TI23 rfl h180 (show _ = some (VC k) from hp9 1 _ rfl) ⟨rfl, Keeps.refl _⟩)) ?_
          refine WD.p rfl (fun e w hR hh => by obtain ⟨h21, -⟩ := hh; exact SG.n (o_mvh h21 ⟨rfl, Keeps.refl _⟩)) ?_
          refine WD.p rfl (fun e w hR hh => by obtain ⟨h182, -⟩ := hh; exact SG.n (o_negK (show _ = Value.int .i64 (k : Int) from h182) (by omega) ⟨rfl, Keeps.refl _⟩)) ?_
          refine WD.p rfl (fun e w hR hh => by obtain ⟨h183, -⟩ := hh; exact SG.n (o_subi h183 rfl (by omega) ⟨rfl, Keeps.refl _⟩)) ?_
          refine WD.p rfl (fun e w hR hh => by obtain ⟨h7, -⟩ := hh; exact SG.n (o_mvh h7 ⟨rfl, Keeps.refl _⟩)) ?_
          refine WD.p rfl (fun e w hR hh => by obtain ⟨h21, -⟩ := hh; exact SG.n (o_mvh h21 ⟨rfl, Keeps.refl _⟩)) ?_
          refine WD.p rfl (fun e w hR hh => by obtain ⟨h186, h185, -⟩ := hh; exact SG.n (o_ixB (i := k) TI49 TI26 h185 h186 hk1 ⟨rfl, Keeps.refl _⟩)) ?_
          refine WD.p rfl (fun e w hR hh => by obtain ⟨h187, -⟩ := hh; exact SG.n (o_fa 1 TI26 rfl TI23 rfl h187 ⟨rfl, Keeps.refl _⟩)) ?_
          refine WD.p rfl (fun e w hR hh => by obtain ⟨h188, -⟩ := hh; rw [← hwd] at hR; have hp9 := Cells.only hpc hR.only hnP; exact SG.n (o_ld TI23 rfl h188 (show _ = some (VC k) from hp9 1 _ rfl) ⟨rfl, Keeps.refl _⟩)) ?_
          refine WD.p rfl (fun e w hR hh => by obtain ⟨h189, -⟩ := hh; rw [← hwd] at hR; exact SG.n (o_lenR TI23 h189 (Sl.own (hR.old hold0)) ⟨rfl, Keeps.refl _⟩)) ?_
          refine WD.p rfl (fun e w hR hh => by obtain ⟨h190, h184, -⟩ := hh; exact SG.n (o_bldC (cs := [_, _, (.int .i64 0), (.int .i64 0)]) TI28 (Sizes.cons TI3 (Sizes.cons TI3 (Sizes.cons TI3 (Sizes.cons TI3 Sizes.nil)))) rfl (lcp h184 (lcp h190 lnp)) rfl rfl ⟨rfl, Keeps.refl _⟩)) ?_
          refine WD.q (fun u w => ∃ b, Hm1 ≤ b ∧ u = .slice (some ⟨b, 0, none⟩) 1 1 ∧ Sl w 4 u 1 (insV (fC k q.code.length))) (fun _ _ _ hR ⟨b, hb, hv, hS⟩ => ⟨b, hb, hv, hS.only hR.only (fun j hj he => by have := hVl j he; rw [hv] at hj; simp [Value.ownBlock] at hj; omega)⟩) rfl (fun e w hR hh => by obtain ⟨h191, -⟩ := hh; rw [← hwd] at hR; have hH1 : Hm1 ≤ w.heap.size := (by rw [hHm1]; exact hR.only.size); exact SG.n (o_bs1 TI23 TI28 (show _ = Value.agg (insV (fC k q.code.length)).toArray from h191) (by decide) (by decide) rfl ⟨⟨_, hH1, rfl, Sl.one rfl⟩, Keeps.ext (Only.alloc _ _) (fun h => own_ext h (Only.alloc _ _)) (fun _ h => own_ext h (Only.alloc _ _))⟩)) ?_
          refine WD.q (fun u w => w.ownsRow H 28 4 u (q.code.length + 1) (XC k (q.code.length + 1)) ∧ (u.ownBlock = (VC k).ownBlock ∨ ∃ g, u.ownBlock = some g ∧ Hm1 ≤ g)) (fun _ _ _ hR ⟨h1, h2⟩ => ⟨hR.good _ h1, h2⟩) rfl (fun e w hR hh => by obtain ⟨h192, h181, -⟩ := hh; rw [← hwd] at hR; have hH1 : Hm1 ≤ w.heap.size := (by rw [hHm1]; exact hR.only.size); obtain ⟨b192, hb192, hv192, hS192⟩ := h192; exact SG.n (o_apO (H) TI23 TI28 h181 rfl (hR.old hold0) hS192 rfl (by decide) (one_all (by first | rfl | decide)) (by rw [maxLen_eq]; omega) (by omega) (by have := hO.hs; omega) (fun v1 w1 hr1 ho1 hb1 hk1 => by have hr2 : w1.ownsRow H 28 4 v1 (q.code.length + 1) (XC k (q.code.length + 1)) := (by rw [XC_succ]; exact hr1); exact ⟨⟨hr2, hb1.elim Or.inl (fun h => Or.inr ⟨_, h, hH1⟩)⟩, ⟨ho1, fun _ => hk1.1, fun u hu => own_keep (hR.old hold0) hk1.1 hr2 hk1.2 ho1 hu⟩⟩))) ?_
          refine WD.q (fun u w => ∃ x, w.ownsRow H 28 4 x (q.code.length + 1) (XC k (q.code.length + 1)) ∧ (x.ownBlock = (VC k).ownBlock ∨ ∃ g, x.ownBlock = some g ∧ Hm1 ≤ g) ∧ Sl w 1 u 1 x.cells.toList ∧ ∃ b, Hm1 ≤ b ∧ u = .slice (some ⟨b, 0, none⟩) 1 1) (fun _ _ _ hR ⟨x, h1, h2, hS, b, hb, hv⟩ => ⟨x, hR.good _ h1, h2, hS.only hR.only (fun j hj he => by have := hVl j he; rw [hv] at hj; simp [Value.ownBlock] at hj; omega), b, hb, hv⟩) rfl (fun e w hR hh => by obtain ⟨h193, -⟩ := hh; rw [← hwd] at hR; have hH1 : Hm1 ≤ w.heap.size := (by rw [hHm1]; exact hR.only.size); exact SG.n (o_bs1 (v := e 193) TI50 TI23 rfl (by decide) (by decide) (by rw [own_cells h193.1]; rfl) ⟨⟨_, own_ext h193.1 (Only.alloc _ _), h193.2, Sl.one (by rw [own_cells h193.1]; rfl), _, hH1, rfl⟩, Keeps.ext (Only.alloc _ _) (fun h => own_ext h (Only.alloc _ _)) (fun _ h => own_ext h (Only.alloc _ _))⟩)) ?_
          rintro e w hR ⟨h194, h193, h192, h191, h190, h189, h188, h187, h186, h185, h184, h183, h182, h181, h180, h179, h178, h177, h176, h1, h5, h6, h7, h14, h15, h16, h21, -⟩
          rw [← hwd] at hR
          obtain ⟨x, hGx, hbx, hSx, bx, hbx1, hvx⟩ := h194
          rw [own_cells hGx] at hSx
          have hLg := hbx.elim (fun hb => hL.growC hk1 hGx hR.only (g := Hm1) (.inl hb) (by omega) (hR.old hold0)) (fun ⟨g, hg, hgl⟩ => hL.growC hk1 hGx hR.only (.inr hg) (by omega) (hR.old hold0))
          obtain ⟨VC2, hVC2⟩ : ∃ V : Nat → Value, V = fun j => if j = k then x else VC1 j := ⟨_, rfl⟩
          rw [← hVC2] at hLg
          have eC2 : VC2 k = x := by rw [hVC2]; simp
          clear hVC2
          replace hO := hO.only hR.only (fun g hg => (hold0.lt g hg).1)
          replace hMs := Nat.le_trans hMs hR.only.size
          have hxone := own_one hGx
          clear hL hpc
          have hL := hLg
          clear hLg
          refine WL.c rfl (o_apO (Hm) TI50 TI23 h176 rfl hL.oi hSx rfl (by decide) (by intro a ha; simp at ha; rw [ha]; exact hxone) (by rw [maxLen_eq]; omega) (by omega) hMs ?_)
          intro vi2 w195 hoi2 ho195 _hb _hk
          have hLp := hL.putC ho195 (by rw [eC2]; exact hoi2)
          replace hO := hO.only ho195 (fun g hg => by have := (hL.oi.lt g hg).1; omega)
          replace hMs := Nat.le_trans hMs ho195.size
          clear hL hoi2 ho195 eC2 _hb _hk hold0 hnP hVl hSx hGx
          have hL := hLp
          clear hLp
          refine WL.c rfl (o_ash (by first | exact (show _ = Value.slice _ _ _ from rfl) | exact rfl) ?_)
          refine WL.nil ?_
          refine W.region ?_
          refine WL.c rfl (o_mvh h15 ?_)
          refine WL.c rfl (o_mvh h7 ?_)
          refine WL.c rfl (o_mvh h21 ?_)
          refine WL.c rfl (o_ixB (i := k) TI49 TI26 (show _ = Value.slice (some ⟨gP, 0, none⟩) 3 kP from by first | rfl | assumption) (show _ = Value.int .i64 (k : Int) from by first | rfl | assumption) hk1 ?_)
          refine WL.c rfl (o_fa 2 TI26 rfl TI24 rfl rfl ?_)
          refine WL.c rfl (o_ld TI24 rfl rfl (hL.pc hk1 2 _ rfl) ?_)
          refine WL.c rfl (o_mvh h21 ?_)
          refine WL.c rfl (o_negK (show _ = Value.int .i64 (k : Int) from by first | rfl | assumption) (by omega) ?_)
          refine WL.c rfl (o_subi rfl rfl (by omega) ?_)
          refine WL.apO (H) rfl rfl TI24 TI3 (show _ = Value.int .i64 (fE k q.ent.length) from rfl) rfl (hL.gE.cur hk1) (by decide) (by decide) rfl (one1 rfl) rfl (by rw [maxLen_eq]; omega) (by omega) hO.hs ?_
          intro v206 w206 hr206 ho206 hb206 hold206
          have hLg := hL.growE hk1 (by rw [XE_succ]; exact hr206) ho206 hb206 (Nat.le_succ _) hold206
          replace hO := hO.only ho206 (fun g hg => ((hL.gE.cur hk1).lt g hg).1)
          replace hMs := Nat.le_trans hMs ho206.size
          obtain ⟨VE2, hVE2⟩ : ∃ V : Nat → Value, V = fun j => if j = k then v206 else VE1 j := ⟨_, rfl⟩
          rw [← hVE2] at hLg
          have eE2 : VE2 k = v206 := by rw [hVE2]; simp
          clear hVE2
          obtain ⟨gv, kv, hvv, -⟩ := own_some hr206 (by omega)
          subst hvv
          clear hL hr206 ho206 hb206 hold206
          have hL := hLg
          clear hLg
          refine WL.ap1 (Hm) rfl rfl TI51 TI24 rfl rfl hL.on (by decide) (by decide) rfl (one1 rfl) rfl (by rw [maxLen_eq]; omega) (by omega) hMs ?_
          intro vn2 w208 hon2 ho208
          have hLp := hL.putE ho208 (by rw [eE2]; exact hon2)
          replace hO := hO.only ho208 (fun g hg => by have := (hL.on.lt g hg).1; omega)
          replace hMs := Nat.le_trans hMs ho208.size
          clear hL hon2 ho208 eE2
          have hL := hLp
          clear hLp
          refine WL.c rfl (o_ash (by first | exact (show _ = Value.slice _ _ _ from rfl) | exact rfl) ?_)
          refine WL.nil ?_
          refine W.region ?_
          refine WL.c rfl (o_mvh h21 ?_)
          refine WL.c rfl (o_addi rfl rfl (by omega) ?_)
          refine WL.c rfl (o_ash (show _ = Value.int _ _ from rfl) ?_)
          refine WL.nil ?_
          refine ⟨⟨k + 1, VB2, VC2, VE2, vl2, vi2, vn2, by omega, h1, h5, h6, h7, rfl, rfl, h16, rfl, hL, hMs, hO⟩, ?_⟩
          show 3 - ((k : Int) + 1).toNat < _
          rw [hm21]; simp [intOf]; omega
        · try simp only [decide_eq_true_eq, decide_eq_false_iff_not, Bool.not_eq_true', Bool.not_eq_false', Bool.and_eq_true, Bool.or_eq_true, Bool.and_eq_false_iff, Bool.or_eq_false_iff] at c161
          obtain rfl : k = 3 := by omega
          obtain ⟨gL, kL, hve1, -⟩ := own_some hL.ol (by omega)
          subst hve1
          obtain ⟨gI, kI, hve2, -⟩ := own_some hL.oi (by omega)
          subst hve2
          obtain ⟨gN, kN, hve3, -⟩ := own_some hL.on (by omega)
          subst hve3
          refine W.exit ?_
          refine W.seq ?_
          refine W.seq ?_
          refine W.region ?_
          refine WL.c rfl (o_ash (show _ = Value.int _ _ from rfl) ?_)
          refine WL.nil ?_
          refine W.block ?_
          refine W.loop (fun e w => ∃ k : Nat, k ≤ 3 ∧ e 1 = Value.pointer (some ⟨b1, 0, none⟩) ∧ e 5 = st (lay q) ∧ e 6 = Value.slice (some ⟨gB, 0, none⟩) 3 kB ∧ e 7 = Value.slice (some ⟨gP, 0, none⟩) 3 kP ∧ e 14 = Value.slice (some ⟨gI, 0, none⟩) 3 kI ∧ e 15 = Value.slice (some ⟨gN, 0, none⟩) 3 kN ∧ e 16 = Value.slice (some ⟨gL, 0, none⟩) 3 kL ∧ e 22 = .int .i64 (k : Int) ∧ Lng w H Hm 3 3 3 3 3 3 (lay q).length q.code.length q.ent.length q.enc VB VC VE (Value.slice (some ⟨gB, 0, none⟩) 3 kB) (Value.slice (some ⟨gP, 0, none⟩) 3 kP) VB1 VC1 VE1 (Value.slice (some ⟨gL, 0, none⟩) 3 kL) (Value.slice (some ⟨gI, 0, none⟩) 3 kI) (Value.slice (some ⟨gN, 0, none⟩) 3 kN) ∧ Old w0 w H q b1 cu eu) (fun e w => 3 - (intOf (e 22)).toNat) ?_ ?_
          · exact ⟨0, by omega, h1, h5, h6, h7, h14, h15, h16, rfl, hL, hO⟩
          rintro e w ⟨k, hk, h1, h5, h6, h7, h14, h15, h16, h22, hL, hO⟩
          have hm22 := h22
          refine W.seq ?_
          refine W.seq ?_
          refine W.region ?_
          refine WL.c rfl (o_mvh h22 ?_)
          refine WL.c rfl (o_lt rfl rfl ?_)
          refine WL.nil ?_
          refine W.cond rfl (fun c210 => ?_) (fun c210 => ?_)
          · try simp only [decide_eq_true_eq, decide_eq_false_iff_not, Bool.not_eq_true', Bool.not_eq_false', Bool.and_eq_true, Bool.or_eq_true, Bool.and_eq_false_iff, Bool.or_eq_false_iff] at c210
            have hk1 : k < 3 := by omega
            refine W.skip ?_
            refine W.seq ?_
            refine W.block ?_
            refine W.seq ?_
            refine W.seq ?_
            refine W.region ?_
            refine WL.c rfl (o_ash (show _ = Value.int _ _ from rfl) ?_)
            refine WL.nil ?_
            refine W.block ?_
            refine W.loop (fun e w => ∃ i : Nat, i ≤ (lay q).length + 1 ∧ e 1 = Value.pointer (some ⟨b1, 0, none⟩) ∧ e 5 = st (lay q) ∧ e 6 = Value.slice (some ⟨gB, 0, none⟩) 3 kB ∧ e 7 = Value.slice (some ⟨gP, 0, none⟩) 3 kP ∧ e 14 = Value.slice (some ⟨gI, 0, none⟩) 3 kI ∧ e 15 = Value.slice (some ⟨gN, 0, none⟩) 3 kN ∧ e 16 = Value.slice (some ⟨gL, 0, none⟩) 3 kL ∧ e 22 = .int .i64 (k : Int) ∧ e 23 = .int .i64 (i : Int) ∧ Lng w H Hm 3 3 3 3 3 3 (lay q).length q.code.length q.ent.length q.enc VB VC VE (Value.slice (some ⟨gB, 0, none⟩) 3 kB) (Value.slice (some ⟨gP, 0, none⟩) 3 kP) VB1 VC1 VE1 (Value.slice (some ⟨gL, 0, none⟩) 3 kL) (Value.slice (some ⟨gI, 0, none⟩) 3 kI) (Value.slice (some ⟨gN, 0, none⟩) 3 kN) ∧ Old w0 w H q b1 cu eu) (fun e w => (lay q).length + 1 - (intOf (e 23)).toNat) ?_ ?_
            · exact ⟨0, Nat.zero_le _, h1, h5, h6, h7, h14, h15, h16, h22, rfl, hL, hO⟩
            rintro e w ⟨i, hi, h1, h5, h6, h7, h14, h15, h16, h22, h23, hL, hO⟩
            have hm23 := h23
            have hnew := hL.gB.new hk1
            obtain ⟨gn, cn, hvn, -⟩ := own_some hnew (by omega)
            rw [hvn] at hnew
            have hold := hL.gB.old k hk1
            obtain ⟨go, co, hvo, -⟩ := own_some hold hlp
            rw [hvo] at hold
            refine W.seq ?_
            refine W.seq ?_
            refine W.region ?_
            refine WL.c rfl (o_mvh h23 ?_)
            refine WL.c rfl (o_mvh h16 ?_)
            refine WL.c rfl (o_mvh h22 ?_)
            refine WL.c rfl (o_ixB (i := k) TI48 TI34 (show _ = Value.slice (some ⟨gL, 0, none⟩) 3 kL from by first | rfl | assumption) (show _ = Value.int .i64 (k : Int) from by first | rfl | assumption) hk1 ?_)
            refine WL.c rfl (o_ld TI34 rfl rfl (own_at hL.ol (rng_get VB1 hk1)) ?_)
            refine WL.c rfl (o_lenR TI34 rfl (Sl.own (hL.gB.new hk1)) ?_)
            refine WL.c rfl (o_lt rfl rfl ?_)
            refine WL.nil ?_
            refine W.cond rfl (fun c219 => ?_) (fun c219 => ?_)
            · try simp only [decide_eq_true_eq, decide_eq_false_iff_not, Bool.not_eq_true', Bool.not_eq_false', Bool.and_eq_true, Bool.or_eq_true, Bool.and_eq_false_iff, Bool.or_eq_false_iff] at c219
              have hi1 : i < (lay q).length + 1 := by omega
              refine W.skip ?_
              refine W.seq ?_
              refine W.block ?_
              refine W.seq ?_
              by_cases hil : i < (lay q).length
              · skip
                refine W.region ?_
                refine WL.c rfl (o_mvh h16 ?_)
                refine WL.c rfl (o_mvh h22 ?_)
                refine WL.c rfl (o_ixB (i := k) TI48 TI34 (show _ = Value.slice (some ⟨gL, 0, none⟩) 3 kL from by first | rfl | assumption) (show _ = Value.int .i64 (k : Int) from by first | rfl | assumption) hk1 ?_)
                refine WL.c rfl (o_ld TI34 rfl rfl (own_at hL.ol (rng_get VB1 hk1)) ?_)
                refine WL.c rfl (o_mvh h23 ?_)
                refine WL.c rfl (o_ixB (i := i) TI34 TI5 (show _ = Value.slice (some ⟨gn, 0, none⟩) ((lay q).length + 1) cn from hvn) (show _ = Value.int .i64 (i : Int) from by first | rfl | assumption) hi1 ?_)
                refine WL.c rfl (o_ld TI5 rfl rfl (own_at hnew (XB_at hi1)) ?_)
                refine WL.c rfl (o_mvh h22 ?_)
                refine WL.c rfl (o_addi rfl rfl (by omega) ?_)
                refine WL.c rfl (o_cvB8 (n := k + 1) TI3 TI5 rfl (by omega) (by omega) ?_)
                refine WL.c rfl (o_ne rfl rfl ?_)
                refine WL.c rfl (o_mvh (show _ = Value.bool _ from rfl) ?_)
                refine WL.g rfl (by simp [fB]) rfl (o_mvh h23 ?_)
                refine WL.g rfl (by simp [fB]) rfl (o_mvh h6 ?_)
                refine WL.g rfl (by simp [fB]) rfl (o_mvh h22 ?_)
                refine WL.g rfl (by simp [fB]) rfl (o_ixB (i := k) TI48 TI34 (show _ = Value.slice (some ⟨gB, 0, none⟩) 3 kB from by first | rfl | assumption) (show _ = Value.int .i64 (k : Int) from by first | rfl | assumption) hk1 ?_)
                refine WL.g rfl (by simp [fB]) rfl (o_ld TI34 rfl rfl (own_at hL.ob (rng_get VB hk1)) ?_)
                refine WL.g rfl (by simp [fB]) rfl (o_lenR TI34 rfl (Sl.own (hL.gB.old k hk1)) ?_)
                refine WL.g rfl (by simp [fB]) rfl (o_lt rfl rfl ?_)
                refine WL.g rfl (by simp [fB]) rfl (o_mvh (show _ = Value.bool _ from rfl) ?_)
                refine WL.g rfl (by simp; omega) rfl (o_mvh h6 ?_)
                refine WL.g rfl (by simp; omega) rfl (o_mvh h22 ?_)
                refine WL.g rfl (by simp; omega) rfl (o_ixB (i := k) TI48 TI34 (show _ = Value.slice (some ⟨gB, 0, none⟩) 3 kB from by first | rfl | assumption) (show _ = Value.int .i64 (k : Int) from by first | rfl | assumption) hk1 ?_)
                refine WL.g rfl (by simp; omega) rfl (o_ld TI34 rfl rfl (own_at hL.ob (rng_get VB hk1)) ?_)
                refine WL.g rfl (by simp; omega) rfl (o_mvh h23 ?_)
                refine WL.g rfl (by simp; omega) rfl (o_ixB (i := i) TI34 TI5 (show _ = Value.slice (some ⟨go, 0, none⟩) (lay q).length co from hvo) (show _ = Value.int .i64 (i : Int) from by first | rfl | assumption) hil ?_)
                refine WL.g rfl (by simp; omega) rfl (o_ld TI5 rfl rfl (own_at hold (XB_at hil)) ?_)
                refine WL.g rfl (by simp; omega) rfl (o_mvh h22 ?_)
                refine WL.g rfl (by simp; omega) rfl (o_addi rfl rfl (by omega) ?_)
                refine WL.g rfl (by simp; omega) rfl (o_cvB8 (n := k + 1) TI3 TI5 rfl (by omega) (by omega) ?_)
                refine WL.g rfl (by simp; omega) rfl (o_ne rfl rfl ?_)
                refine WL.g rfl (by simp [fB]) rfl (o_pickA rfl rfl ?_)
                refine WL.c rfl (o_pickO rfl rfl ?_)
                refine WL.nil ?_
                refine W.condF' rfl (by simp [fB]) ?_
                refine W.skip ?_
                refine W.region ?_
                refine WL.c rfl (o_mvh h23 ?_)
                refine WL.c rfl (o_addi rfl rfl (by omega) ?_)
                refine WL.c rfl (o_ash (show _ = Value.int _ _ from rfl) ?_)
                refine WL.nil ?_
                refine ⟨⟨i + 1, by omega, h1, h5, h6, h7, h14, h15, h16, h22, rfl, hL, hO⟩, ?_⟩
                show (lay q).length + 1 - ((i : Int) + 1).toNat < _
                rw [hm23]; simp [intOf]; omega
              · skip
                refine W.region ?_
                refine WL.c rfl (o_mvh h16 ?_)
                refine WL.c rfl (o_mvh h22 ?_)
                refine WL.c rfl (o_ixB (i := k) TI48 TI34 (show _ = Value.slice (some ⟨gL, 0, none⟩) 3 kL from by first | rfl | assumption) (show _ = Value.int .i64 (k : Int) from by first | rfl | assumption) hk1 ?_)
                refine WL.c rfl (o_ld TI34 rfl rfl (own_at hL.ol (rng_get VB1 hk1)) ?_)
                refine WL.c rfl (o_mvh h23 ?_)
                refine WL.c rfl (o_ixB (i := i) TI34 TI5 (show _ = Value.slice (some ⟨gn, 0, none⟩) ((lay q).length + 1) cn from hvn) (show _ = Value.int .i64 (i : Int) from by first | rfl | assumption) hi1 ?_)
                refine WL.c rfl (o_ld TI5 rfl rfl (own_at hnew (XB_at hi1)) ?_)
                refine WL.c rfl (o_mvh h22 ?_)
                refine WL.c rfl (o_addi rfl rfl (by omega) ?_)
                refine WL.c rfl (o_cvB8 (n := k + 1) TI3 TI5 rfl (by omega) (by omega) ?_)
                refine WL.c rfl (o_ne rfl rfl ?_)
                refine WL.c rfl (o_mvh (show _ = Value.bool _ from rfl) ?_)
                refine WL.g rfl (by simp [fB]) rfl (o_mvh h23 ?_)
                refine WL.g rfl (by simp [fB]) rfl (o_mvh h6 ?_)
                refine WL.g rfl (by simp [fB]) rfl (o_mvh h22 ?_)
                refine WL.g rfl (by simp [fB]) rfl (o_ixB (i := k) TI48 TI34 (show _ = Value.slice (some ⟨gB, 0, none⟩) 3 kB from by first | rfl | assumption) (show _ = Value.int .i64 (k : Int) from by first | rfl | assumption) hk1 ?_)
                refine WL.g rfl (by simp [fB]) rfl (o_ld TI34 rfl rfl (own_at hL.ob (rng_get VB hk1)) ?_)
                refine WL.g rfl (by simp [fB]) rfl (o_lenR TI34 rfl (Sl.own (hL.gB.old k hk1)) ?_)
                refine WL.g rfl (by simp [fB]) rfl (o_lt rfl rfl ?_)
                refine WL.g rfl (by simp [fB]) rfl (o_mvh (show _ = Value.bool _ from rfl) ?_)
                refine WL.s rfl (by simp; omega) rfl ?_
                refine WL.s rfl (by simp; omega) rfl ?_
                refine WL.s rfl (by simp; omega) rfl ?_
                refine WL.s rfl (by simp; omega) rfl ?_
                refine WL.s rfl (by simp; omega) rfl ?_
                refine WL.s rfl (by simp; omega) rfl ?_
                refine WL.s rfl (by simp; omega) rfl ?_
                refine WL.s rfl (by simp; omega) rfl ?_
                refine WL.s rfl (by simp; omega) rfl ?_
                refine WL.s rfl (by simp; omega) rfl ?_
                refine WL.s rfl (by simp; omega) rfl ?_
                refine WL.g rfl (by simp [fB]) rfl (o_pickF rfl (by simp; omega) ?_)
                refine WL.c rfl (o_pickO rfl rfl ?_)
                refine WL.nil ?_
                refine W.condF' rfl (by simp [fB]) ?_
                refine W.skip ?_
                refine W.region ?_
                refine WL.c rfl (o_mvh h23 ?_)
                refine WL.c rfl (o_addi rfl rfl (by omega) ?_)
                refine WL.c rfl (o_ash (show _ = Value.int _ _ from rfl) ?_)
                refine WL.nil ?_
                refine ⟨⟨i + 1, by omega, h1, h5, h6, h7, h14, h15, h16, h22, rfl, hL, hO⟩, ?_⟩
                show (lay q).length + 1 - ((i : Int) + 1).toNat < _
                rw [hm23]; simp [intOf]; omega
            · try simp only [decide_eq_true_eq, decide_eq_false_iff_not, Bool.not_eq_true', Bool.not_eq_false', Bool.and_eq_true, Bool.or_eq_true, Bool.and_eq_false_iff, Bool.or_eq_false_iff] at c219
              refine W.exit ?_
              refine W.seq ?_
              refine W.seq ?_
              refine W.region ?_
              refine WL.c rfl (o_ash (show _ = Value.int _ _ from rfl) ?_)
              refine WL.nil ?_
              refine W.block ?_
              refine W.loop (fun e w => ∃ i : Nat, i ≤ q.code.length + 1 ∧ e 1 = Value.pointer (some ⟨b1, 0, none⟩) ∧ e 5 = st (lay q) ∧ e 6 = Value.slice (some ⟨gB, 0, none⟩) 3 kB ∧ e 7 = Value.slice (some ⟨gP, 0, none⟩) 3 kP ∧ e 14 = Value.slice (some ⟨gI, 0, none⟩) 3 kI ∧ e 15 = Value.slice (some ⟨gN, 0, none⟩) 3 kN ∧ e 16 = Value.slice (some ⟨gL, 0, none⟩) 3 kL ∧ e 22 = .int .i64 (k : Int) ∧ e 24 = .int .i64 (i : Int) ∧ Lng w H Hm 3 3 3 3 3 3 (lay q).length q.code.length q.ent.length q.enc VB VC VE (Value.slice (some ⟨gB, 0, none⟩) 3 kB) (Value.slice (some ⟨gP, 0, none⟩) 3 kP) VB1 VC1 VE1 (Value.slice (some ⟨gL, 0, none⟩) 3 kL) (Value.slice (some ⟨gI, 0, none⟩) 3 kI) (Value.slice (some ⟨gN, 0, none⟩) 3 kN) ∧ Old w0 w H q b1 cu eu) (fun e w => q.code.length + 1 - (intOf (e 24)).toNat) ?_ ?_
              · exact ⟨0, Nat.zero_le _, h1, h5, h6, h7, h14, h15, h16, h22, rfl, hL, hO⟩
              rintro e w ⟨i, hi, h1, h5, h6, h7, h14, h15, h16, h22, h24, hL, hO⟩
              have hm24 := h24
              have hnew := hL.gC.new hk1
              obtain ⟨gn, cn, hvn, -⟩ := own_some hnew (by omega)
              rw [hvn] at hnew
              have hold := hL.gC.old k hk1
              obtain ⟨go, co, hvo, -⟩ := own_some hold hq0
              rw [hvo] at hold
              refine W.seq ?_
              refine W.seq ?_
              refine W.region ?_
              refine WL.c rfl (o_mvh h24 ?_)
              refine WL.c rfl (o_mvh h14 ?_)
              refine WL.c rfl (o_mvh h22 ?_)
              refine WL.c rfl (o_ixB (i := k) TI50 TI23 (show _ = Value.slice (some ⟨gI, 0, none⟩) 3 kI from by first | rfl | assumption) (show _ = Value.int .i64 (k : Int) from by first | rfl | assumption) hk1 ?_)
              refine WL.c rfl (o_ld TI23 rfl rfl (own_at hL.oi (rng_get VC1 hk1)) ?_)
              refine WL.c rfl (o_lenR TI23 rfl (Sl.own (hL.gC.new hk1)) ?_)
              refine WL.c rfl (o_lt rfl rfl ?_)
              refine WL.nil ?_
              refine W.cond rfl (fun c261 => ?_) (fun c261 => ?_)
              · try simp only [decide_eq_true_eq, decide_eq_false_iff_not, Bool.not_eq_true', Bool.not_eq_false', Bool.and_eq_true, Bool.or_eq_true, Bool.and_eq_false_iff, Bool.or_eq_false_iff] at c261
                have hi1 : i < q.code.length + 1 := by omega
                refine W.skip ?_
                refine W.seq ?_
                refine W.block ?_
                refine W.seq ?_
                have hcn : Cells w gn (0 + i * 4) (insV (fC k i)) := by have h9 := own_cellsAt hnew i; rw [XC_at hi1] at h9; exact h9
                have hpc := hL.pc hk1
                by_cases hil : i < q.code.length
                · skip
                  have hco : Cells w go (0 + i * 4) (insV (fC k i)) := by have h9 := own_cellsAt hold i; rw [XC_at hil] at h9; exact h9
                  refine W.quiet rfl (by kernel_rfl) ?_
                  refine WQ.c rfl ((QO.o rfl fun _ => o_mvh h14 ⟨rfl, rfl⟩)) ?_
                  refine WQ.c rfl ((QO.o rfl fun _ => o_mvh h22 ⟨rfl, rfl⟩)) ?_
                  refine WQ.c rfl ((QO.o rfl fun _ => o_ixB (i := k) TI50 TI23 (show _ = Value.slice (some ⟨gI, 0, none⟩) 3 kI from by first | rfl | assumption) (show _ = Value.int .i64 (k : Int) from by first | rfl | assumption) hk1 ⟨rfl, rfl⟩)) ?_
                  refine WQ.c rfl ((QO.o rfl fun _ => o_ld TI23 rfl rfl (own_at (own_ext hL.oi (Only.drewN _ _)) (rng_get VC1 hk1)) ⟨rfl, rfl⟩)) ?_
                  refine WQ.c rfl ((QO.o rfl fun _ => o_mvh h24 ⟨rfl, rfl⟩)) ?_
                  refine WQ.c rfl ((QO.o rfl fun _ => o_ixB (i := i) TI23 TI28 (show _ = Value.slice (some ⟨gn, 0, none⟩) (q.code.length + 1) cn from hvn) (show _ = Value.int .i64 (i : Int) from by first | rfl | assumption) hi1 ⟨rfl, rfl⟩)) ?_
                  refine WQ.c rfl ((QO.o rfl fun _ => o_ldA TI28 rfl rfl (show Cells _ gn (0 + i * 4) (insV (fC k i)) from Cells.only (F := No) hcn (Only.drewN _ _) (fun h => h)) rfl ⟨rfl, rfl⟩)) ?_
                  refine WQ.c rfl ((QO.o rfl fun _ => o_mvh h22 ⟨rfl, rfl⟩)) ?_
                  refine WQ.c rfl ((QO.o rfl fun _ => o_negK (show _ = Value.int .i64 (k : Int) from by first | rfl | assumption) (by omega) ⟨rfl, rfl⟩)) ?_
                  refine WQ.c rfl ((QO.o rfl fun _ => o_subi rfl rfl (by omega) ⟨rfl, rfl⟩)) ?_
                  refine WQ.c rfl ((QO.o rfl fun _ => o_mvh h24 ⟨rfl, rfl⟩)) ?_
                  refine WQ.c rfl ((QO.o rfl fun _ => o_bldC (cs := [_, _, (.int .i64 0), (.int .i64 0)]) TI28 (Sizes.cons TI3 (Sizes.cons TI3 (Sizes.cons TI3 (Sizes.cons TI3 Sizes.nil)))) rfl (lcp (show _ = Value.int _ _ from rfl) (lcp (show _ = Value.int _ _ from rfl) lnp)) rfl rfl ⟨rfl, rfl⟩)) ?_
                  refine WQ.c rfl ((QO.o rfl fun _ => o_neR TI28 (by kernel_rfl) (by kernel_rfl) rfl rfl (.int TI3 (by decide) rfl rfl (.int TI3 (by decide) rfl rfl (.int TI3 (by decide) rfl rfl (.int TI3 (by decide) rfl rfl .nil)))) ⟨rfl, rfl⟩)) ?_
                  refine WQ.c rfl ((QO.o rfl fun _ => o_mvh (show _ = Value.bool _ from rfl) ⟨rfl, rfl⟩)) ?_
                  refine WQ.g rfl (by simp [fC, insV]) rfl ((QO.o rfl fun _ => o_mvh h24 ⟨rfl, rfl⟩)) ?_
                  refine WQ.g rfl (by simp [fC, insV]) rfl ((QO.o rfl fun _ => o_mvh h7 ⟨rfl, rfl⟩)) ?_
                  refine WQ.g rfl (by simp [fC, insV]) rfl ((QO.o rfl fun _ => o_mvh h22 ⟨rfl, rfl⟩)) ?_
                  refine WQ.g rfl (by simp [fC, insV]) rfl ((QO.o rfl fun _ => o_ixB (i := k) TI49 TI26 (show _ = Value.slice (some ⟨gP, 0, none⟩) 3 kP from by first | rfl | assumption) (show _ = Value.int .i64 (k : Int) from by first | rfl | assumption) hk1 ⟨rfl, rfl⟩)) ?_
                  refine WQ.g rfl (by simp [fC, insV]) rfl ((QO.o rfl fun _ => o_fa 1 TI26 rfl TI23 rfl rfl ⟨rfl, rfl⟩)) ?_
                  refine WQ.g rfl (by simp [fC, insV]) rfl ((QO.o rfl fun _ => o_ld TI23 rfl rfl ((Cells.only (F := No) hpc (Only.drewN _ _) (fun h => h)) 1 _ rfl) ⟨rfl, rfl⟩)) ?_
                  refine WQ.g rfl (by simp [fC, insV]) rfl ((QO.r fun _ => r_lenR TI23 rfl (Sl.own (hL.gC.old k hk1)))) ?_
                  refine WQ.g rfl (by simp [fC, insV]) rfl ((QO.o rfl fun _ => o_lt rfl rfl ⟨rfl, rfl⟩)) ?_
                  refine WQ.g rfl (by simp [fC, insV]) rfl ((QO.o rfl fun _ => o_mvh (show _ = Value.bool _ from rfl) ⟨rfl, rfl⟩)) ?_
                  refine WQ.g rfl (by simp; omega) rfl ((QO.o rfl fun _ => o_mvh h7 ⟨rfl, rfl⟩)) ?_
                  refine WQ.g rfl (by simp; omega) rfl ((QO.o rfl fun _ => o_mvh h22 ⟨rfl, rfl⟩)) ?_
                  refine WQ.g rfl (by simp; omega) rfl ((QO.o rfl fun _ => o_ixB (i := k) TI49 TI26 (show _ = Value.slice (some ⟨gP, 0, none⟩) 3 kP from by first | rfl | assumption) (show _ = Value.int .i64 (k : Int) from by first | rfl | assumption) hk1 ⟨rfl, rfl⟩)) ?_
                  refine WQ.g rfl (by simp; omega) rfl ((QO.o rfl fun _ => o_fa 1 TI26 rfl TI23 rfl rfl ⟨rfl, rfl⟩)) ?_
                  refine WQ.g rfl (by simp; omega) rfl ((QO.o rfl fun _ => o_ld TI23 rfl rfl ((Cells.only (F := No) hpc (Only.drewN _ _) (fun h => h)) 1 _ rfl) ⟨rfl, rfl⟩)) ?_
                  refine WQ.g rfl (by simp; omega) rfl ((QO.o rfl fun _ => o_mvh h24 ⟨rfl, rfl⟩)) ?_
                  refine WQ.g rfl (by simp; omega) rfl ((QO.o rfl fun _ => o_ixB (i := i) TI23 TI28 (show _ = Value.slice (some ⟨go, 0, none⟩) q.code.length co from hvo) (show _ = Value.int .i64 (i : Int) from by first | rfl | assumption) hil ⟨rfl, rfl⟩)) ?_
                  refine WQ.g rfl (by simp; omega) rfl ((QO.o rfl fun _ => o_ldA TI28 rfl rfl (show Cells _ go (0 + i * 4) (insV (fC k i)) from Cells.only (F := No) hco (Only.drewN _ _) (fun h => h)) rfl ⟨rfl, rfl⟩)) ?_
                  refine WQ.g rfl (by simp; omega) rfl ((QO.o rfl fun _ => o_mvh h14 ⟨rfl, rfl⟩)) ?_
                  refine WQ.g rfl (by simp; omega) rfl ((QO.o rfl fun _ => o_mvh h22 ⟨rfl, rfl⟩)) ?_
                  refine WQ.g rfl (by simp; omega) rfl ((QO.o rfl fun _ => o_ixB (i := k) TI50 TI23 (show _ = Value.slice (some ⟨gI, 0, none⟩) 3 kI from by first | rfl | assumption) (show _ = Value.int .i64 (k : Int) from by first | rfl | assumption) hk1 ⟨rfl, rfl⟩)) ?_
                  refine WQ.g rfl (by simp; omega) rfl ((QO.o rfl fun _ => o_ld TI23 rfl rfl (own_at (own_ext hL.oi (Only.drewN _ _)) (rng_get VC1 hk1)) ⟨rfl, rfl⟩)) ?_
                  refine WQ.g rfl (by simp; omega) rfl ((QO.o rfl fun _ => o_mvh h24 ⟨rfl, rfl⟩)) ?_
                  refine WQ.g rfl (by simp; omega) rfl ((QO.o rfl fun _ => o_ixB (i := i) TI23 TI28 (show _ = Value.slice (some ⟨gn, 0, none⟩) (q.code.length + 1) cn from hvn) (show _ = Value.int .i64 (i : Int) from by first | rfl | assumption) hi1 ⟨rfl, rfl⟩)) ?_
                  refine WQ.g rfl (by simp; omega) rfl ((QO.o rfl fun _ => o_ldA TI28 rfl rfl (show Cells _ gn (0 + i * 4) (insV (fC k i)) from Cells.only (F := No) hcn (Only.drewN _ _) (fun h => h)) rfl ⟨rfl, rfl⟩)) ?_
                  refine WQ.g rfl (by simp; omega) rfl ((QO.o rfl fun _ => o_neR TI28 (by kernel_rfl) (by kernel_rfl) rfl rfl (.int TI3 (by decide) rfl rfl (.int TI3 (by decide) rfl rfl (.int TI3 (by decide) rfl rfl (.int TI3 (by decide) rfl rfl .nil)))) ⟨rfl, rfl⟩)) ?_
                  refine WQ.g rfl (by simp [fC, insV]) rfl ((QO.r fun _ => r_pickA rfl rfl)) ?_
                  refine WQ.c rfl ((QO.r fun _ => r_pickO rfl rfl)) ?_
                  refine WQ.nil ?_
                  intro nq
                  have hxq := Only.drewN w nq
                  replace hL := hL.ext hxq
                  replace hO := hO.ext hxq
                  refine W.condF' rfl (by simp [fC]) ?_
                  refine W.skip ?_
                  refine W.region ?_
                  refine WL.c rfl (o_mvh h24 ?_)
                  refine WL.c rfl (o_addi rfl rfl (by omega) ?_)
                  refine WL.c rfl (o_ash (show _ = Value.int _ _ from rfl) ?_)
                  refine WL.nil ?_
                  refine ⟨⟨i + 1, by omega, h1, h5, h6, h7, h14, h15, h16, h22, rfl, hL, hO⟩, ?_⟩
                  show q.code.length + 1 - ((i : Int) + 1).toNat < _
                  rw [hm24]; simp [intOf]; omega
                · skip
                  refine W.quiet rfl (by kernel_rfl) ?_
                  refine WQ.c rfl ((QO.o rfl fun _ => o_mvh h14 ⟨rfl, rfl⟩)) ?_
                  refine WQ.c rfl ((QO.o rfl fun _ => o_mvh h22 ⟨rfl, rfl⟩)) ?_
                  refine WQ.c rfl ((QO.o rfl fun _ => o_ixB (i := k) TI50 TI23 (show _ = Value.slice (some ⟨gI, 0, none⟩) 3 kI from by first | rfl | assumption) (show _ = Value.int .i64 (k : Int) from by first | rfl | assumption) hk1 ⟨rfl, rfl⟩)) ?_
                  refine WQ.c rfl ((QO.o rfl fun _ => o_ld TI23 rfl rfl (own_at (own_ext hL.oi (Only.drewN _ _)) (rng_get VC1 hk1)) ⟨rfl, rfl⟩)) ?_
                  refine WQ.c rfl ((QO.o rfl fun _ => o_mvh h24 ⟨rfl, rfl⟩)) ?_
                  refine WQ.c rfl ((QO.o rfl fun _ => o_ixB (i := i) TI23 TI28 (show _ = Value.slice (some ⟨gn, 0, none⟩) (q.code.length + 1) cn from hvn) (show _ = Value.int .i64 (i : Int) from by first | rfl | assumption) hi1 ⟨rfl, rfl⟩)) ?_
                  refine WQ.c rfl ((QO.o rfl fun _ => o_ldA TI28 rfl rfl (show Cells _ gn (0 + i * 4) (insV (fC k i)) from Cells.only (F := No) hcn (Only.drewN _ _) (fun h => h)) rfl ⟨rfl, rfl⟩)) ?_
                  refine WQ.c rfl ((QO.o rfl fun _ => o_mvh h22 ⟨rfl, rfl⟩)) ?_
                  refine WQ.c rfl ((QO.o rfl fun _ => o_negK (show _ = Value.int .i64 (k : Int) from by first | rfl | assumption) (by omega) ⟨rfl, rfl⟩)) ?_
                  refine WQ.c rfl ((QO.o rfl fun _ => o_subi rfl rfl (by omega) ⟨rfl, rfl⟩)) ?_
                  refine WQ.c rfl ((QO.o rfl fun _ => o_mvh h24 ⟨rfl, rfl⟩)) ?_
                  refine WQ.c rfl ((QO.o rfl fun _ => o_bldC (cs := [_, _, (.int .i64 0), (.int .i64 0)]) TI28 (Sizes.cons TI3 (Sizes.cons TI3 (Sizes.cons TI3 (Sizes.cons TI3 Sizes.nil)))) rfl (lcp (show _ = Value.int _ _ from rfl) (lcp (show _ = Value.int _ _ from rfl) lnp)) rfl rfl ⟨rfl, rfl⟩)) ?_
                  refine WQ.c rfl ((QO.o rfl fun _ => o_neR TI28 (by kernel_rfl) (by kernel_rfl) rfl rfl (.int TI3 (by decide) rfl rfl (.int TI3 (by decide) rfl rfl (.int TI3 (by decide) rfl rfl (.int TI3 (by decide) rfl rfl .nil)))) ⟨rfl, rfl⟩)) ?_
                  refine WQ.c rfl ((QO.o rfl fun _ => o_mvh (show _ = Value.bool _ from rfl) ⟨rfl, rfl⟩)) ?_
                  refine WQ.g rfl (by simp [fC, insV]) rfl ((QO.o rfl fun _ => o_mvh h24 ⟨rfl, rfl⟩)) ?_
                  refine WQ.g rfl (by simp [fC, insV]) rfl ((QO.o rfl fun _ => o_mvh h7 ⟨rfl, rfl⟩)) ?_
                  refine WQ.g rfl (by simp [fC, insV]) rfl ((QO.o rfl fun _ => o_mvh h22 ⟨rfl, rfl⟩)) ?_
                  refine WQ.g rfl (by simp [fC, insV]) rfl ((QO.o rfl fun _ => o_ixB (i := k) TI49 TI26 (show _ = Value.slice (some ⟨gP, 0, none⟩) 3 kP from by first | rfl | assumption) (show _ = Value.int .i64 (k : Int) from by first | rfl | assumption) hk1 ⟨rfl, rfl⟩)) ?_
                  refine WQ.g rfl (by simp [fC, insV]) rfl ((QO.o rfl fun _ => o_fa 1 TI26 rfl TI23 rfl rfl ⟨rfl, rfl⟩)) ?_
                  refine WQ.g rfl (by simp [fC, insV]) rfl ((QO.o rfl fun _ => o_ld TI23 rfl rfl ((Cells.only (F := No) hpc (Only.drewN _ _) (fun h => h)) 1 _ rfl) ⟨rfl, rfl⟩)) ?_
                  refine WQ.g rfl (by simp [fC, insV]) rfl ((QO.r fun _ => r_lenR TI23 rfl (Sl.own (hL.gC.old k hk1)))) ?_
                  refine WQ.g rfl (by simp [fC, insV]) rfl ((QO.o rfl fun _ => o_lt rfl rfl ⟨rfl, rfl⟩)) ?_
                  refine WQ.g rfl (by simp [fC, insV]) rfl ((QO.o rfl fun _ => o_mvh (show _ = Value.bool _ from rfl) ⟨rfl, rfl⟩)) ?_
                  refine WQ.s rfl (by simp; omega) rfl ?_
                  refine WQ.s rfl (by simp; omega) rfl ?_
                  refine WQ.s rfl (by simp; omega) rfl ?_
                  refine WQ.s rfl (by simp; omega) rfl ?_
                  refine WQ.s rfl (by simp; omega) rfl ?_
                  refine WQ.s rfl (by simp; omega) rfl ?_
                  refine WQ.s rfl (by simp; omega) rfl ?_
                  refine WQ.s rfl (by simp; omega) rfl ?_
                  refine WQ.s rfl (by simp; omega) rfl ?_
                  refine WQ.s rfl (by simp; omega) rfl ?_
                  refine WQ.s rfl (by simp; omega) rfl ?_
                  refine WQ.s rfl (by simp; omega) rfl ?_
                  refine WQ.s rfl (by simp; omega) rfl ?_
                  refine WQ.s rfl (by simp; omega) rfl ?_
                  refine WQ.s rfl (by simp; omega) rfl ?_
                  refine WQ.s rfl (by simp; omega) rfl ?_
                  refine WQ.g rfl (by simp [fC, insV]) rfl ((QO.r fun _ => r_pickF rfl (by simp; omega))) ?_
                  refine WQ.c rfl ((QO.r fun _ => r_pickO rfl rfl)) ?_
                  refine WQ.nil ?_
                  intro nq
                  have hxq := Only.drewN w nq
                  replace hL := hL.ext hxq
                  replace hO := hO.ext hxq
                  refine W.condF' rfl (by simp [fC]) ?_
                  refine W.skip ?_
                  refine W.region ?_
                  refine WL.c rfl (o_mvh h24 ?_)
                  refine WL.c rfl (o_addi rfl rfl (by omega) ?_)
                  refine WL.c rfl (o_ash (show _ = Value.int _ _ from rfl) ?_)
                  refine WL.nil ?_
                  refine ⟨⟨i + 1, by omega, h1, h5, h6, h7, h14, h15, h16, h22, rfl, hL, hO⟩, ?_⟩
                  show q.code.length + 1 - ((i : Int) + 1).toNat < _
                  rw [hm24]; simp [intOf]; omega
              · try simp only [decide_eq_true_eq, decide_eq_false_iff_not, Bool.not_eq_true', Bool.not_eq_false', Bool.and_eq_true, Bool.or_eq_true, Bool.and_eq_false_iff, Bool.or_eq_false_iff] at c261
                refine W.exit ?_
                refine W.seq ?_
                refine W.region ?_
                refine WL.c rfl (o_ash (show _ = Value.int _ _ from rfl) ?_)
                refine WL.nil ?_
                refine W.block ?_
                refine W.loop (fun e w => ∃ i : Nat, i ≤ q.ent.length + 1 ∧ e 1 = Value.pointer (some ⟨b1, 0, none⟩) ∧ e 5 = st (lay q) ∧ e 6 = Value.slice (some ⟨gB, 0, none⟩) 3 kB ∧ e 7 = Value.slice (some ⟨gP, 0, none⟩) 3 kP ∧ e 14 = Value.slice (some ⟨gI, 0, none⟩) 3 kI ∧ e 15 = Value.slice (some ⟨gN, 0, none⟩) 3 kN ∧ e 16 = Value.slice (some ⟨gL, 0, none⟩) 3 kL ∧ e 22 = .int .i64 (k : Int) ∧ e 25 = .int .i64 (i : Int) ∧ Lng w H Hm 3 3 3 3 3 3 (lay q).length q.code.length q.ent.length q.enc VB VC VE (Value.slice (some ⟨gB, 0, none⟩) 3 kB) (Value.slice (some ⟨gP, 0, none⟩) 3 kP) VB1 VC1 VE1 (Value.slice (some ⟨gL, 0, none⟩) 3 kL) (Value.slice (some ⟨gI, 0, none⟩) 3 kI) (Value.slice (some ⟨gN, 0, none⟩) 3 kN) ∧ Old w0 w H q b1 cu eu) (fun e w => q.ent.length + 1 - (intOf (e 25)).toNat) ?_ ?_
                · exact ⟨0, Nat.zero_le _, h1, h5, h6, h7, h14, h15, h16, h22, rfl, hL, hO⟩
                rintro e w ⟨i, hi, h1, h5, h6, h7, h14, h15, h16, h22, h25, hL, hO⟩
                have hm25 := h25
                have hnew := hL.gE.new hk1
                obtain ⟨gn, cn, hvn, -⟩ := own_some hnew (by omega)
                rw [hvn] at hnew
                have hold := hL.gE.old k hk1
                obtain ⟨go, co, hvo, -⟩ := own_some hold hq2
                rw [hvo] at hold
                refine W.seq ?_
                refine W.seq ?_
                refine W.region ?_
                refine WL.c rfl (o_mvh h25 ?_)
                refine WL.c rfl (o_mvh h15 ?_)
                refine WL.c rfl (o_mvh h22 ?_)
                refine WL.c rfl (o_ixB (i := k) TI51 TI24 (show _ = Value.slice (some ⟨gN, 0, none⟩) 3 kN from by first | rfl | assumption) (show _ = Value.int .i64 (k : Int) from by first | rfl | assumption) hk1 ?_)
                refine WL.c rfl (o_ld TI24 rfl rfl (own_at hL.on (rng_get VE1 hk1)) ?_)
                refine WL.c rfl (o_lenR TI24 rfl (Sl.own (hL.gE.new hk1)) ?_)
                refine WL.c rfl (o_lt rfl rfl ?_)
                refine WL.nil ?_
                refine W.cond rfl (fun c311 => ?_) (fun c311 => ?_)
                · try simp only [decide_eq_true_eq, decide_eq_false_iff_not, Bool.not_eq_true', Bool.not_eq_false', Bool.and_eq_true, Bool.or_eq_true, Bool.and_eq_false_iff, Bool.or_eq_false_iff] at c311
                  have hi1 : i < q.ent.length + 1 := by omega
                  refine W.skip ?_
                  refine W.seq ?_
                  refine W.block ?_
                  refine W.seq ?_
                  by_cases hil : i < q.ent.length
                  · skip
                    refine W.region ?_
                    refine WL.c rfl (o_mvh h15 ?_)
                    refine WL.c rfl (o_mvh h22 ?_)
                    refine WL.c rfl (o_ixB (i := k) TI51 TI24 (show _ = Value.slice (some ⟨gN, 0, none⟩) 3 kN from by first | rfl | assumption) (show _ = Value.int .i64 (k : Int) from by first | rfl | assumption) hk1 ?_)
                    refine WL.c rfl (o_ld TI24 rfl rfl (own_at hL.on (rng_get VE1 hk1)) ?_)
                    refine WL.c rfl (o_mvh h25 ?_)
                    refine WL.c rfl (o_ixB (i := i) TI24 TI3 (show _ = Value.slice (some ⟨gn, 0, none⟩) (q.ent.length + 1) cn from hvn) (show _ = Value.int .i64 (i : Int) from by first | rfl | assumption) hi1 ?_)
                    refine WL.c rfl (o_ld TI3 rfl rfl (own_at hnew (XE_at hi1)) ?_)
                    refine WL.c rfl (o_mvh h22 ?_)
                    refine WL.c rfl (o_negK (show _ = Value.int .i64 (k : Int) from by first | rfl | assumption) (by omega) ?_)
                    refine WL.c rfl (o_subi rfl rfl (by omega) ?_)
                    refine WL.c rfl (o_ne rfl rfl ?_)
                    refine WL.c rfl (o_mvh (show _ = Value.bool _ from rfl) ?_)
                    refine WL.g rfl (by simp [fE]) rfl (o_mvh h25 ?_)
                    refine WL.g rfl (by simp [fE]) rfl (o_mvh h7 ?_)
                    refine WL.g rfl (by simp [fE]) rfl (o_mvh h22 ?_)
                    refine WL.g rfl (by simp [fE]) rfl (o_ixB (i := k) TI49 TI26 (show _ = Value.slice (some ⟨gP, 0, none⟩) 3 kP from by first | rfl | assumption) (show _ = Value.int .i64 (k : Int) from by first | rfl | assumption) hk1 ?_)
                    refine WL.g rfl (by simp [fE]) rfl (o_fa 2 TI26 rfl TI24 rfl rfl ?_)
                    refine WL.g rfl (by simp [fE]) rfl (o_ld TI24 rfl rfl (hL.pc hk1 2 _ rfl) ?_)
                    refine WL.g rfl (by simp [fE]) rfl (o_lenR TI24 rfl (Sl.own (hL.gE.old k hk1)) ?_)
                    refine WL.g rfl (by simp [fE]) rfl (o_lt rfl rfl ?_)
                    refine WL.g rfl (by simp [fE]) rfl (o_mvh (show _ = Value.bool _ from rfl) ?_)
                    refine WL.g rfl (by simp; omega) rfl (o_mvh h7 ?_)
                    refine WL.g rfl (by simp; omega) rfl (o_mvh h22 ?_)
                    refine WL.g rfl (by simp; omega) rfl (o_ixB (i := k) TI49 TI26 (show _ = Value.slice (some ⟨gP, 0, none⟩) 3 kP from by first | rfl | assumption) (show _ = Value.int .i64 (k : Int) from by first | rfl | assumption) hk1 ?_)
                    refine WL.g rfl (by simp; omega) rfl (o_fa 2 TI26 rfl TI24 rfl rfl ?_)
                    refine WL.g rfl (by simp; omega) rfl (o_ld TI24 rfl rfl (hL.pc hk1 2 _ rfl) ?_)
                    refine WL.g rfl (by simp; omega) rfl (o_mvh h25 ?_)
                    refine WL.g rfl (by simp; omega) rfl (o_ixB (i := i) TI24 TI3 (show _ = Value.slice (some ⟨go, 0, none⟩) q.ent.length co from hvo) (show _ = Value.int .i64 (i : Int) from by first | rfl | assumption) hil ?_)
                    refine WL.g rfl (by simp; omega) rfl (o_ld TI3 rfl rfl (own_at hold (XE_at hil)) ?_)
                    refine WL.g rfl (by simp; omega) rfl (o_mvh h22 ?_)
                    refine WL.g rfl (by simp; omega) rfl (o_negK (show _ = Value.int .i64 (k : Int) from by first | rfl | assumption) (by omega) ?_)
                    refine WL.g rfl (by simp; omega) rfl (o_subi rfl rfl (by omega) ?_)
                    refine WL.g rfl (by simp; omega) rfl (o_ne rfl rfl ?_)
                    refine WL.g rfl (by simp [fE]) rfl (o_pickA rfl rfl ?_)
                    refine WL.c rfl (o_pickO rfl rfl ?_)
                    refine WL.nil ?_
                    refine W.condF' rfl (by simp [fE]) ?_
                    refine W.skip ?_
                    refine W.region ?_
                    refine WL.c rfl (o_mvh h25 ?_)
                    refine WL.c rfl (o_addi rfl rfl (by omega) ?_)
                    refine WL.c rfl (o_ash (show _ = Value.int _ _ from rfl) ?_)
                    refine WL.nil ?_
                    refine ⟨⟨i + 1, by omega, h1, h5, h6, h7, h14, h15, h16, h22, rfl, hL, hO⟩, ?_⟩
                    show q.ent.length + 1 - ((i : Int) + 1).toNat < _
                    rw [hm25]; simp [intOf]; omega
                  · skip
                    refine W.region ?_
                    refine WL.c rfl (o_mvh h15 ?_)
                    refine WL.c rfl (o_mvh h22 ?_)
                    refine WL.c rfl (o_ixB (i := k) TI51 TI24 (show _ = Value.slice (some ⟨gN, 0, none⟩) 3 kN from by first | rfl | assumption) (show _ = Value.int .i64 (k : Int) from by first | rfl | assumption) hk1 ?_)
                    refine WL.c rfl (o_ld TI24 rfl rfl (own_at hL.on (rng_get VE1 hk1)) ?_)
                    refine WL.c rfl (o_mvh h25 ?_)
                    refine WL.c rfl (o_ixB (i := i) TI24 TI3 (show _ = Value.slice (some ⟨gn, 0, none⟩) (q.ent.length + 1) cn from hvn) (show _ = Value.int .i64 (i : Int) from by first | rfl | assumption) hi1 ?_)
                    refine WL.c rfl (o_ld TI3 rfl rfl (own_at hnew (XE_at hi1)) ?_)
                    refine WL.c rfl (o_mvh h22 ?_)
                    refine WL.c rfl (o_negK (show _ = Value.int .i64 (k : Int) from by first | rfl | assumption) (by omega) ?_)
                    refine WL.c rfl (o_subi rfl rfl (by omega) ?_)
                    refine WL.c rfl (o_ne rfl rfl ?_)
                    refine WL.c rfl (o_mvh (show _ = Value.bool _ from rfl) ?_)
                    refine WL.g rfl (by simp [fE]) rfl (o_mvh h25 ?_)
                    refine WL.g rfl (by simp [fE]) rfl (o_mvh h7 ?_)
                    refine WL.g rfl (by simp [fE]) rfl (o_mvh h22 ?_)
                    refine WL.g rfl (by simp [fE]) rfl (o_ixB (i := k) TI49 TI26 (show _ = Value.slice (some ⟨gP, 0, none⟩) 3 kP from by first | rfl | assumption) (show _ = Value.int .i64 (k : Int) from by first | rfl | assumption) hk1 ?_)
                    refine WL.g rfl (by simp [fE]) rfl (o_fa 2 TI26 rfl TI24 rfl rfl ?_)
                    refine WL.g rfl (by simp [fE]) rfl (o_ld TI24 rfl rfl (hL.pc hk1 2 _ rfl) ?_)
                    refine WL.g rfl (by simp [fE]) rfl (o_lenR TI24 rfl (Sl.own (hL.gE.old k hk1)) ?_)
                    refine WL.g rfl (by simp [fE]) rfl (o_lt rfl rfl ?_)
                    refine WL.g rfl (by simp [fE]) rfl (o_mvh (show _ = Value.bool _ from rfl) ?_)
                    refine WL.s rfl (by simp; omega) rfl ?_
                    refine WL.s rfl (by simp; omega) rfl ?_
                    refine WL.s rfl (by simp; omega) rfl ?_
                    refine WL.s rfl (by simp; omega) rfl ?_
                    refine WL.s rfl (by simp; omega) rfl ?_
                    refine WL.s rfl (by simp; omega) rfl ?_
                    refine WL.s rfl (by simp; omega) rfl ?_
                    refine WL.s rfl (by simp; omega) rfl ?_
                    refine WL.s rfl (by simp; omega) rfl ?_
                    refine WL.s rfl (by simp; omega) rfl ?_
                    refine WL.s rfl (by simp; omega) rfl ?_
                    refine WL.s rfl (by simp; omega) rfl ?_
                    refine WL.g rfl (by simp [fE]) rfl (o_pickF rfl (by simp; omega) ?_)
                    refine WL.c rfl (o_pickO rfl rfl ?_)
                    refine WL.nil ?_
                    refine W.condF' rfl (by simp [fE]) ?_
                    refine W.skip ?_
                    refine W.region ?_
                    refine WL.c rfl (o_mvh h25 ?_)
                    refine WL.c rfl (o_addi rfl rfl (by omega) ?_)
                    refine WL.c rfl (o_ash (show _ = Value.int _ _ from rfl) ?_)
                    refine WL.nil ?_
                    refine ⟨⟨i + 1, by omega, h1, h5, h6, h7, h14, h15, h16, h22, rfl, hL, hO⟩, ?_⟩
                    show q.ent.length + 1 - ((i : Int) + 1).toNat < _
                    rw [hm25]; simp [intOf]; omega
                · try simp only [decide_eq_true_eq, decide_eq_false_iff_not, Bool.not_eq_true', Bool.not_eq_false', Bool.and_eq_true, Bool.or_eq_true, Bool.and_eq_false_iff, Bool.or_eq_false_iff] at c311
                  refine W.exit ?_
                  refine W.region ?_
                  refine WL.c rfl (o_mvh h22 ?_)
                  refine WL.c rfl (o_addi rfl rfl (by omega) ?_)
                  refine WL.c rfl (o_ash (show _ = Value.int _ _ from rfl) ?_)
                  refine WL.nil ?_
                  refine ⟨⟨k + 1, by omega, h1, h5, h6, h7, h14, h15, h16, rfl, hL, hO⟩, ?_⟩
                  show 3 - ((k : Int) + 1).toNat < _
                  rw [hm22]; simp [intOf]; omega
          · try simp only [decide_eq_true_eq, decide_eq_false_iff_not, Bool.not_eq_true', Bool.not_eq_false', Bool.and_eq_true, Bool.or_eq_true, Bool.and_eq_false_iff, Bool.or_eq_false_iff] at c210
            refine W.exit ?_
            refine W.seq ?_
            refine W.region ?_
            refine WL.c rfl (o_ldA TI26 rfl h1 (show Cells _ b1 0 (pgV q cu eu) from Cells.of hO.p 0 _ (by simp [pgV])) rfl ?_)
            refine WL.c rfl (o_call Tryd.call13 (lc rfl ln) ((encode_ok q hok cu eu _ hO.pg).mono ?_))
            rintro v351 w351 ⟨v9, rfl, hv9, hx351⟩
            replace hO := hO.ext hx351
            refine WL.c rfl (o_mvh (by first | exact (show _ = Value.tuple _ from rfl) | exact rfl) ?_)
            refine WL.c rfl (o_ext rfl rfl ?_)
            refine WL.c rfl (o_ext rfl rfl ?_)
            refine WL.c rfl (o_alB TI32 ?_)
            intro wa hCa hxa hsa
            refine WL.c rfl (o_ash (by first | exact (show _ = Value.slice _ _ _ from rfl) | exact rfl) ?_)
            refine WL.u (o_stA TI32 rfl (show _ = Value.agg ([.int .i64 0, .int .i64 0]).toArray from rfl) rfl rfl hCa rfl ?_)
            intro wb27 hC27 hob hsb
            have hxb := Ext.own hxa (Nat.le_refl _) hob
            obtain ⟨b27, hb27⟩ : ∃ b, b = w351.heap.size := ⟨_, rfl⟩
            rw [← hb27] at hC27 ⊢
            clear hCa hxa hsa hob hsb
            replace hO := hO.ext hxb
            replace hv9 := own_ext hv9 hxb
            clear hxb
            refine WL.nil ?_
            refine W.seq ?_
            refine W.region ?_
            refine WL.c rfl (o_fa 0 TI32 rfl TI30 rfl rfl ?_)
            refine WL.c rfl (o_ld TI30 rfl rfl (cell_of hC27 rfl) ?_)
            refine WL.c rfl (o_call Tryd.call20 (lc rfl ln) ((num_spec 0 _).mono ?_))
            rintro v356 w356 ⟨rfl, hw356⟩
            obtain rfl := hw356.symm
            refine WL.c rfl (o_eq rfl rfl ?_)
            refine WL.c rfl (o_mvh (show _ = Value.bool _ from rfl) ?_)
            refine WL.g rfl (by decide) rfl (o_mvh (by first | exact (show _ = Value.slice _ _ _ from rfl) | exact rfl) ?_)
            refine WL.g rfl (by decide) rfl (o_cvBS TI34 TI5 TI9 rfl (Sl.own hv9) ?_)
            refine WL.g rfl (by decide) rfl (o_mvh h5 ?_)
            refine WL.g rfl (by decide) rfl (o_eqT rfl rfl ?_)
            refine WL.c rfl (o_pickA rfl rfl ?_)
            refine WL.c rfl (o_ash (show _ = Value.bool _ from rfl) ?_)
            refine WL.nil ?_
            refine W.ret ?_
            refine ret1v rfl (show _ = Value.bool _ from rfl) ?_
            exact ⟨by simp, hO.x⟩
end Go.Proofs.YthlbhnefldaoiaaDoor
