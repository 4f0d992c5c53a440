/-
  Walks and lemmas. Written by program out of specs of mine.
-/
import Derived.WalkKit
import Derived.WalkSpells
import Derived.WalkLawsBesides
import Derived.Deep.Quiet
import Derived.StillTail
import Derived.StringKeys
import Derived.Laws.StructEq
import Derived.Laws.Externs
import Derived.Laws.Tables
import Derived.Scope
import Derived.Test.YtpbflfgigfdohaaProg
import Derived.Laws.AppendOwn
import Derived.Maps.AppendAt
import Derived.Recover
import Derived.Lib.Bytealg
import Derived.SizedLaws
import Derived.ChangeArms
import Derived.ChangeSlices
import Derived.Maps.OwnSet
import Derived.Test.YtpbflfgigfdohaaRows
import Derived.ProofKit
import Derived.OpenShut
import Derived.ShutString
import Derived.ChangeOld
import Derived.Below
import Derived.JoinedCond
import Derived.SliceStrings
import Derived.Test.YtpbflfgigfdohaaKe5
set_option linter.unusedSimpArgs false
set_option linter.unusedVariables false
set_option maxRecDepth 100000
namespace Go.Proofs.Ytpbflfgigfdohaa
open Go Go.Vc Go.RowKit Go.Proofs

theorem tp_eq {a b : Tp} : a = b ↔ a.kind = b.kind ∧ a.n = b.n ∧ a.elem = b.elem ∧ a.parts = b.parts := by
 cases a; cases b; simp
theorem paV_inj {a b : Pa} : (paV a).toArray = (paV b).toArray ↔ a = b := by
 cases a; cases b
 simp [paV, st]
theorem roV_inj {a b : Ro} : (roV a).toArray = (roV b).toArray ↔ a = b := by
 cases a; cases b
 simp [roV, st]
theorem pa_eq {a b : Pa} : a = b ↔ a.label = b.label ∧ a.tag = b.tag ∧ a.ty = b.ty := by
 cases a; cases b; simp
theorem ro_eq {a b : Ro} : a = b ↔ a.name = b.name ∧ a.ty = b.ty := by
 cases a; cases b; simp
theorem all_eq {α : Type} {L M : List α} (hl : L.length = M.length) (h : ∀ j, j < L.length → L[j]? = M[j]?) : L = M := by
 apply List.ext_getElem?
 intro j
 rcases Nat.lt_or_ge j L.length with hj | hj
 ·exact h j hj
 rw [List.getElem?_eq_none hj, List.getElem?_eq_none (by omega)]
theorem dec_no {p : Prop} [Decidable p] (h : ¬ p) : false = decide p := (decide_eq_false h).symm

set_option maxHeartbeats 4000000 in
theorem tsame_spec (L1 : List Tp) (R1 : List Ro) (tv1 rv1 : Value) (V1 : Nat → Value) (L2 : List Tp) (R2 : List Ro) (tv2 rv2 : Value) (V2 : Nat → Value) (w0 : World) (hA : SchR w0 L1 R1 tv1 rv1 V1) (hB : SchR w0 L2 R2 tv2 rv2 V2) (hk1 : SOk L1 R1) (hk2 : SOk L2 R2) : Ca Try.prog 13 #[.agg #[tv1, rv1], .agg #[tv2, rv2]] w0 (fun v w' => v = .bool (decide (L1 = L2 ∧ R1 = R2)) ∧ Ext w0 w') := by
 have hl1 := hk1.len
 have hl2 := hk2.len
 have hr1 := hk1.ro
 have hr2 := hk2.ro
 refine Ca.of Try.func13 Try.ntmps13 rfl rfl (W.seq (W.region (WL.c rfl (o_boxB rfl ?_))))
 intro w2 hC2 hx2 hs2
 obtain ⟨b2, hb2⟩ : ∃ b, b = w0.heap.size := ⟨_, rfl⟩
 rw [← hb2] at hC2 ⊢
 replace hC2 : w2.heap[b2]? = some (.cells ([tv1, rv1]).toArray 34 (0, 0)) := hC2
 have hx := hx2
 replace hA := hA.ext hx2
 replace hB := hB.ext hx2
 refine WL.c rfl (o_boxB rfl ?_)
 intro w3 hC3 hx3 hs3
 obtain ⟨b3, hb3⟩ : ∃ b, b = w2.heap.size := ⟨_, rfl⟩
 rw [← hb3] at hC3 ⊢
 replace hC3 : w3.heap[b3]? = some (.cells ([tv2, rv2]).toArray 34 (0, 0)) := hC3
 replace hx := hx.tr hx3
 replace hA := hA.ext hx3
 replace hB := hB.ext hx3
 replace hC2 := hx3.blk hC2 (fun h => h)
 refine WL.c rfl (o_ash vB (WL.nil (W.seq (W.seq ?_))))
 by_cases e1 : L1.length = L2.length
 by_cases e2 : R1.length = R2.length
 ·skip
  skip
  refine W.region (WL.c rfl (o_fa 0 TI34 rfl TI31 rfl rfl (WL.c rfl (o_ld TI31 rfl rfl (cell_of hC2 rfl) (WL.c rfl (o_lenR TI31 rfl hA.ty.row (WL.c rfl (o_fa 0 TI34 rfl TI31 rfl rfl (WL.c rfl (o_ld TI31 rfl rfl (cell_of hC3 rfl) (WL.c rfl (o_lenR TI31 rfl hB.ty.row (WL.c rfl (o_ne rfl rfl (WL.c rfl (o_mvh vB (WL.g rfl (by simp [e1]) rfl (o_fa 1 TI34 rfl TI32 rfl rfl (WL.g rfl (by simp [e1]) rfl (o_ld TI32 rfl rfl (cell_of hC2 rfl) (WL.g rfl (by simp [e1]) rfl (o_lenR TI32 rfl hA.ro (WL.g rfl (by simp [e1]) rfl (o_fa 1 TI34 rfl TI32 rfl rfl (WL.g rfl (by simp [e1]) rfl (o_ld TI32 rfl rfl (cell_of hC3 rfl) (WL.g rfl (by simp [e1]) rfl (o_lenR TI32 rfl hB.ro (WL.g rfl (by simp [e1]) rfl (o_ne rfl rfl (WL.c rfl (o_pickO rfl rfl (WL.nil (W.condF' rfl (by simp [e1, e2]) (W.skip (W.seq (W.seq (W.region (WL.c rfl (o_ash vI (WL.nil (W.block (W.loop (fun e w => ∃ i : Nat, i ≤ L1.length ∧ e 2 = .pointer (some ⟨b2, 0, none⟩) ∧ e 3 = .pointer (some ⟨b3, 0, none⟩) ∧ e 5 = .int .i64 (i : Int) ∧ (∀ j, j < i → L1[j]? = L2[j]?) ∧ w.heap[b2]? = some (.cells #[tv1, rv1] 34 (0, 0)) ∧ w.heap[b3]? = some (.cells #[tv2, rv2] 34 (0, 0)) ∧ SchR w L1 R1 tv1 rv1 V1 ∧ SchR w L2 R2 tv2 rv2 V2 ∧ Ext w0 w) (fun e w => L1.length - (intOf (e 5)).toNat) ?_ ?_)))))))))))))))))))))))))))))))))))))))))))
  ·exact ⟨0, Nat.zero_le _, rfl, rfl, rfl, fun j hj => by omega, hC2, hC3, hA, hB, hx⟩
  rintro e w ⟨i, hi, h2, h3, h5, hsm, hC2, hC3, hA, hB, hx⟩
  have hm5 := h5
  refine W.seq (W.seq (W.region (WL.c rfl (o_mvh h5 (WL.c rfl (o_fa 0 TI34 rfl TI31 rfl h2 (WL.c rfl (o_ld TI31 rfl rfl (cell_of hC2 rfl) (WL.c rfl (o_lenR TI31 rfl hA.ty.row (WL.c rfl (o_lt rfl rfl (WL.nil (W.cond rfl (fun c30 => ?_) (fun c30 => ?_)))))))))))))))
  ·try simp only [cs8] at c30
   have hi1 : i < L1.length := by omega
   have hi2 : i < L2.length := by omega
   obtain ⟨ab, ao, ac, ha1, hac, hap⟩ := hA.ty.atk hi1
   obtain ⟨bb, bo, bc, hb1, hbc, hbp⟩ := hB.ty.atk hi2
   have hpa := hk1.pa _ (List.getElem_mem hi1)
   have hpb := hk2.pa _ (List.getElem_mem hi2)
   have hC2s := hC2
   rw [ha1] at hC2s
   have hC3s := hC3
   rw [hb1] at hC3s
   refine W.skip (W.seq (W.block (W.seq (W.region (WL.c rfl (o_fa 0 TI34 rfl TI31 rfl h2 (WL.c rfl (o_ld TI31 rfl rfl (cell_of hC2s rfl) (WL.c rfl (o_mvh h5 (WL.c rfl (o_ixB (i := i) TI31 TI50 (show _ = Value.slice (some ⟨ab, ao, none⟩) L1.length ac from rfl) (show _ = Value.int .i64 (i : Int) from rfl) (by omega) (WL.c rfl (o_ldA TI50 rfl rfl hac rfl (WL.c rfl (o_alB TI50 ?_))))))))))))))))
   intro wa hCa hxa hsa
   refine WL.u (o_stA TI50 rfl (show _ = Value.agg (tcell L1[i] (V1 i)).toArray from rfl) rfl (by simp only [tcell, List.toArray, Array.toList, List.all_cons, List.all_nil, sl_one1 hap]; rfl) hCa rfl ?_)
   intro wb6 hC6 hob hsb
   have hxb := Ext.own hxa (Nat.le_refl _) hob
   obtain ⟨b6, hb6⟩ : ∃ b, b = w.heap.size := ⟨_, rfl⟩
   rw [← hb6] at hC6 ⊢
   clear hCa hxa hsa hob hsb
   replace hx := hx.tr hxb
   replace hC2 := hxb.blk hC2 (fun h => h)
   replace hC3 := hxb.blk hC3 (fun h => h)
   replace hA := hA.ext hxb
   replace hB := hB.ext hxb
   replace hap := hap.ext hxb
   replace hbp := hbp.ext hxb
   replace hC3s := hxb.blk hC3s (fun h => h)
   replace hbc := Cells.only hbc hxb (fun h => h)
   clear hxb
   refine WL.nil (W.seq (W.region (WL.c rfl (o_fa 0 TI34 rfl TI31 rfl h3 (WL.c rfl (o_ld TI31 rfl rfl (cell_of hC3s rfl) (WL.c rfl (o_mvh h5 (WL.c rfl (o_ixB (i := i) TI31 TI50 (show _ = Value.slice (some ⟨bb, bo, none⟩) L2.length bc from rfl) (show _ = Value.int .i64 (i : Int) from rfl) (by omega) (WL.c rfl (o_ldA TI50 rfl rfl hbc rfl (WL.c rfl (o_alB TI50 ?_))))))))))))))
   intro wa hCa hxa hsa
   refine WL.u (o_stA TI50 rfl (show _ = Value.agg (tcell L2[i] (V2 i)).toArray from rfl) rfl (by simp only [tcell, List.toArray, Array.toList, List.all_cons, List.all_nil, sl_one1 hbp]; rfl) hCa rfl ?_)
   intro wb7 hC7 hob hsb
   have hxb := Ext.own hxa (Nat.le_refl _) hob
   obtain ⟨b7, hb7⟩ : ∃ b, b = wb6.heap.size := ⟨_, rfl⟩
   rw [← hb7] at hC7 ⊢
   clear hCa hxa hsa hob hsb
   replace hx := hx.tr hxb
   replace hC2 := hxb.blk hC2 (fun h => h)
   replace hC3 := hxb.blk hC3 (fun h => h)
   replace hA := hA.ext hxb
   replace hB := hB.ext hxb
   replace hap := hap.ext hxb
   replace hbp := hbp.ext hxb
   replace hC6 := hxb.blk hC6 (fun h => h)
   clear hxb
   refine WL.nil (W.seq (W.seq ?_))
   by_cases q1 : L1[i].kind = L2[i].kind
   by_cases q2 : L1[i].n = L2[i].n
   by_cases q3 : L1[i].elem = L2[i].elem
   by_cases q4 : L1[i].parts.length = L2[i].parts.length
   ·skip
    have hq := And.intro q1 (And.intro q2 (And.intro q3 q4))
    refine W.region (WL.c rfl (o_fa 0 TI50 rfl TI3 rfl rfl (WL.c rfl (o_ld TI3 rfl rfl (cell_of hC6 rfl) (WL.c rfl (o_fa 0 TI50 rfl TI3 rfl rfl (WL.c rfl (o_ld TI3 rfl rfl (cell_of hC7 rfl) (WL.c rfl (o_ne rfl rfl (WL.c rfl (o_mvh vB (WL.g rfl (by simp [q1]) rfl (o_fa 1 TI50 rfl TI3 rfl rfl (WL.g rfl (by simp [q1]) rfl (o_ld TI3 rfl rfl (cell_of hC6 rfl) (WL.g rfl (by simp [q1]) rfl (o_fa 1 TI50 rfl TI3 rfl rfl (WL.g rfl (by simp [q1]) rfl (o_ld TI3 rfl rfl (cell_of hC7 rfl) (WL.g rfl (by simp [q1]) rfl (o_ne rfl rfl (WL.c rfl (o_pickO rfl rfl (WL.c rfl (o_mvh vB (WL.g rfl (by simp [q1, q2]) rfl (o_fa 2 TI50 rfl TI3 rfl rfl (WL.g rfl (by simp [q1, q2]) rfl (o_ld TI3 rfl rfl (cell_of hC6 rfl) (WL.g rfl (by simp [q1, q2]) rfl (o_fa 2 TI50 rfl TI3 rfl rfl (WL.g rfl (by simp [q1, q2]) rfl (o_ld TI3 rfl rfl (cell_of hC7 rfl) (WL.g rfl (by simp [q1, q2]) rfl (o_ne rfl rfl (WL.c rfl (o_pickO rfl rfl (WL.c rfl (o_mvh vB (WL.g rfl (by simp [q1, q2, q3]) rfl (o_fa 3 TI50 rfl TI48 rfl rfl (WL.g rfl (by simp [q1, q2, q3]) rfl (o_ld TI48 rfl rfl (cell_of hC6 rfl) (WL.g rfl (by simp [q1, q2, q3]) rfl (o_lenR TI48 rfl hap (WL.g rfl (by simp [q1, q2, q3]) rfl (o_fa 3 TI50 rfl TI48 rfl rfl (WL.g rfl (by simp [q1, q2, q3]) rfl (o_ld TI48 rfl rfl (cell_of hC7 rfl) (WL.g rfl (by simp [q1, q2, q3]) rfl (o_lenR TI48 rfl hbp (WL.g rfl (by simp [q1, q2, q3]) rfl (o_ne rfl rfl (WL.c rfl (o_pickO rfl rfl (WL.nil (W.condF' rfl (by simp [q1, q2, q3, q4]) (W.skip (W.seq (W.region (WL.c rfl (o_ash vI (WL.nil (W.block (W.loop (fun e w => ∃ q : Nat, q ≤ L1[i].parts.length ∧ e 2 = .pointer (some ⟨b2, 0, none⟩) ∧ e 3 = .pointer (some ⟨b3, 0, none⟩) ∧ e 5 = .int .i64 (i : Int) ∧ e 6 = .pointer (some ⟨b6, 0, none⟩) ∧ e 7 = .pointer (some ⟨b7, 0, none⟩) ∧ e 8 = .int .i64 (q : Int) ∧ (∀ j, j < q → L1[i].parts[j]? = L2[i].parts[j]?) ∧ w.heap[b6]? = some (.cells (tcell L1[i] (V1 i)).toArray 50 (0, 0)) ∧ w.heap[b7]? = some (.cells (tcell L2[i] (V2 i)).toArray 50 (0, 0)) ∧ Sl w 3 (V1 i) L1[i].parts.length (pas L1[i].parts) ∧ Sl w 3 (V2 i) L2[i].parts.length (pas L2[i].parts) ∧ w.heap[b2]? = some (.cells #[tv1, rv1] 34 (0, 0)) ∧ w.heap[b3]? = some (.cells #[tv2, rv2] 34 (0, 0)) ∧ SchR w L1 R1 tv1 rv1 V1 ∧ SchR w L2 R2 tv2 rv2 V2 ∧ Ext w0 w) (fun e w => L1[i].parts.length - (intOf (e 8)).toNat) ?_ ?_))))))))))))))))))))))))))))))))))))))))))))))))))))))))))))))))))
    ·exact ⟨0, Nat.zero_le _, h2, h3, h5, rfl, rfl, rfl, fun j hj => by omega, hC6, hC7, hap, hbp, hC2, hC3, hA, hB, hx⟩
    rintro e w ⟨q, hqq, h2, h3, h5, h6, h7, h8, hsp, hC6, hC7, hap, hbp, hC2, hC3, hA, hB, hx⟩
    have hm8 := h8
    refine W.seq (W.seq (W.region (WL.c rfl (o_mvh h8 (WL.c rfl (o_fa 3 TI50 rfl TI48 rfl h6 (WL.c rfl (o_ld TI48 rfl rfl (cell_of hC6 rfl) (WL.c rfl (o_lenR TI48 rfl hap (WL.c rfl (o_lt rfl rfl (WL.nil (W.cond rfl (fun c75 => ?_) (fun c75 => ?_)))))))))))))))
    ·try simp only [cs8] at c75
     have hqa : q < L1[i].parts.length := by omega
     have hqb : q < L2[i].parts.length := by omega
     obtain ⟨pb, po, pc, hpv, hpc⟩ := Sl.paq hap hqa
     obtain ⟨rb, ro, rc, hrv, hrc⟩ := Sl.paq hbp hqb
     have hC6s := hC6
     rw [hpv] at hC6s
     have hC7s := hC7
     rw [hrv] at hC7s
     refine W.skip (W.seq (W.block (W.seq (W.quiet rfl (by kernel_rfl) (WQ.c rfl ((QO.o rfl fun _ => o_fa 3 TI50 rfl TI48 rfl h6 ⟨rfl, rfl⟩)) (WQ.c rfl ((QO.o rfl fun _ => o_ld TI48 rfl rfl (cell_of hC6s rfl) ⟨rfl, rfl⟩)) (WQ.c rfl ((QO.o rfl fun _ => o_mvh h8 ⟨rfl, rfl⟩)) (WQ.c rfl ((QO.o rfl fun _ => o_ixB (i := q) TI48 TI52 (show _ = Value.slice (some ⟨pb, po, none⟩) L1[i].parts.length pc from rfl) (show _ = Value.int .i64 (q : Int) from rfl) (by omega) ⟨rfl, rfl⟩)) (WQ.c rfl ((QO.o rfl fun _ => o_ldA TI52 rfl rfl hpc rfl ⟨rfl, rfl⟩)) (WQ.c rfl ((QO.o rfl fun _ => o_fa 3 TI50 rfl TI48 rfl h7 ⟨rfl, rfl⟩)) (WQ.c rfl ((QO.o rfl fun _ => o_ld TI48 rfl rfl (cell_of hC7s rfl) ⟨rfl, rfl⟩)) (WQ.c rfl ((QO.o rfl fun _ => o_mvh h8 ⟨rfl, rfl⟩)) (WQ.c rfl ((QO.o rfl fun _ => o_ixB (i := q) TI48 TI52 (show _ = Value.slice (some ⟨rb, ro, none⟩) L2[i].parts.length rc from rfl) (show _ = Value.int .i64 (q : Int) from rfl) (by omega) ⟨rfl, rfl⟩)) (WQ.c rfl ((QO.o rfl fun _ => o_ldA TI52 rfl rfl hrc rfl ⟨rfl, rfl⟩)) (WQ.c rfl ((QO.o rfl fun _ => o_neR TI52 (by kernel_rfl) (by kernel_rfl) rfl rfl (.str TI9 (by decide) rfl rfl (.int TI3 (by decide) rfl rfl (.int TI3 (by decide) rfl rfl .nil))) ⟨rfl, rfl⟩)) (WQ.nil ?_))))))))))))))))
     intro nq
     replace hx := hx.tr (Only.drewN w nq)
     replace hA := hA.ext (Only.drewN w nq)
     replace hB := hB.ext (Only.drewN w nq)
     replace hap := hap.ext (Only.drewN w nq)
     replace hbp := hbp.ext (Only.drewN w nq)
     refine W.cond rfl (fun c88 => ?_) (fun c88 => ?_)
     ·try simp only [cs8] at c88
      have hpe : ¬ L1[i].parts[q] = L2[i].parts[q] := fun e => by rw [e] at c88; simp at c88
      refine W.seq (W.region (WL.c rfl (o_ash vB (WL.nil (W.ret (ret1v rfl vB ?_))))))
      exact ⟨congrArg Value.bool (dec_no (fun h => hpe (by simp only [h.1]))), hx⟩
     try simp only [cs8] at c88
     have hpe : L1[i].parts[q] = L2[i].parts[q] := by
      have h : L1[i].parts[q].label = L2[i].parts[q].label ∧ L1[i].parts[q].tag = L2[i].parts[q].tag ∧ L1[i].parts[q].ty = L2[i].parts[q].ty := by simpa [paV_inj] using c88
      exact pa_eq.2 h
     refine W.skip (W.region (WL.c rfl (o_mvh h8 (WL.c rfl (o_addi rfl rfl (by omega) (WL.c rfl (o_ash vI (WL.nil (⟨⟨q + 1, by omega, h2, h3, h5, h6, h7, rfl, fun j hj => ?_, hC6, hC7, hap, hbp, hC2, hC3, hA, hB, hx⟩, ?_⟩)))))))))
     ·rcases Nat.lt_or_ge j q with h | h
      ·exact hsp j h
      rw [show j = q by omega, List.getElem?_eq_getElem hqa, List.getElem?_eq_getElem hqb, hpe]
     show L1[i].parts.length - ((q : Int) + 1).toNat < _
     rw [hm8]; simp [intOf]; omega
    try simp only [cs8] at c75
    have hqa : q = L1[i].parts.length := by omega
    rw [hqa] at hsp
    have hps := hsp
    refine W.exit (W.region (WL.c rfl (o_mvh h5 (WL.c rfl (o_addi rfl rfl (by omega) (WL.c rfl (o_ash vI (WL.nil (⟨⟨i + 1, by omega, h2, h3, rfl, fun j hj => ?_, hC2, hC3, hA, hB, hx⟩, ?_⟩)))))))))
    ·rcases Nat.lt_or_ge j i with h | h
     ·exact hsm j h
     rw [show j = i by omega, List.getElem?_eq_getElem hi1, List.getElem?_eq_getElem hi2, tp_eq.2 ⟨hq.1, hq.2.1, hq.2.2.1, all_eq hq.2.2.2 hps⟩]
    show L1.length - ((i : Int) + 1).toNat < _
    rw [hm5]; simp [intOf]; omega
   ·skip
    skip
    refine W.region (WL.c rfl (o_fa 0 TI50 rfl TI3 rfl rfl (WL.c rfl (o_ld TI3 rfl rfl (cell_of hC6 rfl) (WL.c rfl (o_fa 0 TI50 rfl TI3 rfl rfl (WL.c rfl (o_ld TI3 rfl rfl (cell_of hC7 rfl) (WL.c rfl (o_ne rfl rfl (WL.c rfl (o_mvh vB (WL.g rfl (by simp [q1]) rfl (o_fa 1 TI50 rfl TI3 rfl rfl (WL.g rfl (by simp [q1]) rfl (o_ld TI3 rfl rfl (cell_of hC6 rfl) (WL.g rfl (by simp [q1]) rfl (o_fa 1 TI50 rfl TI3 rfl rfl (WL.g rfl (by simp [q1]) rfl (o_ld TI3 rfl rfl (cell_of hC7 rfl) (WL.g rfl (by simp [q1]) rfl (o_ne rfl rfl (WL.c rfl (o_pickO rfl rfl (WL.c rfl (o_mvh vB (WL.g rfl (by simp [q1, q2]) rfl (o_fa 2 TI50 rfl TI3 rfl rfl (WL.g rfl (by simp [q1, q2]) rfl (o_ld TI3 rfl rfl (cell_of hC6 rfl) (WL.g rfl (by simp [q1, q2]) rfl (o_fa 2 TI50 rfl TI3 rfl rfl (WL.g rfl (by simp [q1, q2]) rfl (o_ld TI3 rfl rfl (cell_of hC7 rfl) (WL.g rfl (by simp [q1, q2]) rfl (o_ne rfl rfl (WL.c rfl (o_pickO rfl rfl (WL.c rfl (o_mvh vB (WL.g rfl (by simp [q1, q2, q3]) rfl (o_fa 3 TI50 rfl TI48 rfl rfl (WL.g rfl (by simp [q1, q2, q3]) rfl (o_ld TI48 rfl rfl (cell_of hC6 rfl) (WL.g rfl (by simp [q1, q2, q3]) rfl (o_lenR TI48 rfl hap (WL.g rfl (by simp [q1, q2, q3]) rfl (o_fa 3 TI50 rfl TI48 rfl rfl (WL.g rfl (by simp [q1, q2, q3]) rfl (o_ld TI48 rfl rfl (cell_of hC7 rfl) (WL.g rfl (by simp [q1, q2, q3]) rfl (o_lenR TI48 rfl hbp (WL.g rfl (by simp [q1, q2, q3]) rfl (o_ne rfl rfl (WL.c rfl (o_pickO rfl rfl (WL.nil (W.condT' rfl (by simp [q1, q2, q3] <;> omega) (W.seq (W.region (WL.c rfl (o_ash vB (WL.nil (W.ret (ret1v rfl vB ?_)))))))))))))))))))))))))))))))))))))))))))))))))))))))))))))))))
    exact ⟨congrArg Value.bool (dec_no (fun h => q4 (by simp only [h.1]))), hx⟩
   ·skip
    skip
    refine W.region (WL.c rfl (o_fa 0 TI50 rfl TI3 rfl rfl (WL.c rfl (o_ld TI3 rfl rfl (cell_of hC6 rfl) (WL.c rfl (o_fa 0 TI50 rfl TI3 rfl rfl (WL.c rfl (o_ld TI3 rfl rfl (cell_of hC7 rfl) (WL.c rfl (o_ne rfl rfl (WL.c rfl (o_mvh vB (WL.g rfl (by simp [q1]) rfl (o_fa 1 TI50 rfl TI3 rfl rfl (WL.g rfl (by simp [q1]) rfl (o_ld TI3 rfl rfl (cell_of hC6 rfl) (WL.g rfl (by simp [q1]) rfl (o_fa 1 TI50 rfl TI3 rfl rfl (WL.g rfl (by simp [q1]) rfl (o_ld TI3 rfl rfl (cell_of hC7 rfl) (WL.g rfl (by simp [q1]) rfl (o_ne rfl rfl (WL.c rfl (o_pickO rfl rfl (WL.c rfl (o_mvh vB (WL.g rfl (by simp [q1, q2]) rfl (o_fa 2 TI50 rfl TI3 rfl rfl (WL.g rfl (by simp [q1, q2]) rfl (o_ld TI3 rfl rfl (cell_of hC6 rfl) (WL.g rfl (by simp [q1, q2]) rfl (o_fa 2 TI50 rfl TI3 rfl rfl (WL.g rfl (by simp [q1, q2]) rfl (o_ld TI3 rfl rfl (cell_of hC7 rfl) (WL.g rfl (by simp [q1, q2]) rfl (o_ne rfl rfl (WL.c rfl (o_pickO rfl rfl (WL.c rfl (o_mvh vB (WL.s rfl (by simp [q1, q2, q3]) rfl (WL.s rfl (by simp [q1, q2, q3]) rfl (WL.s rfl (by simp [q1, q2, q3]) rfl (WL.s rfl (by simp [q1, q2, q3]) rfl (WL.s rfl (by simp [q1, q2, q3]) rfl (WL.s rfl (by simp [q1, q2, q3]) rfl (WL.s rfl (by simp [q1, q2, q3]) rfl (WL.c rfl (o_pickT rfl (by simp [q1, q2, q3]) (WL.nil (W.condT' rfl (rfl) (W.seq (W.region (WL.c rfl (o_ash vB (WL.nil (W.ret (ret1v rfl vB ?_))))))))))))))))))))))))))))))))))))))))))))))))))))))))))
    exact ⟨congrArg Value.bool (dec_no (fun h => q3 (by simp only [h.1]))), hx⟩
   ·skip
    skip
    refine W.region (WL.c rfl (o_fa 0 TI50 rfl TI3 rfl rfl (WL.c rfl (o_ld TI3 rfl rfl (cell_of hC6 rfl) (WL.c rfl (o_fa 0 TI50 rfl TI3 rfl rfl (WL.c rfl (o_ld TI3 rfl rfl (cell_of hC7 rfl) (WL.c rfl (o_ne rfl rfl (WL.c rfl (o_mvh vB (WL.g rfl (by simp [q1]) rfl (o_fa 1 TI50 rfl TI3 rfl rfl (WL.g rfl (by simp [q1]) rfl (o_ld TI3 rfl rfl (cell_of hC6 rfl) (WL.g rfl (by simp [q1]) rfl (o_fa 1 TI50 rfl TI3 rfl rfl (WL.g rfl (by simp [q1]) rfl (o_ld TI3 rfl rfl (cell_of hC7 rfl) (WL.g rfl (by simp [q1]) rfl (o_ne rfl rfl (WL.c rfl (o_pickO rfl rfl (WL.c rfl (o_mvh vB (WL.s rfl (by simp [q1, q2]) rfl (WL.s rfl (by simp [q1, q2]) rfl (WL.s rfl (by simp [q1, q2]) rfl (WL.s rfl (by simp [q1, q2]) rfl (WL.s rfl (by simp [q1, q2]) rfl (WL.c rfl (o_pickT rfl (by simp [q1, q2]) (WL.c rfl (o_mvh vB (WL.s rfl (rfl) rfl (WL.s rfl (rfl) rfl (WL.s rfl (rfl) rfl (WL.s rfl (rfl) rfl (WL.s rfl (rfl) rfl (WL.s rfl (rfl) rfl (WL.s rfl (rfl) rfl (WL.c rfl (o_pickT rfl (rfl) (WL.nil (W.condT' rfl (rfl) (W.seq (W.region (WL.c rfl (o_ash vB (WL.nil (W.ret (ret1v rfl vB ?_)))))))))))))))))))))))))))))))))))))))))))))))))))))
    exact ⟨congrArg Value.bool (dec_no (fun h => q2 (by simp only [h.1]))), hx⟩
   skip
   skip
   refine W.region (WL.c rfl (o_fa 0 TI50 rfl TI3 rfl rfl (WL.c rfl (o_ld TI3 rfl rfl (cell_of hC6 rfl) (WL.c rfl (o_fa 0 TI50 rfl TI3 rfl rfl (WL.c rfl (o_ld TI3 rfl rfl (cell_of hC7 rfl) (WL.c rfl (o_ne rfl rfl (WL.c rfl (o_mvh vB (WL.s rfl (by simp [q1]) rfl (WL.s rfl (by simp [q1]) rfl (WL.s rfl (by simp [q1]) rfl (WL.s rfl (by simp [q1]) rfl (WL.s rfl (by simp [q1]) rfl (WL.c rfl (o_pickT rfl (by simp [q1]) (WL.c rfl (o_mvh vB (WL.s rfl (rfl) rfl (WL.s rfl (rfl) rfl (WL.s rfl (rfl) rfl (WL.s rfl (rfl) rfl (WL.s rfl (rfl) rfl (WL.c rfl (o_pickT rfl (rfl) (WL.c rfl (o_mvh vB (WL.s rfl (rfl) rfl (WL.s rfl (rfl) rfl (WL.s rfl (rfl) rfl (WL.s rfl (rfl) rfl (WL.s rfl (rfl) rfl (WL.s rfl (rfl) rfl (WL.s rfl (rfl) rfl (WL.c rfl (o_pickT rfl (rfl) (WL.nil (W.condT' rfl (rfl) (W.seq (W.region (WL.c rfl (o_ash vB (WL.nil (W.ret (ret1v rfl vB ?_))))))))))))))))))))))))))))))))))))))))))))))))
   exact ⟨congrArg Value.bool (dec_no (fun h => q1 (by simp only [h.1]))), hx⟩
  try simp only [cs8] at c30
  have hi1 : i = L1.length := by omega
  rw [hi1] at hsm
  have hLL : L1 = L2 := all_eq e1 hsm
  refine W.exit (W.seq (W.seq (W.region (WL.c rfl (o_ash vI (WL.nil (W.block (W.loop (fun e w => ∃ k : Nat, k ≤ R1.length ∧ e 2 = .pointer (some ⟨b2, 0, none⟩) ∧ e 3 = .pointer (some ⟨b3, 0, none⟩) ∧ e 9 = .int .i64 (k : Int) ∧ (∀ j, j < k → R1[j]? = R2[j]?) ∧ w.heap[b2]? = some (.cells #[tv1, rv1] 34 (0, 0)) ∧ w.heap[b3]? = some (.cells #[tv2, rv2] 34 (0, 0)) ∧ SchR w L1 R1 tv1 rv1 V1 ∧ SchR w L2 R2 tv2 rv2 V2 ∧ Ext w0 w) (fun e w => R1.length - (intOf (e 9)).toNat) ?_ ?_))))))))
  ·exact ⟨0, Nat.zero_le _, h2, h3, rfl, fun j hj => by omega, hC2, hC3, hA, hB, hx⟩
  rintro e w ⟨k, hk, h2, h3, h9, hsr, hC2, hC3, hA, hB, hx⟩
  have hm9 := h9
  refine W.seq (W.seq (W.region (WL.c rfl (o_mvh h9 (WL.c rfl (o_fa 1 TI34 rfl TI32 rfl h2 (WL.c rfl (o_ld TI32 rfl rfl (cell_of hC2 rfl) (WL.c rfl (o_lenR TI32 rfl hA.ro (WL.c rfl (o_lt rfl rfl (WL.nil (W.cond rfl (fun c93 => ?_) (fun c93 => ?_)))))))))))))))
  ·try simp only [cs8] at c93
   have hka : k < R1.length := by omega
   have hkb : k < R2.length := by omega
   obtain ⟨pb, po, pc, hpv, hpc⟩ := Sl.roq hA.ro hka
   obtain ⟨rb, ro, rc, hrv, hrc⟩ := Sl.roq hB.ro hkb
   have hC2s := hC2
   rw [hpv] at hC2s
   have hC3s := hC3
   rw [hrv] at hC3s
   refine W.skip (W.seq (W.block (W.seq (W.quiet rfl (by kernel_rfl) (WQ.c rfl ((QO.o rfl fun _ => o_fa 1 TI34 rfl TI32 rfl h2 ⟨rfl, rfl⟩)) (WQ.c rfl ((QO.o rfl fun _ => o_ld TI32 rfl rfl (cell_of hC2s rfl) ⟨rfl, rfl⟩)) (WQ.c rfl ((QO.o rfl fun _ => o_mvh h9 ⟨rfl, rfl⟩)) (WQ.c rfl ((QO.o rfl fun _ => o_ixB (i := k) TI32 TI47 (show _ = Value.slice (some ⟨pb, po, none⟩) R1.length pc from rfl) (show _ = Value.int .i64 (k : Int) from rfl) (by omega) ⟨rfl, rfl⟩)) (WQ.c rfl ((QO.o rfl fun _ => o_ldA TI47 rfl rfl hpc rfl ⟨rfl, rfl⟩)) (WQ.c rfl ((QO.o rfl fun _ => o_fa 1 TI34 rfl TI32 rfl h3 ⟨rfl, rfl⟩)) (WQ.c rfl ((QO.o rfl fun _ => o_ld TI32 rfl rfl (cell_of hC3s rfl) ⟨rfl, rfl⟩)) (WQ.c rfl ((QO.o rfl fun _ => o_mvh h9 ⟨rfl, rfl⟩)) (WQ.c rfl ((QO.o rfl fun _ => o_ixB (i := k) TI32 TI47 (show _ = Value.slice (some ⟨rb, ro, none⟩) R2.length rc from rfl) (show _ = Value.int .i64 (k : Int) from rfl) (by omega) ⟨rfl, rfl⟩)) (WQ.c rfl ((QO.o rfl fun _ => o_ldA TI47 rfl rfl hrc rfl ⟨rfl, rfl⟩)) (WQ.c rfl ((QO.o rfl fun _ => o_neR TI47 (by kernel_rfl) (by kernel_rfl) rfl rfl (.str TI9 (by decide) rfl rfl (.int TI3 (by decide) rfl rfl .nil)) ⟨rfl, rfl⟩)) (WQ.nil ?_))))))))))))))))
   intro nq
   replace hx := hx.tr (Only.drewN w nq)
   replace hA := hA.ext (Only.drewN w nq)
   replace hB := hB.ext (Only.drewN w nq)
   refine W.cond rfl (fun c106 => ?_) (fun c106 => ?_)
   ·try simp only [cs8] at c106
    have hre : ¬ R1[k] = R2[k] := fun e => by rw [e] at c106; simp at c106
    refine W.seq (W.region (WL.c rfl (o_ash vB (WL.nil (W.ret (ret1v rfl vB ?_))))))
    exact ⟨congrArg Value.bool (dec_no (fun h => hre (by simp only [h.2]))), hx⟩
   try simp only [cs8] at c106
   have hre : R1[k] = R2[k] := by
    have h : R1[k].name = R2[k].name ∧ R1[k].ty = R2[k].ty := by simpa [roV_inj] using c106
    exact ro_eq.2 h
   refine W.skip (W.region (WL.c rfl (o_mvh h9 (WL.c rfl (o_addi rfl rfl (by omega) (WL.c rfl (o_ash vI (WL.nil (⟨⟨k + 1, by omega, h2, h3, rfl, fun j hj => ?_, hC2, hC3, hA, hB, hx⟩, ?_⟩)))))))))
   ·rcases Nat.lt_or_ge j k with h | h
    ·exact hsr j h
    rw [show j = k by omega, List.getElem?_eq_getElem hka, List.getElem?_eq_getElem hkb, hre]
   show R1.length - ((k : Int) + 1).toNat < _
   rw [hm9]; simp [intOf]; omega
  try simp only [cs8] at c93
  have hka : k = R1.length := by omega
  rw [hka] at hsr
  have hRR : R1 = R2 := all_eq e2 hsr
  refine W.exit (W.seq (W.region (WL.c rfl (o_ash vB (WL.nil (W.ret (ret1v rfl vB ?_)))))))
  exact ⟨congrArg Value.bool (decide_eq_true ⟨hLL, hRR⟩).symm, hx⟩
 ·skip
  skip
  refine W.region (WL.c rfl (o_fa 0 TI34 rfl TI31 rfl rfl (WL.c rfl (o_ld TI31 rfl rfl (cell_of hC2 rfl) (WL.c rfl (o_lenR TI31 rfl hA.ty.row (WL.c rfl (o_fa 0 TI34 rfl TI31 rfl rfl (WL.c rfl (o_ld TI31 rfl rfl (cell_of hC3 rfl) (WL.c rfl (o_lenR TI31 rfl hB.ty.row (WL.c rfl (o_ne rfl rfl (WL.c rfl (o_mvh vB (WL.g rfl (by simp [e1]) rfl (o_fa 1 TI34 rfl TI32 rfl rfl (WL.g rfl (by simp [e1]) rfl (o_ld TI32 rfl rfl (cell_of hC2 rfl) (WL.g rfl (by simp [e1]) rfl (o_lenR TI32 rfl hA.ro (WL.g rfl (by simp [e1]) rfl (o_fa 1 TI34 rfl TI32 rfl rfl (WL.g rfl (by simp [e1]) rfl (o_ld TI32 rfl rfl (cell_of hC3 rfl) (WL.g rfl (by simp [e1]) rfl (o_lenR TI32 rfl hB.ro (WL.g rfl (by simp [e1]) rfl (o_ne rfl rfl (WL.c rfl (o_pickO rfl rfl (WL.nil (W.condT' rfl (by simp [e1]; omega) (W.seq (W.region (WL.c rfl (o_ash vB (WL.nil (W.ret (ret1v rfl vB ?_)))))))))))))))))))))))))))))))))))))))))
  exact ⟨congrArg Value.bool (dec_no (fun h => e2 (by rw [h.2]))), hx⟩
 skip
 skip
 refine W.region (WL.c rfl (o_fa 0 TI34 rfl TI31 rfl rfl (WL.c rfl (o_ld TI31 rfl rfl (cell_of hC2 rfl) (WL.c rfl (o_lenR TI31 rfl hA.ty.row (WL.c rfl (o_fa 0 TI34 rfl TI31 rfl rfl (WL.c rfl (o_ld TI31 rfl rfl (cell_of hC3 rfl) (WL.c rfl (o_lenR TI31 rfl hB.ty.row (WL.c rfl (o_ne rfl rfl (WL.c rfl (o_mvh vB (WL.s rfl (by simp <;> omega) rfl (WL.s rfl (by simp <;> omega) rfl (WL.s rfl (by simp <;> omega) rfl (WL.s rfl (by simp <;> omega) rfl (WL.s rfl (by simp <;> omega) rfl (WL.s rfl (by simp <;> omega) rfl (WL.s rfl (by simp <;> omega) rfl (WL.c rfl (o_pickT rfl (by simp <;> omega) (WL.nil (W.condT' rfl (rfl) (W.seq (W.region (WL.c rfl (o_ash vB (WL.nil (W.ret (ret1v rfl vB ?_))))))))))))))))))))))))))))))))))
 exact ⟨congrArg Value.bool (dec_no (fun h => e1 (by rw [h.1]))), hx⟩
end Go.Proofs.Ytpbflfgigfdohaa

namespace Go.Proofs.Ytpbflfgigfdohaa
open Go Go.Vc Go.RowKit Go.Proofs

/-- at a node: what lies behind it -/
def SBh9 (t : Tr) : Prop := ∀ (L rest : List Ex) (v : Value) (at_ : Nat) (a : Int) (d : Nat) (w0 : World), t.wf a d → L.drop at_ = t.flat ++ rest → Sl w0 7 v L.length (exs L) → L.length * 72 ≤ 140737488351232 →
 Ca Try.prog 69 #[v, .int .i64 (at_ : Int)] w0 (fun u w' => u = .int .i64 ((at_ + t.flat.length : Nat) : Int) ∧ Ext w0 w')

set_option maxHeartbeats 1000000 in
theorem behind9_step (y : Ex) (ks : Trs) (IH : ∀ t : Tr, t.flat.length < (Tr.node y ks).flat.length → SBh9 t) (L rest : List Ex) (v : Value) (at_ : Nat) (a : Int) (d : Nat) (w0 : World) (hw : (Tr.node y ks).wf a d) (hL : L.drop at_ = (Tr.node y ks).flat ++ rest) (hS : Sl w0 7 v L.length (exs L)) (hLl : L.length * 72 ≤ 140737488351232) : Ca Try.prog 69 #[v, .int .i64 (at_ : Int)] w0 (fun u w' => u = .int .i64 ((at_ + (Tr.node y ks).flat.length : Nat) : Int) ∧ Ext w0 w') := by
 have hx : Ext w0 w0 := Only.refl _ _
 obtain ⟨hat, hya, hL1⟩ := drop_at (show L.drop at_ = y :: (ks.flat ++ rest) from hL)
 obtain ⟨ub, uo, uc, rfl, huc⟩ := Sl.exq hS hat
 clear huc
 have hkk : y.kids = (ks.len : Int) := hw.2.2.2.1.symm
 have hksl : ks.flat.length ≤ L.length := by have h1 := congrArg List.length hL1; simp at h1; omega
 have hlk := trs_len_le ks
 have hfl : (Tr.node y ks).flat.length = ks.flat.length + 1 := rfl
 refine Ca.of Try.func69 Try.ntmps69 rfl rfl (W.seq (W.region (WL.c rfl (o_ash vI (WL.nil (W.seq (W.region (WL.c rfl (o_mvh vI (WL.c rfl (o_addi rfl rfl (by omega) (WL.c rfl (o_ash vI (WL.nil (W.seq (W.seq (W.region (WL.c rfl (o_ash vI (WL.nil (W.block (W.loop (fun e w => ∃ (k next : Nat) (ts : Trs), ks.len = k + ts.len ∧ e 0 = (Value.slice (some ⟨ub, uo, none⟩) L.length uc) ∧ e 1 = .int .i64 (at_ : Int) ∧ e 5 = .int .i64 (next : Int) ∧ e 6 = .int .i64 (k : Int) ∧ Sl w 7 (Value.slice (some ⟨ub, uo, none⟩) L.length uc) L.length (exs L) ∧ ts.wf y.kind (d + 1) ∧ L.drop next = ts.flat ++ rest ∧ next + ts.flat.length = at_ + 1 + ks.flat.length ∧ ts.flat.length ≤ ks.flat.length ∧ Ext w0 w) (fun e w => ks.len - (intOf (e 6)).toNat) ?_ ?_))))))))))))))))))))))
 ·exact ⟨0, at_ + 1, ks, by omega, rfl, rfl, rfl, rfl, hS, hw.2.2.2.2, hL1, rfl, Nat.le_refl _, hx⟩
 rintro e w ⟨k, next, ts, hks, h0, h1, h5, h6, hS, hwt, hLn, hnx, htl, hx⟩
 have hm6 := h6
 have huc := Sl.exw hS hat
 rw [hya] at huc
 have hcK : w.cell? ⟨ub, uo + at_ * 7 + 5, none⟩ = some (.int .i64 (ks.len : Int)) := by rw [← hkk]; exact huc 5 _ rfl
 refine W.seq (W.seq (W.region (WL.c rfl (o_mvh h6 (WL.c rfl (o_mvh h0 (WL.c rfl (o_mvh h1 (WL.c rfl (o_ixB TI37 TI41 rfl rfl (by omega) (WL.c rfl (o_fa 5 TI41 rfl TI3 rfl rfl (WL.c rfl (o_ld TI3 rfl rfl hcK (WL.c rfl (o_lt rfl rfl (WL.nil (W.cond rfl (fun c15 => ?_) (fun c15 => ?_)))))))))))))))))))
 ·try simp only [cs8] at c15
  have hk1 : k < ks.len := by omega
  obtain ⟨t, ts2, rfl⟩ := Trs.split hks hk1
  simp only [Trs.len] at hks
  have hfl2 : (Trs.cons t ts2).flat.length = t.flat.length + ts2.flat.length := by simp [Trs.flat]
  have htp := tr_pos t
  rw [hfl2] at hnx htl
  have hdr : L.drop next = t.flat ++ (ts2.flat ++ rest) := by rw [hLn]; simp [Trs.flat]
  have hdr2 : L.drop (next + t.flat.length) = ts2.flat ++ rest := by rw [← List.drop_drop, hdr, List.drop_left]
  refine W.skip (W.seq (W.block (W.region (WL.c rfl (o_mvh h0 (WL.c rfl (o_mvh h5 (WL.c rfl (o_call Try.call69 (lc rfl (lc rfl ln)) ((IH t (by rw [hfl]; omega) L (ts2.flat ++ rest) (Value.slice (some ⟨ub, uo, none⟩) L.length uc) next _ _ _ hwt.1 hdr hS hLl).mono ?_))))))))))
  rintro v20 w20 ⟨rfl, hx20⟩
  replace hx := hx.tr hx20
  replace hS := hS.ext hx20
  refine WL.c rfl (o_ash vI (WL.nil (W.region (WL.c rfl (o_mvh h6 (WL.c rfl (o_addi rfl rfl (by omega) (WL.c rfl (o_ash vI (WL.nil (⟨⟨k + 1, next + t.flat.length, ts2, by omega, h0, h1, rfl, rfl, hS, hwt.2, hdr2, by omega, by omega, hx⟩, ?_⟩)))))))))))
  show ks.len - ((k : Int) + 1).toNat < _
  rw [hm6]; simp [intOf]; omega
 try simp only [cs8] at c15
 have hk1 : k = ks.len := by omega
 have hnil := Trs.none hks hk1
 subst hnil
 refine W.exit (W.seq (W.region (WL.c rfl (o_mvh h5 (WL.c rfl (o_ash vI (WL.nil (W.ret (ret1v rfl vI ?_)))))))))
 exact ⟨congrArg (Value.int .i64) (by rw [hfl]; simp [Trs.flat] at hnx; omega), hx⟩

theorem behind9_all : ∀ (m : Nat) (t : Tr), t.flat.length ≤ m → SBh9 t
 | 0, .node y ks, h => by simp [Tr.flat] at h
 | m + 1, .node y ks, h => fun L rest v at_ a d w0 h1 h2 h3 h4 => behind9_step y ks (fun t ht => behind9_all m t (by omega)) L rest v at_ a d w0 h1 h2 h3 h4

end Go.Proofs.Ytpbflfgigfdohaa

namespace Go.Vc
open Go Go.RowKit Go.Maps Go.ChangeMaps
/-- block b of w is a map of just m entries in which g stands -/
def MapN (P : Program) (k e : TypeId) {α : Type} (en : α → Lit) (w : World) (b m : Nat) (g : α → Option Int) : Prop :=
 ∃ D : DataW Unit, w.ownsMap P k (plainElem P e) b m D ∧ Maps.size D = m ∧ ∀ a, Maps.has D (en a) = (g a).isSome ∧ ∀ v, g a = some v → D.atKey (en a) (.lit (.int .i64 0)) = .lit (.int .i64 v)
section
variable {P : Program} {e : Env} {w : World} {K : Value → World → Prop} {ty : TypeId} {α : Type} {en : α → Lit} {t kt et : TypeId} {b m : Nat} {g : α → Option Int}
theorem MapN.is (h : MapN P kt et en w b m g) : MapIs P kt et en w b m g := by obtain ⟨D, h1, -, h2⟩ := h; exact ⟨D, h1, h2⟩
theorem MapN.made (P : Program) (kt et : TypeId) (en : α → Lit) (w : World) : MapN P kt et en (w.alloc (.map #[] 0)) w.heap.size 0 (fun _ => none) :=
 ⟨_, World.ownsMap_made w P kt _, rfl, fun a => ⟨rfl, fun v h => by cases h⟩⟩
theorem MapN.lt (h : MapN P kt et en w b m g) : b < w.heap.size := h.is.lt
theorem MapN.only {w' : World} {F : Nat → Prop} (h : MapN P kt et en w b m g) (ho : Only F w w') (hn : ¬ F b) : MapN P kt et en w' b m g := by
 obtain ⟨D, h, hs, r⟩ := h
 have hlt := h.lt
 obtain ⟨es, clock, hb, Ft, hz, hD⟩ := h
 exact ⟨D, ⟨es, clock, (ho.block b hlt hn).trans hb, Ft, hz, hD⟩, hs, r⟩
theorem MapN.ext {w' : World} (h : MapN P kt et en w b m g) (ho : Only No w w') : MapN P kt et en w' b m g := h.only ho (fun h => h)
theorem ownsMap_exact {k : TypeId} {R : Value → Option (DataW Unit × List MemPlace)} {n : Nat} {D : DataW Unit} (h : w.ownsMap P k R b n D) : w.ownsMap P k R b (Maps.size D) D := by
 obtain ⟨es, clock, hb, F, hs, rfl⟩ := h
 exact ⟨es, clock, hb, F, by simp [Maps.size, length_sorted], rfl⟩
/-- 'len(m)' -/
theorem o_lenM {x : Operand} (ht : P.underlying t = some (.map kt et)) (hx : ev e x = .map (some b)) (hM : MapN P kt et en w b m g) (k : K (.int .i64 (m : Int)) w) : OP P e (.call ⟨.builtin .len, #[x], #[t]⟩) ty w K := by
 obtain ⟨D, hown, hs, -⟩ := hM
 have h := hown.len ht ty
 rw [hs] at h
 exact OP.of (by simp [execOp, resolve, invoke, builtin, hx, h]) k
/-- 'm[k] = v' -/
theorem o_muN [DecidableEq α] {x y z : Operand} {key : Value} {a : α} {v : Int} (hen : ∀ a b, en a = en b → a = b) (hT : MTy P t kt et) (hx : ev e x = .map (some b)) (hM : MapN P kt et en w b m g) (hy : ev e y = key) (hkl : keyOf P kt key = some (en a))
  (hv : ev e z = .int .i64 v) (hw : (Lit.int .i64 v).wf = true) (hn : m < maxLen)
  (kk : ∀ w', MapN P kt et en w' b (if (g a).isSome then m else m + 1) (fun c => if c = a then some v else g c) → Only (fun k => k = b) w w' → w'.heap.size = w.heap.size → K undef w') : OP P e (.mapUpdate t x y z) ty w K := by
 obtain ⟨D, hown, hs, hD⟩ := hM
 obtain ⟨w', hrun, hown', es, clock, es', clock', hb, hw'⟩ := hown.store hT.kd hT.ht hn hkl (plainElem_int hT.he hw)
 have hsz := Maps.size_put (k := en a) (hown.tidy hT.kd) (.lit (.int .i64 v))
 rw [hs, (hD a).1] at hsz
 refine OP.ofS (w' := w') (by simp [execOp, hx, hy, hv, hrun]) (kk w' ⟨_, by rw [← hsz]; exact ownsMap_exact hown', hsz, fun c => ?_⟩ ?_ ?_)
 ·have hK := hT.kd.key hkl
  by_cases hc : c = a
  ·subst hc
   simp only [if_true]
   rw [has_put_same hown.isMap hK]
   refine ⟨rfl, fun u hu => ?_⟩
   cases hu
   exact atKey_put_same hown.isMap hK _ _
  have hne : en c ≠ en a := fun h => hc (hen _ _ h)
  simp only [if_neg hc]
  rw [has_put_other hne]
  refine ⟨(hD c).1, fun u hu => ?_⟩
  rw [atKey_put_other hne]
  exact (hD c).2 u hu
 ·subst hw'
  exact ⟨rfl, rfl, rfl, by simp [setBlock], fun k _ hk => heap_setBlock_other hb _ (fun e => hk e)⟩
 subst hw'
 simp [setBlock]
end
end Go.Vc

namespace Go.Proofs.Ytpbflfgigfdohaa
open Go Go.Vc Go.RowKit Go.Proofs

open Classical in
noncomputable def partsB (t : Tp) (at_ most : Int) : Bool := decide (1 ≤ t.parts.length ∧ (t.parts.length : Int) ≤ most ∧ ∀ k, k < t.parts.length → paOk t at_ k)
theorem partsB_no {t : Tp} {at_ most : Int} {q : Nat} (hq : q < t.parts.length) (h : ¬ paOk t at_ q) : partsB t at_ most = false := by
 unfold partsB
 simp only [decide_eq_false_iff_not]
 exact fun hh => h (hh.2.2 q hq)
theorem partsB_len {t : Tp} {at_ most : Int} (h : ¬ (1 ≤ t.parts.length ∧ (t.parts.length : Int) ≤ most)) : partsB t at_ most = false := by
 unfold partsB
 simp only [decide_eq_false_iff_not]
 exact fun hh => h ⟨hh.1, hh.2.1⟩
theorem partsB_yes {t : Tp} {at_ most : Int} (h : 1 ≤ t.parts.length ∧ (t.parts.length : Int) ≤ most) (hk : ∀ k, k < t.parts.length → paOk t at_ k) : partsB t at_ most = true := by
 unfold partsB
 simp only [decide_eq_true_eq]
 exact ⟨h.1, h.2, hk⟩
def lbW (t : Tp) (p : Pa) : List UInt8 := if t.kind = 8 then p.label else []
def tgW (t : Tp) (p : Pa) : Int := if t.kind = 8 then 0 else p.tag
/-- the parts ahead of the k'th, in maps -/
structure PMap (t : Tp) (k nl nt : Nat) (gl : List UInt8 → Option Int) (gt : Int → Option Int) : Prop where
 lab : t.kind = 8 → nt = 0 ∧ ∀ s, (gl s).isSome = (t.parts.take k).any (fun z => decide (z.label = s))
 tag : ¬ t.kind = 8 → nl = 0 ∧ ∀ z, (gt z).isSome = (t.parts.take k).any (fun p => decide (p.tag = z))
 le : nl ≤ k ∧ nt ≤ k
theorem PMap.zero (t : Tp) : PMap t 0 0 0 (fun _ => none) (fun _ => none) := ⟨fun _ => ⟨rfl, fun _ => rfl⟩, fun _ => ⟨rfl, fun _ => rfl⟩, Nat.le_refl _, Nat.le_refl _⟩
theorem any_take {α : Type} {l : List α} {k : Nat} (hk : k ≤ l.length) (f : α → Bool) : (l.take k).any f = true ↔ ∃ j, ∃ hj : j < k, f (l[j]'(by omega)) = true := by
 rw [List.any_eq_true]
 constructor
 ·rintro ⟨x, hx, hf⟩
  obtain ⟨j, hj, rfl⟩ := List.getElem_of_mem hx
  simp only [List.length_take] at hj
  exact ⟨j, by omega, by simpa using hf⟩
 rintro ⟨j, hj, hf⟩
 exact ⟨_, List.mem_take_iff_getElem.2 ⟨j, by omega, rfl⟩, hf⟩
theorem any_snoc {α : Type} {l : List α} {k : Nat} (hk : k < l.length) (f : α → Bool) : (l.take (k + 1)).any f = ((l.take k).any f || f l[k]) := by
 rw [List.take_succ_eq_append_getElem hk, List.any_append]; simp
theorem PMap.step8 {t : Tp} {q nl nt : Nat} {gl : List UInt8 → Option Int} {gt : Int → Option Int} (h : PMap t q nl nt gl gt) (hq : q < t.parts.length) (h8 : t.kind = 8) (hs : nl + nt = q) (v : Int) :
  PMap t (q + 1) (if (gl t.parts[q].label).isSome = true then nl else nl + 1) nt (fun c => if c = t.parts[q].label then some v else gl c) gt ∧
  ((if (gl t.parts[q].label).isSome = true then nl else nl + 1) + nt = q + 1 ↔ ∀ j (hj : j < q), ¬ (lbW t t.parts[j] = lbW t t.parts[q] ∧ tgW t t.parts[j] = tgW t t.parts[q])) := by
 obtain ⟨h0, hl⟩ := h.lab h8
 have hle := h.le
 refine ⟨⟨fun _ => ⟨h0, fun s => ?_⟩, fun hn => absurd h8 hn, ?_⟩, ?_⟩
 ·rw [any_snoc hq, ← hl s]
  by_cases e : s = t.parts[q].label
  ·simp [e]
  have e2 : ¬ t.parts[q].label = s := fun h => e h.symm
  simp [e, e2]
 ·split <;> omega
 have hseen := hl t.parts[q].label
 have hb : (gl t.parts[q].label).isSome = true ↔ ∃ j, ∃ hj : j < q, (t.parts[j]'(by omega)).label = t.parts[q].label := by
  rw [hseen, any_take (by omega)]; simp
 simp only [lbW, tgW, if_pos h8, and_true]
 by_cases hc : (gl t.parts[q].label).isSome = true
 ·rw [if_pos hc]
  refine ⟨fun e => by omega, fun hh => ?_⟩
  obtain ⟨j, hj, e⟩ := hb.1 hc
  exact absurd e (hh j hj)
 rw [if_neg hc]
 exact ⟨fun _ j hj e => hc (hb.2 ⟨j, hj, e⟩), fun _ => by omega⟩
theorem PMap.stepT {t : Tp} {q nl nt : Nat} {gl : List UInt8 → Option Int} {gt : Int → Option Int} (h : PMap t q nl nt gl gt) (hq : q < t.parts.length) (h8 : ¬ t.kind = 8) (hs : nl + nt = q) (v : Int) :
  PMap t (q + 1) nl (if (gt t.parts[q].tag).isSome = true then nt else nt + 1) gl (fun c => if c = t.parts[q].tag then some v else gt c) ∧
  (nl + (if (gt t.parts[q].tag).isSome = true then nt else nt + 1) = q + 1 ↔ ∀ j (hj : j < q), ¬ (lbW t t.parts[j] = lbW t t.parts[q] ∧ tgW t t.parts[j] = tgW t t.parts[q])) := by
 obtain ⟨h0, hl⟩ := h.tag h8
 have hle := h.le
 refine ⟨⟨fun hn => absurd hn h8, fun _ => ⟨h0, fun s => ?_⟩, ?_⟩, ?_⟩
 ·rw [any_snoc hq, ← hl s]
  by_cases e : s = t.parts[q].tag
  ·simp [e]
  have e2 : ¬ t.parts[q].tag = s := fun h => e h.symm
  simp [e, e2]
 ·split <;> omega
 have hseen := hl t.parts[q].tag
 have hb : (gt t.parts[q].tag).isSome = true ↔ ∃ j, ∃ hj : j < q, (t.parts[j]'(by omega)).tag = t.parts[q].tag := by
  rw [hseen, any_take (by omega)]; simp
 simp only [lbW, tgW, if_neg h8, true_and]
 by_cases hc : (gt t.parts[q].tag).isSome = true
 ·rw [if_pos hc]
  refine ⟨fun e => by omega, fun hh => ?_⟩
  obtain ⟨j, hj, e⟩ := hb.1 hc
  exact absurd e (hh j hj)
 rw [if_neg hc]
 exact ⟨fun _ j hj e => hc (hb.2 ⟨j, hj, e⟩), fun _ => by omega⟩
theorem pa_bad8 {t : Tp} {at_ : Int} {q : Nat} (hq : q < t.parts.length) (h8 : t.kind = 8) (hn : nameB t.parts[q].label = false) : ¬ paOk t at_ q := by
 rintro ⟨_, h1, -⟩
 rw [if_pos h8, hn] at h1
 exact absurd h1.1 (by simp)
theorem pa_badT {t : Tp} {at_ : Int} {q : Nat} (hq : q < t.parts.length) (h8 : ¬ t.kind = 8) (hn : t.parts[q].tag < 0 ∨ 255 < t.parts[q].tag) : ¬ paOk t at_ q := by
 rintro ⟨_, h1, -⟩
 rw [if_neg h8] at h1
 omega
def vaOk (t : Tp) (p : Pa) : Prop := if t.kind = 8 then nameB p.label = true else 0 ≤ p.tag ∧ p.tag ≤ 255
theorem pa_lt {t : Tp} {at_ : Int} {j : Nat} (h : paOk t at_ j) : ∃ hj : j < t.parts.length, t.parts[j].label = lbW t t.parts[j] ∧ t.parts[j].tag = tgW t t.parts[j] := by
 obtain ⟨hj, h1, -⟩ := h
 refine ⟨hj, ?_⟩
 unfold lbW tgW
 by_cases h8 : t.kind = 8
 ·rw [if_pos h8] at h1; simp [h8, h1.2]
 rw [if_neg h8] at h1; simp [h8, h1.1]
theorem pa_iff {t : Tp} {at_ : Int} {q m : Nat} (hno : ∀ k, k < q → paOk t at_ k) (hq : q < t.parts.length) (hv : vaOk t t.parts[q]) (hsn : m = q + 1 ↔ ∀ j (hj : j < q), ¬ (lbW t t.parts[j] = lbW t t.parts[q] ∧ tgW t t.parts[j] = tgW t t.parts[q])) :
  paOk t at_ q ↔ (t.parts[q].label = lbW t t.parts[q] ∧ t.parts[q].tag = tgW t t.parts[q]) ∧ 0 ≤ t.parts[q].ty ∧ t.parts[q].ty < at_ ∧ m = q + 1 := by
 constructor
 ·intro h
  obtain ⟨_, e1, e2⟩ := pa_lt h
  obtain ⟨_, -, h2, h3, h4⟩ := h
  refine ⟨⟨e1, e2⟩, h2, h3, hsn.2 fun j hj hh => h4 j hj ?_⟩
  obtain ⟨_, d1, d2⟩ := pa_lt (hno j hj)
  rw [d1, d2, e1, e2]; exact hh
 rintro ⟨⟨e1, e2⟩, h2, h3, h4⟩
 refine ⟨hq, ?_, h2, h3, fun j hj hh => hsn.1 h4 j hj ?_⟩
 ·unfold vaOk at hv
  unfold lbW at e1
  unfold tgW at e2
  by_cases h8 : t.kind = 8
  ·rw [if_pos h8] at hv e2 ⊢; exact ⟨hv, e2⟩
  rw [if_neg h8] at hv e1 ⊢; exact ⟨e1, hv⟩
 obtain ⟨_, d1, d2⟩ := pa_lt (hno j hj)
 rw [← d1, ← d2, ← e1, ← e2]; exact hh
theorem vaOk_8 {t : Tp} {p : Pa} (h8 : t.kind = 8) (h : nameB p.label = true) : vaOk t p := by unfold vaOk; rw [if_pos h8]; exact h
theorem vaOk_T {t : Tp} {p : Pa} (h8 : ¬ t.kind = 8) (h : 0 ≤ p.tag ∧ p.tag ≤ 255) : vaOk t p := by unfold vaOk; rw [if_neg h8]; exact h
/-- a type that a machine can hold -/
structure TLim (t : Tp) : Prop where
 len : t.parts.length * 32 ≤ 140737488351232
 lb : ∀ p ∈ t.parts, p.label.length ≤ 9223372036854775807
 tg : ∀ p ∈ t.parts, -9223372036854775808 ≤ p.tag ∧ p.tag ≤ 9223372036854775807

set_option maxHeartbeats 4000000 in
theorem tparts_spec (t : Tp) (pv : Value) (at_ most : Int) (w0 : World) (hS00 : Sl w0 3 pv t.parts.length (pas t.parts)) (hl : TLim t) : Ca Try.prog 59 #[.agg (tcell t pv).toArray, .int .i64 at_, .int .i64 most] w0 (fun v w' => v = .bool (partsB t at_ most) ∧ Ext w0 w') := by
 have hlen := hl.len
 refine Ca.of Try.func59 Try.ntmps59 rfl rfl (W.seq (W.region (WL.c rfl (o_boxB rfl ?_))))
 intro w3 hC3 hx3 hs3
 obtain ⟨b3, hb3⟩ : ∃ b, b = w0.heap.size := ⟨_, rfl⟩
 rw [← hb3] at hC3 ⊢
 replace hC3 : w3.heap[b3]? = some (.cells (tcell t pv).toArray 50 (0, 0)) := hC3
 have hx := hx3
 refine WL.c rfl (o_ash vB (WL.nil (W.seq (W.seq (W.region (WL.cut (fun e1 w1 => e1 22 = .bool (!decide (1 ≤ t.parts.length ∧ (t.parts.length : Int) ≤ most)) ∧ e1 1 = .int .i64 at_ ∧ e1 3 = .pointer (some ⟨b3, 0, none⟩) ∧ w1.heap[b3]? = some (.cells (tcell t pv).toArray 50 (0, 0)) ∧ Ext w0 w1) ?_ ?_))))))
 ·-- region 1
  refine WL.c rfl (o_fa 3 TI50 rfl TI48 rfl rfl (WL.c rfl (o_ld TI48 rfl rfl (cell_of hC3 rfl) (WL.c rfl (o_lenR TI48 rfl (hS00.ext hx) (WL.c rfl (o_lt rfl rfl (WL.c rfl (o_mvh vB (WL.sp 4 rfl (fun g16 => ?_) (fun g16 => ?_)))))))))))
  ·skip
   refine WL.s rfl (g16) rfl (WL.s rfl (g16) rfl (WL.s rfl (g16) rfl (WL.s rfl (g16) rfl (WL.s rfl (g16) rfl (WL.c rfl (o_pickT rfl (g16) ?_))))))
   exact WL.nil (⟨congrArg Value.bool (by first | (have := of_decide_eq_true g16; rw [eq_comm]; simp only [Bool.not_eq_true', decide_eq_false_iff_not]; omega) | (have := of_decide_eq_false g16; rw [Bool.eq_iff_iff]; simp only [Bool.or_eq_true, Bool.not_eq_true', decide_eq_false_iff_not, decide_eq_true_eq]; omega)), rfl, rfl, hC3, hx⟩)
  skip
  refine WL.g rfl (g16) rfl (o_fa 3 TI50 rfl TI48 rfl rfl (WL.g rfl (g16) rfl (o_ld TI48 rfl rfl (cell_of hC3 rfl) (WL.g rfl (g16) rfl (o_lenR TI48 rfl (hS00.ext hx) (WL.g rfl (g16) rfl (o_mvh vI (WL.g rfl (g16) rfl (o_gt rfl rfl (WL.c rfl (o_pickO rfl rfl ?_)))))))))))
  exact WL.nil (⟨congrArg Value.bool (by first | (have := of_decide_eq_true g16; rw [eq_comm]; simp only [Bool.not_eq_true', decide_eq_false_iff_not]; omega) | (have := of_decide_eq_false g16; rw [Bool.eq_iff_iff]; simp only [Bool.or_eq_true, Bool.not_eq_true', decide_eq_false_iff_not, decide_eq_true_eq]; omega)), rfl, rfl, hC3, hx⟩)
 rintro e w ⟨h22, h1, h3, hC3, hx⟩
 refine W.cond h22 (fun c22 => ?_) (fun c22 => ?_)
 ·try simp only [cs8] at c22
  refine W.seq (W.region (WL.c rfl (o_ash vB (WL.nil (W.ret (ret1v rfl vB ?_))))))
  exact ⟨congrArg Value.bool (partsB_len c22).symm, hx⟩
 try simp only [cs8] at c22
 refine W.skip (W.seq (W.region (WL.c rfl (o_mkM ?_))))
 have hML := MapN.made Try.prog 9 3 enS w
 have hxm : Ext w (w.alloc (.map #[] 0)) := Only.alloc w _
 obtain ⟨lb, hlb⟩ : ∃ b, b = w.heap.size := ⟨_, rfl⟩
 have hzlb : w0.heap.size ≤ lb := by rw [hlb]; exact hx.size
 rw [← hlb] at hML ⊢
 generalize w.alloc (.map #[] 0) = wm at hML hxm ⊢
 replace hC3 := hxm.blk hC3 (fun h => h)
 replace hx := hx.tr hxm
 have hlw := hML.lt
 refine WL.c rfl (o_mkM ?_)
 have hMT := MapN.made Try.prog 3 3 enI wm
 have hxm : Ext wm (wm.alloc (.map #[] 0)) := Only.alloc wm _
 obtain ⟨tb, htb⟩ : ∃ b, b = wm.heap.size := ⟨_, rfl⟩
 have hztb : w0.heap.size ≤ tb := by rw [htb]; exact hx.size
 rw [← htb] at hMT ⊢
 generalize wm.alloc (.map #[] 0) = wn at hMT hxm ⊢
 replace hC3 := hxm.blk hC3 (fun h => h)
 replace hx := hx.tr hxm
 replace hML := hML.ext hxm
 have hne1 : ¬ tb = lb := by omega
 have hne2 : ¬ lb = tb := by omega
 refine WL.c rfl (o_as (WL.c rfl (o_as (WL.nil (W.seq (W.seq (W.region (WL.c rfl (o_fa 3 TI50 rfl TI48 rfl h3 (WL.c rfl (o_ld TI48 rfl rfl (cell_of hC3 rfl) (WL.c rfl (o_lenR TI48 rfl (hS00.ext hx) (WL.c rfl (o_mvh vI (WL.nil (W.block (W.loop (fun e w => ∃ (q nl nt : Nat) (gl : List UInt8 → Option Int) (gt : Int → Option Int), q ≤ t.parts.length ∧ e 1 = .int .i64 at_ ∧ e 3 = .pointer (some ⟨b3, 0, none⟩) ∧ e 7 = .map (some lb) ∧ e 8 = .map (some tb) ∧ e 26 = pv ∧ e 27 = .int .i64 (t.parts.length : Int) ∧ e 28 = .int .i64 (q : Int) ∧ (∀ k, k < q → paOk t at_ k) ∧ w.heap[b3]? = some (.cells (tcell t pv).toArray 50 (0, 0)) ∧ MapN Try.prog 9 3 enS w lb nl gl ∧ MapN Try.prog 3 3 enI w tb nt gt ∧ PMap t q nl nt gl gt ∧ nl + nt = q ∧ Ext w0 w) (fun e w => t.parts.length - (intOf (e 28)).toNat) ?_ ?_))))))))))))))))))
 ·exact ⟨0, 0, 0, fun _ => none, fun _ => none, Nat.zero_le _, h1, h3, rfl, rfl, rfl, rfl, rfl, fun k hk => by omega, hC3, hML, hMT, PMap.zero t, rfl, hx⟩
 rintro e w ⟨q, nl, nt, gl, gt, hq, h1, h3, h7, h8, h26, h27, h28, hno, hC3, hML, hMT, hPM, hsum, hx⟩
 have hm28 := h28
 refine W.seq (W.region (WL.c rfl (o_lt h28 h27 (WL.nil (W.seq (W.cond rfl (fun c29 => ?_) (fun c29 => ?_)))))))
 ·try simp only [cs8] at c29
  have hq1 : q < t.parts.length := by omega
  obtain ⟨ub, uo, uc, hpv, huc⟩ := Sl.paq (hS00.ext hx) hq1
  rw [hpv] at h26
  obtain ⟨p, hp⟩ : ∃ p, p = t.parts[q] := ⟨_, rfl⟩
  rw [← hp] at huc
  have hlbl : p.label.length ≤ 9223372036854775807 := by rw [hp]; exact hl.lb _ (List.getElem_mem hq1)
  have htgl : -9223372036854775808 ≤ p.tag ∧ p.tag ≤ 9223372036854775807 := by rw [hp]; exact hl.tg _ (List.getElem_mem hq1)
  have hle := hPM.le
  refine W.skip (W.seq (W.block (W.seq (W.region (WL.c rfl (o_mvh h28 (WL.c rfl (o_ixB (i := q) TI48 TI52 h26 h28 (by omega) (WL.c rfl (o_ldA TI52 rfl rfl huc rfl (WL.c rfl (o_alB TI52 ?_))))))))))))
  intro wa hCa hxa hsa
  refine WL.c rfl (o_ash vI (WL.u (o_stA TI52 rfl (show _ = Value.agg (paV p).toArray from rfl) rfl rfl hCa rfl ?_)))
  intro wb10 hC10 hob hsb
  have hxb := Ext.own hxa (Nat.le_refl _) hob
  obtain ⟨b10, hb10⟩ : ∃ b, b = w.heap.size := ⟨_, rfl⟩
  rw [← hb10] at hC10 ⊢
  clear hCa hxa hsa hob hsb
  replace hx := hx.tr hxb
  replace hML := hML.ext hxb
  replace hMT := hMT.ext hxb
  replace hC3 := hxb.blk hC3 (fun h => h)
  clear hxb
  refine WL.nil (W.seq (W.region (WL.c rfl (o_fa 2 TI52 rfl TI3 rfl rfl (WL.c rfl (o_ld TI3 rfl rfl (cell_of hC10 rfl) (WL.c rfl (o_bldC (cs := [(.string ⟨#[]⟩), (.int .i64 0), _]) TI52 (Sizes.cons TI9 (Sizes.cons TI3 (Sizes.cons TI3 Sizes.nil))) rfl (lcp vI lnp) rfl rfl (WL.c rfl (o_alB TI52 ?_))))))))))
  intro wa hCa hxa hsa
  refine WL.u (o_stA TI52 rfl (show _ = Value.agg ([st [], .int .i64 0, .int .i64 p.ty]).toArray from rfl) rfl rfl hCa rfl ?_)
  intro wb11 hC11 hob hsb
  have hxb := Ext.own hxa (Nat.le_refl _) hob
  obtain ⟨b11, hb11⟩ : ∃ b, b = wb10.heap.size := ⟨_, rfl⟩
  rw [← hb11] at hC11 ⊢
  clear hCa hxa hsa hob hsb
  have hne : ¬ b10 = b11 := by have := blk_lt3 hC10; omega
  have hz11 : w0.heap.size ≤ b11 := by rw [hb11]; exact hx.size
  replace hx := hx.tr hxb
  replace hML := hML.ext hxb
  replace hMT := hMT.ext hxb
  replace hC3 := hxb.blk hC3 (fun h => h)
  replace hC10 := hxb.blk hC10 (fun h => h)
  clear hxb
  refine WL.nil (W.seq (W.seq (W.region (WL.c rfl (o_fa 0 TI50 rfl TI3 rfl h3 (WL.c rfl (o_ld TI3 rfl rfl (cell_of hC3 rfl) (WL.c rfl (o_eq rfl rfl (WL.nil (W.cut (fun e1 w1 => ∃ (nl2 nt2 : Nat) (gl2 : List UInt8 → Option Int) (gt2 : Int → Option Int), e1 1 = .int .i64 at_ ∧ e1 3 = .pointer (some ⟨b3, 0, none⟩) ∧ e1 7 = .map (some lb) ∧ e1 8 = .map (some tb) ∧ e1 9 = .int .i64 (q : Int) ∧ e1 10 = .pointer (some ⟨b10, 0, none⟩) ∧ e1 11 = .pointer (some ⟨b11, 0, none⟩) ∧ e1 26 = (.slice (some ⟨ub, uo, none⟩) t.parts.length uc) ∧ e1 27 = .int .i64 (t.parts.length : Int) ∧ e1 28 = .int .i64 (q : Int) ∧ w1.heap[b3]? = some (.cells (tcell t pv).toArray 50 (0, 0)) ∧ w1.heap[b10]? = some (.cells (paV p).toArray 52 (0, 0)) ∧ w1.heap[b11]? = some (.cells #[st (lbW t p), .int .i64 (tgW t p), .int .i64 p.ty] 52 (0, 0)) ∧ MapN Try.prog 9 3 enS w1 lb nl2 gl2 ∧ MapN Try.prog 3 3 enI w1 tb nt2 gt2 ∧ PMap t (q + 1) nl2 nt2 gl2 gt2 ∧ (nl2 + nt2 = q + 1 ↔ ∀ j (hj : j < q), ¬ (lbW t t.parts[j] = lbW t p ∧ tgW t t.parts[j] = tgW t p)) ∧ vaOk t p ∧ Ext w0 w1) ?_ ?_)))))))))))
  ·-- both ways
   refine W.cond rfl (fun c38 => ?_) (fun c38 => ?_)
   ·try simp only [cs8] at c38
    have hk8 : t.kind = 8 := by simpa using c38
    refine W.seq (W.region (WL.c rfl (o_fa 0 TI52 rfl TI9 rfl rfl (WL.c rfl (o_ld TI9 rfl rfl (cell_of hC10 rfl) (WL.c rfl (o_fa 0 TI52 rfl TI9 rfl rfl (WL.u (o_stB TI9 rfl (show _ = st p.label from rfl) rfl hC11 (show 0 < 3 by decide) ?_)))))))))
    intro wst hC11n ho hs41
    have hC11n0 := hC11n
    replace hC10 := ho.blk hC10 hne
    replace hC3 := ho.blk hC3 (blk_ne3 hC3 hC11 (by decide))
    replace hML := hML.only ho (fun e => map_blk_ne hML.is hC11 e.symm)
    replace hMT := hMT.only ho (fun e => map_blk_ne hMT.is hC11 e.symm)
    replace hx := hx.trans' ho (fun _ h => h) (fun b hb e => by omega)
    replace hC11 : wst.heap[b11]? = some (.cells #[st (lbW t p), .int .i64 (tgW t p), .int .i64 p.ty] 52 (0, 0)) := by simp only [lbW, tgW, if_pos hk8]; exact hC11n
    refine WL.nil (W.seq (W.region (WL.c rfl (o_mvh h7 (WL.c rfl (o_fa 0 TI52 rfl TI9 rfl rfl (WL.c rfl (o_ld TI9 rfl rfl (cell_of hC10 rfl) (WL.c rfl (o_mvh vI (WL.u (o_muN enS_inj MT88 rfl hML rfl (keyS Try.underlying9 (by rw [maxLen_eq]; omega)) rfl (wf_i64 (by omega)) (by rw [maxLen_eq]; omega) ?_))))))))))))
    intro wq hMq hoq hsq
    replace hC10 := hoq.blk hC10 (map_blk_ne hML.is hC10)
    replace hC11 := hoq.blk hC11 (map_blk_ne hML.is hC11)
    replace hC3 := hoq.blk hC3 (map_blk_ne hML.is hC3)
    replace hMT := hMT.only hoq hne1
    replace hx := hx.trans' hoq (fun _ h => h) (fun b hb e => by omega)
    obtain ⟨hPM2, hcnt⟩ := hPM.step8 hq1 hk8 hsum (q : Int)
    rw [← hp] at hPM2 hcnt
    replace hML := hMq
    refine WL.nil (W.seq (W.region (WL.c rfl (o_fa 0 TI52 rfl TI9 rfl rfl (WL.c rfl (o_ld TI9 rfl rfl (cell_of hC10 rfl) (WL.c rfl (o_call Try.call34 (lc rfl ln) ((name_spec p.label _ hlbl).mono ?_)))))))))
    rintro v48 w48 ⟨rfl, rfl⟩
    refine WL.c rfl (o_not' rfl (WL.nil (W.cond rfl (fun c49 => ?_) (fun c49 => ?_))))
    ·try simp only [cs8] at c49
     have hnm : nameB p.label = false := by simpa using c49
     refine W.seq (W.region (WL.c rfl (o_ash vB (WL.nil (W.ret (ret1v rfl vB ?_))))))
     exact ⟨congrArg Value.bool (partsB_no hq1 (pa_bad8 hq1 hk8 (hp ▸ hnm))).symm, hx⟩
    try simp only [cs8] at c49
    have hnm : nameB p.label = true := by simpa using c49
    have hval : vaOk t p := vaOk_8 hk8 hnm
    refine W.skip ?_
    exact ⟨_, _, _, _, h1, h3, h7, h8, rfl, rfl, rfl, h26, h27, h28, hC3, hC10, hC11, hML, hMT, hPM2, hcnt, hval, hx⟩
   try simp only [cs8] at c38
   have hk8 : ¬ t.kind = 8 := by simpa using c38
   refine W.seq (W.region (WL.c rfl (o_fa 1 TI52 rfl TI3 rfl rfl (WL.c rfl (o_ld TI3 rfl rfl (cell_of hC10 rfl) (WL.c rfl (o_fa 1 TI52 rfl TI3 rfl rfl (WL.u (o_stB TI3 rfl (show _ = Value.int .i64 p.tag from rfl) rfl hC11 (show 1 < 3 by decide) ?_)))))))))
   intro wst hC11n ho hs41
   have hC11n0 := hC11n
   replace hC10 := ho.blk hC10 hne
   replace hC3 := ho.blk hC3 (blk_ne3 hC3 hC11 (by decide))
   replace hML := hML.only ho (fun e => map_blk_ne hML.is hC11 e.symm)
   replace hMT := hMT.only ho (fun e => map_blk_ne hMT.is hC11 e.symm)
   replace hx := hx.trans' ho (fun _ h => h) (fun b hb e => by omega)
   replace hC11 : wst.heap[b11]? = some (.cells #[st (lbW t p), .int .i64 (tgW t p), .int .i64 p.ty] 52 (0, 0)) := by simp only [lbW, tgW, if_neg hk8]; exact hC11n
   refine WL.nil (W.seq (W.region (WL.c rfl (o_mvh h8 (WL.c rfl (o_fa 1 TI52 rfl TI3 rfl rfl (WL.c rfl (o_ld TI3 rfl rfl (cell_of hC10 rfl) (WL.c rfl (o_mvh vI (WL.u (o_muN enI_inj MT141 rfl hMT rfl (keyI Try.underlying3 (by omega)) rfl (wf_i64 (by omega)) (by rw [maxLen_eq]; omega) ?_))))))))))))
   intro wq hMq hoq hsq
   replace hC10 := hoq.blk hC10 (map_blk_ne hMT.is hC10)
   replace hC11 := hoq.blk hC11 (map_blk_ne hMT.is hC11)
   replace hC3 := hoq.blk hC3 (map_blk_ne hMT.is hC3)
   replace hML := hML.only hoq hne2
   replace hx := hx.trans' hoq (fun _ h => h) (fun b hb e => by omega)
   obtain ⟨hPM2, hcnt⟩ := hPM.stepT hq1 hk8 hsum (q : Int)
   rw [← hp] at hPM2 hcnt
   replace hMT := hMq
   refine WL.nil (W.seq ?_)
   by_cases hneg : p.tag < 0
   ·skip
    have hbt : p.tag < 0 ∨ 255 < p.tag := .inl hneg
    refine W.region (WL.c rfl (o_fa 1 TI52 rfl TI3 rfl rfl (WL.c rfl (o_ld TI3 rfl rfl (cell_of hC10 rfl) (WL.c rfl (o_lt rfl rfl (WL.c rfl (o_mvh vB (WL.s rfl (by simp [hneg]) rfl (WL.s rfl (by simp [hneg]) rfl (WL.s rfl (by simp [hneg]) rfl (WL.c rfl (o_pickT rfl (by simp [hneg]) (WL.nil (W.condT' rfl (rfl) (W.seq (W.region (WL.c rfl (o_ash vB (WL.nil (W.ret (ret1v rfl vB ?_))))))))))))))))))))))
    exact ⟨congrArg Value.bool (partsB_no hq1 (pa_badT hq1 hk8 (hp ▸ hbt))).symm, hx⟩
   skip
   refine W.region (WL.c rfl (o_fa 1 TI52 rfl TI3 rfl rfl (WL.c rfl (o_ld TI3 rfl rfl (cell_of hC10 rfl) (WL.c rfl (o_lt rfl rfl (WL.c rfl (o_mvh vB (WL.g rfl (by simp [hneg]) rfl (o_fa 1 TI52 rfl TI3 rfl rfl (WL.g rfl (by simp [hneg]) rfl (o_ld TI3 rfl rfl (cell_of hC10 rfl) (WL.g rfl (by simp [hneg]) rfl (o_gt rfl rfl (WL.c rfl (o_pickO rfl rfl (WL.nil (W.cond rfl (fun c64 => ?_) (fun c64 => ?_)))))))))))))))))))
   ·try simp only [cs8] at c64
    have hbt : p.tag < 0 ∨ 255 < p.tag := c64
    refine W.seq (W.region (WL.c rfl (o_ash vB (WL.nil (W.ret (ret1v rfl vB ?_))))))
    exact ⟨congrArg Value.bool (partsB_no hq1 (pa_badT hq1 hk8 (hp ▸ hbt))).symm, hx⟩
   try simp only [cs8] at c64
   have hval : vaOk t p := vaOk_T hk8 ⟨by omega, by omega⟩
   refine W.skip ?_
   exact ⟨_, _, _, _, h1, h3, h7, h8, rfl, rfl, rfl, h26, h27, h28, hC3, hC10, hC11, hML, hMT, hPM2, hcnt, hval, hx⟩
  rintro e w ⟨nl2, nt2, gl2, gt2, h1, h3, h7, h8, h9, h10, h11, h26, h27, h28, hC3, hC10, hC11, hML, hMT, hPM, hcnt, hval, hx⟩
  refine W.seq ?_
  have hle2 := hPM.le
  by_cases hA : p.label = lbW t p ∧ p.tag = tgW t p
  by_cases hB : 0 ≤ p.ty
  by_cases hC : p.ty < at_
  by_cases hD : nl2 + nt2 = q + 1
  ·skip
   refine W.region (WL.c rfl (o_ldA TI52 rfl h10 (show Cells _ b10 0 (paV p) from Cells.of hC10 0 _ (by simp)) rfl (WL.c rfl (o_ldA TI52 rfl h11 (show Cells _ b11 0 [st (lbW t p), .int .i64 (tgW t p), .int .i64 p.ty] from Cells.of hC11 0 _ (by simp)) rfl (WL.c rfl (o_neR TI52 (by kernel_rfl) (by kernel_rfl) rfl rfl (.str TI9 (by decide) rfl rfl (.int TI3 (by decide) rfl rfl (.int TI3 (by decide) rfl rfl .nil))) (WL.c rfl (o_mvh vB (WL.g rfl (by simpa using hA) rfl (o_fa 2 TI52 rfl TI3 rfl h10 (WL.g rfl (by simpa using hA) rfl (o_ld TI3 rfl rfl (cell_of hC10 rfl) (WL.g rfl (by simpa using hA) rfl (o_lt rfl rfl (WL.c rfl (o_pickO rfl rfl (WL.c rfl (o_mvh vB (WL.g rfl (by simp; exact ⟨hA, hB⟩) rfl (o_fa 2 TI52 rfl TI3 rfl h10 (WL.g rfl (by simp; exact ⟨hA, hB⟩) rfl (o_ld TI3 rfl rfl (cell_of hC10 rfl) (WL.g rfl (by simp; exact ⟨hA, hB⟩) rfl (o_mvh h1 (WL.g rfl (by simp; exact ⟨hA, hB⟩) rfl (o_ge rfl rfl (WL.c rfl (o_pickO rfl rfl (WL.c rfl (o_mvh vB (WL.g rfl (by simp; exact ⟨⟨hA, hB⟩, hC⟩) rfl (o_mvh h7 (WL.g rfl (by simp; exact ⟨⟨hA, hB⟩, hC⟩) rfl (o_lenM Try.underlying88 rfl hML (WL.g rfl (by simp; exact ⟨⟨hA, hB⟩, hC⟩) rfl (o_mvh h8 (WL.g rfl (by simp; exact ⟨⟨hA, hB⟩, hC⟩) rfl (o_lenM Try.underlying141 rfl hMT (WL.g rfl (by simp; exact ⟨⟨hA, hB⟩, hC⟩) rfl (o_addi rfl rfl (by omega) (WL.g rfl (by simp; exact ⟨⟨hA, hB⟩, hC⟩) rfl (o_mvh h9 (WL.g rfl (by simp; exact ⟨⟨hA, hB⟩, hC⟩) rfl (o_addi rfl rfl (by omega) (WL.g rfl (by simp; exact ⟨⟨hA, hB⟩, hC⟩) rfl (o_ne rfl rfl (WL.c rfl (o_pickO rfl rfl (WL.nil (W.condF' rfl (by simp; exact ⟨⟨⟨hA, hB⟩, hC⟩, by omega⟩) (W.skip (W.region (WL.c rfl (o_addi h28 rfl (by omega) (WL.c rfl (o_mvh vI (WL.nil (⟨⟨q + 1, nl2, nt2, gl2, gt2, by omega, h1, h3, h7, h8, h26.trans hpv.symm, h27, rfl, fun k hk => ?_, hC3, hML, hMT, hPM, by omega, hx⟩, ?_⟩))))))))))))))))))))))))))))))))))))))))))))))))))))))))))
   ·rcases Nat.lt_or_ge k q with h | h
    ·exact hno k h
    rw [show k = q by omega]
    exact (pa_iff hno hq1 (hp ▸ hval) (hp ▸ hcnt)).2 ⟨hp ▸ hA, hp ▸ hB, hp ▸ hC, by omega⟩
   show t.parts.length - ((q : Int) + 1).toNat < _
   rw [hm28]; simp [intOf]; omega
  ·skip
   have hbad : ¬ paOk t at_ q := fun hh => by
    have h4 := ((pa_iff hno hq1 (hp ▸ hval) (hp ▸ hcnt)).1 hh).2.2.2
    omega
   refine W.region (WL.c rfl (o_ldA TI52 rfl h10 (show Cells _ b10 0 (paV p) from Cells.of hC10 0 _ (by simp)) rfl (WL.c rfl (o_ldA TI52 rfl h11 (show Cells _ b11 0 [st (lbW t p), .int .i64 (tgW t p), .int .i64 p.ty] from Cells.of hC11 0 _ (by simp)) rfl (WL.c rfl (o_neR TI52 (by kernel_rfl) (by kernel_rfl) rfl rfl (.str TI9 (by decide) rfl rfl (.int TI3 (by decide) rfl rfl (.int TI3 (by decide) rfl rfl .nil))) (WL.c rfl (o_mvh vB (WL.g rfl (by simpa using hA) rfl (o_fa 2 TI52 rfl TI3 rfl h10 (WL.g rfl (by simpa using hA) rfl (o_ld TI3 rfl rfl (cell_of hC10 rfl) (WL.g rfl (by simpa using hA) rfl (o_lt rfl rfl (WL.c rfl (o_pickO rfl rfl (WL.c rfl (o_mvh vB (WL.g rfl (by simp; exact ⟨hA, hB⟩) rfl (o_fa 2 TI52 rfl TI3 rfl h10 (WL.g rfl (by simp; exact ⟨hA, hB⟩) rfl (o_ld TI3 rfl rfl (cell_of hC10 rfl) (WL.g rfl (by simp; exact ⟨hA, hB⟩) rfl (o_mvh h1 (WL.g rfl (by simp; exact ⟨hA, hB⟩) rfl (o_ge rfl rfl (WL.c rfl (o_pickO rfl rfl (WL.c rfl (o_mvh vB (WL.g rfl (by simp; exact ⟨⟨hA, hB⟩, hC⟩) rfl (o_mvh h7 (WL.g rfl (by simp; exact ⟨⟨hA, hB⟩, hC⟩) rfl (o_lenM Try.underlying88 rfl hML (WL.g rfl (by simp; exact ⟨⟨hA, hB⟩, hC⟩) rfl (o_mvh h8 (WL.g rfl (by simp; exact ⟨⟨hA, hB⟩, hC⟩) rfl (o_lenM Try.underlying141 rfl hMT (WL.g rfl (by simp; exact ⟨⟨hA, hB⟩, hC⟩) rfl (o_addi rfl rfl (by omega) (WL.g rfl (by simp; exact ⟨⟨hA, hB⟩, hC⟩) rfl (o_mvh h9 (WL.g rfl (by simp; exact ⟨⟨hA, hB⟩, hC⟩) rfl (o_addi rfl rfl (by omega) (WL.g rfl (by simp; exact ⟨⟨hA, hB⟩, hC⟩) rfl (o_ne rfl rfl (WL.c rfl (o_pickO rfl rfl (WL.nil (W.condT' rfl (by simp only [Bool.or_eq_true, Bool.not_eq_true', decide_eq_false_iff_not]; right; omega) (W.seq (W.region (WL.c rfl (o_ash vB (WL.nil (W.ret (ret1v rfl vB ?_)))))))))))))))))))))))))))))))))))))))))))))))))))))))))
   exact ⟨congrArg Value.bool (partsB_no hq1 hbad).symm, hx⟩
  ·skip
   have hbad : ¬ paOk t at_ q := fun hh => by
    have h4 := ((pa_iff hno hq1 (hp ▸ hval) (hp ▸ hcnt)).1 hh).2.2.1
    rw [← hp] at h4; exact hC h4
   refine W.region (WL.c rfl (o_ldA TI52 rfl h10 (show Cells _ b10 0 (paV p) from Cells.of hC10 0 _ (by simp)) rfl (WL.c rfl (o_ldA TI52 rfl h11 (show Cells _ b11 0 [st (lbW t p), .int .i64 (tgW t p), .int .i64 p.ty] from Cells.of hC11 0 _ (by simp)) rfl (WL.c rfl (o_neR TI52 (by kernel_rfl) (by kernel_rfl) rfl rfl (.str TI9 (by decide) rfl rfl (.int TI3 (by decide) rfl rfl (.int TI3 (by decide) rfl rfl .nil))) (WL.c rfl (o_mvh vB (WL.g rfl (by simpa using hA) rfl (o_fa 2 TI52 rfl TI3 rfl h10 (WL.g rfl (by simpa using hA) rfl (o_ld TI3 rfl rfl (cell_of hC10 rfl) (WL.g rfl (by simpa using hA) rfl (o_lt rfl rfl (WL.c rfl (o_pickO rfl rfl (WL.c rfl (o_mvh vB (WL.g rfl (by simp; exact ⟨hA, hB⟩) rfl (o_fa 2 TI52 rfl TI3 rfl h10 (WL.g rfl (by simp; exact ⟨hA, hB⟩) rfl (o_ld TI3 rfl rfl (cell_of hC10 rfl) (WL.g rfl (by simp; exact ⟨hA, hB⟩) rfl (o_mvh h1 (WL.g rfl (by simp; exact ⟨hA, hB⟩) rfl (o_ge rfl rfl (WL.c rfl (o_pickO rfl rfl (WL.c rfl (o_mvh vB (WL.s rfl (by rw [decide_eq_true (show at_ ≤ p.ty by omega)]; simp) rfl (WL.s rfl (by rw [decide_eq_true (show at_ ≤ p.ty by omega)]; simp) rfl (WL.s rfl (by rw [decide_eq_true (show at_ ≤ p.ty by omega)]; simp) rfl (WL.s rfl (by rw [decide_eq_true (show at_ ≤ p.ty by omega)]; simp) rfl (WL.s rfl (by rw [decide_eq_true (show at_ ≤ p.ty by omega)]; simp) rfl (WL.s rfl (by rw [decide_eq_true (show at_ ≤ p.ty by omega)]; simp) rfl (WL.s rfl (by rw [decide_eq_true (show at_ ≤ p.ty by omega)]; simp) rfl (WL.s rfl (by rw [decide_eq_true (show at_ ≤ p.ty by omega)]; simp) rfl (WL.c rfl (o_pickT rfl (by rw [decide_eq_true (show at_ ≤ p.ty by omega)]; simp) (WL.nil (W.condT' rfl (rfl) (W.seq (W.region (WL.c rfl (o_ash vB (WL.nil (W.ret (ret1v rfl vB ?_)))))))))))))))))))))))))))))))))))))))))))))))))
   exact ⟨congrArg Value.bool (partsB_no hq1 hbad).symm, hx⟩
  ·skip
   have hbad : ¬ paOk t at_ q := fun hh => by
    have h4 := ((pa_iff hno hq1 (hp ▸ hval) (hp ▸ hcnt)).1 hh).2.1
    rw [← hp] at h4; exact hB h4
   refine W.region (WL.c rfl (o_ldA TI52 rfl h10 (show Cells _ b10 0 (paV p) from Cells.of hC10 0 _ (by simp)) rfl (WL.c rfl (o_ldA TI52 rfl h11 (show Cells _ b11 0 [st (lbW t p), .int .i64 (tgW t p), .int .i64 p.ty] from Cells.of hC11 0 _ (by simp)) rfl (WL.c rfl (o_neR TI52 (by kernel_rfl) (by kernel_rfl) rfl rfl (.str TI9 (by decide) rfl rfl (.int TI3 (by decide) rfl rfl (.int TI3 (by decide) rfl rfl .nil))) (WL.c rfl (o_mvh vB (WL.g rfl (by simpa using hA) rfl (o_fa 2 TI52 rfl TI3 rfl h10 (WL.g rfl (by simpa using hA) rfl (o_ld TI3 rfl rfl (cell_of hC10 rfl) (WL.g rfl (by simpa using hA) rfl (o_lt rfl rfl (WL.c rfl (o_pickO rfl rfl (WL.c rfl (o_mvh vB (WL.s rfl (by rw [decide_eq_true (show p.ty < 0 by omega)]; simp) rfl (WL.s rfl (by rw [decide_eq_true (show p.ty < 0 by omega)]; simp) rfl (WL.s rfl (by rw [decide_eq_true (show p.ty < 0 by omega)]; simp) rfl (WL.s rfl (by rw [decide_eq_true (show p.ty < 0 by omega)]; simp) rfl (WL.c rfl (o_pickT rfl (by rw [decide_eq_true (show p.ty < 0 by omega)]; simp) (WL.c rfl (o_mvh vB (WL.s rfl (rfl) rfl (WL.s rfl (rfl) rfl (WL.s rfl (rfl) rfl (WL.s rfl (rfl) rfl (WL.s rfl (rfl) rfl (WL.s rfl (rfl) rfl (WL.s rfl (rfl) rfl (WL.s rfl (rfl) rfl (WL.c rfl (o_pickT rfl (rfl) (WL.nil (W.condT' rfl (rfl) (W.seq (W.region (WL.c rfl (o_ash vB (WL.nil (W.ret (ret1v rfl vB ?_)))))))))))))))))))))))))))))))))))))))))))))
   exact ⟨congrArg Value.bool (partsB_no hq1 hbad).symm, hx⟩
  skip
  have hbad : ¬ paOk t at_ q := fun hh => by
   have h4 := ((pa_iff hno hq1 (hp ▸ hval) (hp ▸ hcnt)).1 hh).1
   rw [← hp] at h4; exact hA h4
  refine W.region (WL.c rfl (o_ldA TI52 rfl h10 (show Cells _ b10 0 (paV p) from Cells.of hC10 0 _ (by simp)) rfl (WL.c rfl (o_ldA TI52 rfl h11 (show Cells _ b11 0 [st (lbW t p), .int .i64 (tgW t p), .int .i64 p.ty] from Cells.of hC11 0 _ (by simp)) rfl (WL.c rfl (o_neR TI52 (by kernel_rfl) (by kernel_rfl) rfl rfl (.str TI9 (by decide) rfl rfl (.int TI3 (by decide) rfl rfl (.int TI3 (by decide) rfl rfl .nil))) (WL.c rfl (o_mvh vB (WL.s rfl (by first | (simp; exact fun h1 h2 => hA ⟨h1, h2⟩) | (simp; exact Classical.not_and_iff_not_or_not.1 hA)) rfl (WL.s rfl (by first | (simp; exact fun h1 h2 => hA ⟨h1, h2⟩) | (simp; exact Classical.not_and_iff_not_or_not.1 hA)) rfl (WL.s rfl (by first | (simp; exact fun h1 h2 => hA ⟨h1, h2⟩) | (simp; exact Classical.not_and_iff_not_or_not.1 hA)) rfl (WL.c rfl (o_pickT rfl (by first | (simp; exact fun h1 h2 => hA ⟨h1, h2⟩) | (simp; exact Classical.not_and_iff_not_or_not.1 hA)) (WL.c rfl (o_mvh vB (WL.s rfl (rfl) rfl (WL.s rfl (rfl) rfl (WL.s rfl (rfl) rfl (WL.s rfl (rfl) rfl (WL.c rfl (o_pickT rfl (rfl) (WL.c rfl (o_mvh vB (WL.s rfl (rfl) rfl (WL.s rfl (rfl) rfl (WL.s rfl (rfl) rfl (WL.s rfl (rfl) rfl (WL.s rfl (rfl) rfl (WL.s rfl (rfl) rfl (WL.s rfl (rfl) rfl (WL.s rfl (rfl) rfl (WL.c rfl (o_pickT rfl (rfl) (WL.nil (W.condT' rfl (rfl) (W.seq (W.region (WL.c rfl (o_ash vB (WL.nil (W.ret (ret1v rfl vB ?_))))))))))))))))))))))))))))))))))))))))))
  exact ⟨congrArg Value.bool (partsB_no hq1 hbad).symm, hx⟩
 try simp only [cs8] at c29
 have hq1 : q = t.parts.length := by omega
 rw [hq1] at hno
 refine W.exit (W.seq (W.region (WL.c rfl (o_ash vB (WL.nil (W.ret (ret1v rfl vB ?_)))))))
 exact ⟨congrArg Value.bool (partsB_yes c22 hno).symm, hx⟩
end Go.Proofs.Ytpbflfgigfdohaa

namespace Go.Proofs.Ytpbflfgigfdohaa
open Go Go.Vc Go.RowKit Go.Proofs

open Classical in
noncomputable def tpB (t : Tp) (at_ : Int) : Bool := decide (tpOk t at_)
theorem tpB_no {t : Tp} {at_ : Int} (h : ¬ tpOk t at_) : tpB t at_ = false := by unfold tpB; simp only [decide_eq_false_iff_not]; exact h
theorem tpB_iff {t : Tp} {at_ : Int} : tpB t at_ = true ↔ tpOk t at_ := by unfold tpB; simp only [decide_eq_true_eq]
theorem partsB_iff {t : Tp} {at_ : Int} : partsB t at_ 64 = true ↔ partsOk t at_ := by
 unfold partsB partsOk
 simp only [decide_eq_true_eq]
 constructor
 ·rintro ⟨h1, h2, h3⟩; exact ⟨h1, by omega, h3⟩
 rintro ⟨h1, h2, h3⟩; exact ⟨h1, by omega, h3⟩
theorem len0 {t : Tp} : ((t.parts.length : Nat) : Int) = 0 ↔ t.parts = [] := by
 rw [show ((t.parts.length : Nat) : Int) = 0 ↔ t.parts.length = 0 by omega]; exact List.length_eq_zero_iff
theorem tpB_123 {t : Tp} {at_ : Int} (hk : t.kind = 1 ∨ t.kind = 2 ∨ t.kind = 3) (hn : numOk t.kind t.n) : tpB t at_ = (decide (t.elem = 0) && decide (((t.parts.length : Nat) : Int) = 0)) := by
 rw [Bool.eq_iff_iff, tpB_iff, Bool.and_eq_true, decide_eq_true_eq, decide_eq_true_eq, len0, tpOk, if_pos hk]
 exact ⟨fun h => h.2, fun h => ⟨hn, h⟩⟩
theorem tpB_456 {t : Tp} {at_ : Int} (hk : t.kind = 4 ∨ t.kind = 5 ∨ t.kind = 6) (hn : numOk t.kind t.n) : tpB t at_ = (decide (0 ≤ t.elem ∧ t.elem < at_) && decide (((t.parts.length : Nat) : Int) = 0)) := by
 rw [Bool.eq_iff_iff, tpB_iff, Bool.and_eq_true, decide_eq_true_eq, decide_eq_true_eq, len0, tpOk, if_neg (by omega), if_pos hk]
 exact ⟨fun h => ⟨⟨h.2.1, h.2.2.1⟩, h.2.2.2⟩, fun h => ⟨hn, h.1.1, h.1.2, h.2⟩⟩
theorem tpB_78 {t : Tp} {at_ : Int} (hk : t.kind = 7 ∨ t.kind = 8) (hn : numOk t.kind t.n) : tpB t at_ = (decide (t.elem = 0) && partsB t at_ 64) := by
 rw [Bool.eq_iff_iff, tpB_iff, Bool.and_eq_true, decide_eq_true_eq, partsB_iff, tpOk, if_neg (by omega), if_neg (by omega)]
 exact ⟨fun h => ⟨h.2.2.1, h.2.2.2⟩, fun h => ⟨hn, hk, h⟩⟩
theorem tpB_else {t : Tp} {at_ : Int} (h : ¬ (t.kind = 1 ∨ t.kind = 2 ∨ t.kind = 3) ∧ ¬ (t.kind = 4 ∨ t.kind = 5 ∨ t.kind = 6) ∧ ¬ (t.kind = 7 ∨ t.kind = 8)) : tpB t at_ = false := by
 refine tpB_no fun hh => ?_
 rw [tpOk, if_neg h.1, if_neg h.2.1] at hh
 exact h.2.2 hh.2.1

set_option maxHeartbeats 4000000 in
theorem tright_spec (t : Tp) (pv : Value) (at_ : Int) (w0 : World) (hS00 : Sl w0 3 pv t.parts.length (pas t.parts)) (hl : TLim t) : Ca Try.prog 32 #[.agg (tcell t pv).toArray, .int .i64 at_] w0 (fun v w' => v = .bool (tpB t at_) ∧ Ext w0 w') := by
 refine Ca.of Try.func32 Try.ntmps32 rfl rfl (W.seq (W.region (WL.c rfl (o_boxB rfl ?_))))
 intro w2 hC2 hx2 hs2
 obtain ⟨b2, hb2⟩ : ∃ b, b = w0.heap.size := ⟨_, rfl⟩
 rw [← hb2] at hC2 ⊢
 replace hC2 : w2.heap[b2]? = some (.cells (tcell t pv).toArray 50 (0, 0)) := hC2
 have hx := hx2
 refine WL.c rfl (o_ash vB (WL.nil (W.seq (W.seq (W.region (WL.c rfl (o_fa 0 TI50 rfl TI3 rfl rfl (WL.c rfl (o_ld TI3 rfl rfl (cell_of hC2 rfl) (WL.c rfl (o_fa 1 TI50 rfl TI3 rfl rfl (WL.c rfl (o_ld TI3 rfl rfl (cell_of hC2 rfl) (WL.c rfl (o_call Try.call58 (lc rfl (lc rfl ln)) ((tnumber_spec t.kind t.n _).mono ?_))))))))))))))))
 rintro v10 w10 ⟨rfl, rfl⟩
 refine WL.c rfl (o_not' rfl (WL.nil (W.cond rfl (fun c11 => ?_) (fun c11 => ?_))))
 ·try simp only [cs8] at c11
  have hnk : ¬ numOk t.kind t.n := by simpa using c11
  refine W.seq (W.region (WL.c rfl (o_ash vB (WL.nil (W.ret (ret1v rfl vB ?_))))))
  exact ⟨congrArg Value.bool (tpB_no (fun h => hnk h.1)).symm, hx⟩
 try simp only [cs8] at c11
 have hnk : numOk t.kind t.n := by simpa using c11
 refine W.skip (W.seq (W.region (WL.cut (fun e1 w1 => e1 5 = .bool (decide (0 ≤ t.elem ∧ t.elem < at_)) ∧ e1 1 = .int .i64 at_ ∧ e1 2 = .pointer (some ⟨b2, 0, none⟩) ∧ w1.heap[b2]? = some (.cells (tcell t pv).toArray 50 (0, 0)) ∧ Ext w0 w1) ?_ ?_)))
 ·-- region 3
  refine WL.c rfl (o_fa 2 TI50 rfl TI3 rfl rfl (WL.c rfl (o_ld TI3 rfl rfl (cell_of hC2 rfl) (WL.c rfl (o_ge rfl rfl (WL.c rfl (o_mvh vB (WL.sp 3 rfl (fun g15 => ?_) (fun g15 => ?_)))))))))
  ·skip
   refine WL.g rfl (g15) rfl (o_fa 2 TI50 rfl TI3 rfl rfl (WL.g rfl (g15) rfl (o_ld TI3 rfl rfl (cell_of hC2 rfl) (WL.g rfl (g15) rfl (o_mvh vI (WL.g rfl (g15) rfl (o_lt rfl rfl (WL.c rfl (o_pickA rfl rfl (WL.c rfl (o_ash vB ?_)))))))))))
   exact WL.nil (⟨congrArg Value.bool (by first | (have := of_decide_eq_false g15; rw [eq_comm, decide_eq_false_iff_not]; omega) | (have := of_decide_eq_true g15; rw [Bool.eq_iff_iff, Bool.and_eq_true, decide_eq_true_eq, decide_eq_true_eq, decide_eq_true_eq])), rfl, rfl, hC2, hx⟩)
  skip
  refine WL.s rfl (g15) rfl (WL.s rfl (g15) rfl (WL.s rfl (g15) rfl (WL.s rfl (g15) rfl (WL.c rfl (o_pickF rfl (g15) (WL.c rfl (o_ash vB ?_)))))))
  exact WL.nil (⟨congrArg Value.bool (by first | (have := of_decide_eq_false g15; rw [eq_comm, decide_eq_false_iff_not]; omega) | (have := of_decide_eq_true g15; rw [Bool.eq_iff_iff, Bool.and_eq_true, decide_eq_true_eq, decide_eq_true_eq, decide_eq_true_eq])), rfl, rfl, hC2, hx⟩)
 rintro e w ⟨h5, h1, h2, hC2, hx⟩
 refine W.seq (W.seq (W.region (WL.c rfl (o_fa 0 TI50 rfl TI3 rfl h2 (WL.c rfl (o_ld TI3 rfl rfl (cell_of hC2 rfl) (WL.nil (W.block (W.seq (W.seq ?_))))))))))
 by_cases k1 : t.kind = 1
 rotate_left
 by_cases k2 : t.kind = 2
 rotate_left
 by_cases k3 : t.kind = 3
 rotate_left
 by_cases k4 : t.kind = 4
 rotate_left
 by_cases k5 : t.kind = 5
 rotate_left
 by_cases k6 : t.kind = 6
 rotate_left
 by_cases k8 : t.kind = 8
 rotate_left
 by_cases k7 : t.kind = 7
 ·skip
  have hkk : t.kind = 7 ∨ t.kind = 8 := by omega
  refine W.region (WL.c rfl (o_eq rfl rfl (WL.c rfl (o_ash vB (WL.nil (W.condF' rfl (decide_eq_false k1) (W.seq (W.region (WL.c rfl (o_eq rfl rfl (WL.c rfl (o_ash vB (WL.nil (W.condF' rfl (decide_eq_false k2) (W.region (WL.c rfl (o_eq rfl rfl (WL.c rfl (o_ash vB (WL.nil (W.condF' rfl (decide_eq_false k3) (W.seq (W.seq (W.region (WL.c rfl (o_eq rfl rfl (WL.c rfl (o_ash vB (WL.nil (W.condF' rfl (decide_eq_false k4) (W.seq (W.region (WL.c rfl (o_eq rfl rfl (WL.c rfl (o_ash vB (WL.nil (W.condF' rfl (decide_eq_false k5) (W.region (WL.c rfl (o_eq rfl rfl (WL.c rfl (o_ash vB (WL.nil (W.condF' rfl (decide_eq_false k6) (W.seq (W.region (WL.c rfl (o_eq rfl rfl (WL.c rfl (o_ash vB (WL.nil (W.condF' rfl (decide_eq_false k8) ?_)))))))))))))))))))))))))))))))))))))))))))))))))))))
  refine W.seq (W.region (WL.c rfl (o_eq rfl rfl (WL.c rfl (o_ash vB (WL.nil (W.condT' rfl (decide_eq_true k7) (W.seq (W.region (WL.c rfl (o_fa 2 TI50 rfl TI3 rfl h2 (WL.c rfl (o_ld TI3 rfl rfl (cell_of hC2 rfl) (WL.c rfl (o_eq rfl rfl (WL.c rfl (o_mvh vB (WL.sp 3 rfl (fun g62 => ?_) (fun g62 => ?_)))))))))))))))))))
  ·skip
   refine WL.g rfl (g62) rfl (o_ldA TI50 rfl h2 (show Cells _ b2 0 (tcell t pv) from Cells.of hC2 0 _ (by simp)) rfl (WL.g rfl (g62) rfl (o_mvh h1 (WL.g rfl (g62) rfl (o_call Try.call59 (lc rfl (lc rfl (lc rfl ln))) ((tparts_spec t pv at_ 64 _ (hS00.ext hx) hl).mono ?_))))))
   rintro v65 w65 ⟨rfl, hx65⟩
   replace hx := hx.tr hx65
   refine WL.c rfl (o_pickA rfl rfl (WL.c rfl (o_ash vB (WL.nil (W.ret (ret1v rfl vB ?_))))))
   exact ⟨congrArg Value.bool (by first | exact (tpB_78 hkk hnk).symm | (rw [tpB_78 hkk hnk, g62]; rfl)), hx⟩
  skip
  refine WL.s rfl (g62) rfl (WL.s rfl (g62) rfl (WL.s rfl (g62) rfl (WL.c rfl (o_pickF rfl (g62) (WL.c rfl (o_ash vB (WL.nil (W.ret (ret1v rfl vB ?_)))))))))
  exact ⟨congrArg Value.bool (by first | exact (tpB_78 hkk hnk).symm | (rw [tpB_78 hkk hnk, g62]; rfl)), hx⟩
 ·skip
  skip
  refine W.region (WL.c rfl (o_eq rfl rfl (WL.c rfl (o_ash vB (WL.nil (W.condF' rfl (decide_eq_false k1) (W.seq (W.region (WL.c rfl (o_eq rfl rfl (WL.c rfl (o_ash vB (WL.nil (W.condF' rfl (decide_eq_false k2) (W.region (WL.c rfl (o_eq rfl rfl (WL.c rfl (o_ash vB (WL.nil (W.condF' rfl (decide_eq_false k3) (W.seq (W.seq (W.region (WL.c rfl (o_eq rfl rfl (WL.c rfl (o_ash vB (WL.nil (W.condF' rfl (decide_eq_false k4) (W.seq (W.region (WL.c rfl (o_eq rfl rfl (WL.c rfl (o_ash vB (WL.nil (W.condF' rfl (decide_eq_false k5) (W.region (WL.c rfl (o_eq rfl rfl (WL.c rfl (o_ash vB (WL.nil (W.condF' rfl (decide_eq_false k6) (W.seq (W.region (WL.c rfl (o_eq rfl rfl (WL.c rfl (o_ash vB (WL.nil (W.condF' rfl (decide_eq_false k8) ?_)))))))))))))))))))))))))))))))))))))))))))))))))))))
  refine W.seq (W.region (WL.c rfl (o_eq rfl rfl (WL.c rfl (o_ash vB (WL.nil (W.condF' rfl (decide_eq_false k7) (W.skip (W.seq (W.region (WL.c rfl (o_ash vB (WL.nil (W.ret (ret1v rfl vB ?_)))))))))))))))
  exact ⟨congrArg Value.bool (tpB_else ⟨by omega, by omega, by omega⟩).symm, hx⟩
 ·skip
  have hkk : t.kind = 1 ∨ t.kind = 2 ∨ t.kind = 3 := by omega
  refine W.region (WL.c rfl (o_eq rfl rfl (WL.c rfl (o_ash vB (WL.nil (W.condT' rfl (decide_eq_true k1) (W.skip (W.condT' rfl (decide_eq_true k1) (W.seq (W.region (WL.c rfl (o_fa 2 TI50 rfl TI3 rfl h2 (WL.c rfl (o_ld TI3 rfl rfl (cell_of hC2 rfl) (WL.c rfl (o_eq rfl rfl (WL.c rfl (o_mvh vB (WL.sp 3 rfl (fun g30 => ?_) (fun g30 => ?_))))))))))))))))))))
  ·skip
   refine WL.g rfl (g30) rfl (o_fa 3 TI50 rfl TI48 rfl h2 (WL.g rfl (g30) rfl (o_ld TI48 rfl rfl (cell_of hC2 rfl) (WL.g rfl (g30) rfl (o_lenR TI48 rfl (hS00.ext hx) (WL.g rfl (g30) rfl (o_eq rfl rfl (WL.c rfl (o_pickA rfl rfl (WL.c rfl (o_ash vB (WL.nil (W.ret (ret1v rfl vB ?_))))))))))))))
   exact ⟨congrArg Value.bool (by first | exact (tpB_123 hkk hnk).symm | (rw [tpB_123 hkk hnk, g30]; rfl)), hx⟩
  skip
  refine WL.s rfl (g30) rfl (WL.s rfl (g30) rfl (WL.s rfl (g30) rfl (WL.s rfl (g30) rfl (WL.c rfl (o_pickF rfl (g30) (WL.c rfl (o_ash vB (WL.nil (W.ret (ret1v rfl vB ?_))))))))))
  exact ⟨congrArg Value.bool (by first | exact (tpB_123 hkk hnk).symm | (rw [tpB_123 hkk hnk, g30]; rfl)), hx⟩
 ·skip
  have hkk : t.kind = 1 ∨ t.kind = 2 ∨ t.kind = 3 := by omega
  refine W.region (WL.c rfl (o_eq rfl rfl (WL.c rfl (o_ash vB (WL.nil (W.condF' rfl (decide_eq_false k1) (W.seq (W.region (WL.c rfl (o_eq rfl rfl (WL.c rfl (o_ash vB (WL.nil (W.condT' rfl (decide_eq_true k2) (W.skip (W.condT' rfl (decide_eq_true k2) (W.seq (W.region (WL.c rfl (o_fa 2 TI50 rfl TI3 rfl h2 (WL.c rfl (o_ld TI3 rfl rfl (cell_of hC2 rfl) (WL.c rfl (o_eq rfl rfl (WL.c rfl (o_mvh vB (WL.sp 3 rfl (fun g30 => ?_) (fun g30 => ?_))))))))))))))))))))))))))))
  ·skip
   refine WL.g rfl (g30) rfl (o_fa 3 TI50 rfl TI48 rfl h2 (WL.g rfl (g30) rfl (o_ld TI48 rfl rfl (cell_of hC2 rfl) (WL.g rfl (g30) rfl (o_lenR TI48 rfl (hS00.ext hx) (WL.g rfl (g30) rfl (o_eq rfl rfl (WL.c rfl (o_pickA rfl rfl (WL.c rfl (o_ash vB (WL.nil (W.ret (ret1v rfl vB ?_))))))))))))))
   exact ⟨congrArg Value.bool (by first | exact (tpB_123 hkk hnk).symm | (rw [tpB_123 hkk hnk, g30]; rfl)), hx⟩
  skip
  refine WL.s rfl (g30) rfl (WL.s rfl (g30) rfl (WL.s rfl (g30) rfl (WL.s rfl (g30) rfl (WL.c rfl (o_pickF rfl (g30) (WL.c rfl (o_ash vB (WL.nil (W.ret (ret1v rfl vB ?_))))))))))
  exact ⟨congrArg Value.bool (by first | exact (tpB_123 hkk hnk).symm | (rw [tpB_123 hkk hnk, g30]; rfl)), hx⟩
 ·skip
  have hkk : t.kind = 1 ∨ t.kind = 2 ∨ t.kind = 3 := by omega
  refine W.region (WL.c rfl (o_eq rfl rfl (WL.c rfl (o_ash vB (WL.nil (W.condF' rfl (decide_eq_false k1) (W.seq (W.region (WL.c rfl (o_eq rfl rfl (WL.c rfl (o_ash vB (WL.nil (W.condF' rfl (decide_eq_false k2) (W.region (WL.c rfl (o_eq rfl rfl (WL.c rfl (o_ash vB (WL.nil (W.condT' rfl (decide_eq_true k3) (W.seq (W.region (WL.c rfl (o_fa 2 TI50 rfl TI3 rfl h2 (WL.c rfl (o_ld TI3 rfl rfl (cell_of hC2 rfl) (WL.c rfl (o_eq rfl rfl (WL.c rfl (o_mvh vB (WL.sp 3 rfl (fun g30 => ?_) (fun g30 => ?_)))))))))))))))))))))))))))))))))
  ·skip
   refine WL.g rfl (g30) rfl (o_fa 3 TI50 rfl TI48 rfl h2 (WL.g rfl (g30) rfl (o_ld TI48 rfl rfl (cell_of hC2 rfl) (WL.g rfl (g30) rfl (o_lenR TI48 rfl (hS00.ext hx) (WL.g rfl (g30) rfl (o_eq rfl rfl (WL.c rfl (o_pickA rfl rfl (WL.c rfl (o_ash vB (WL.nil (W.ret (ret1v rfl vB ?_))))))))))))))
   exact ⟨congrArg Value.bool (by first | exact (tpB_123 hkk hnk).symm | (rw [tpB_123 hkk hnk, g30]; rfl)), hx⟩
  skip
  refine WL.s rfl (g30) rfl (WL.s rfl (g30) rfl (WL.s rfl (g30) rfl (WL.s rfl (g30) rfl (WL.c rfl (o_pickF rfl (g30) (WL.c rfl (o_ash vB (WL.nil (W.ret (ret1v rfl vB ?_))))))))))
  exact ⟨congrArg Value.bool (by first | exact (tpB_123 hkk hnk).symm | (rw [tpB_123 hkk hnk, g30]; rfl)), hx⟩
 ·skip
  have hkk : t.kind = 4 ∨ t.kind = 5 ∨ t.kind = 6 := by omega
  refine W.region (WL.c rfl (o_eq rfl rfl (WL.c rfl (o_ash vB (WL.nil (W.condF' rfl (decide_eq_false k1) (W.seq (W.region (WL.c rfl (o_eq rfl rfl (WL.c rfl (o_ash vB (WL.nil (W.condF' rfl (decide_eq_false k2) (W.region (WL.c rfl (o_eq rfl rfl (WL.c rfl (o_ash vB (WL.nil (W.condF' rfl (decide_eq_false k3) (W.seq (W.seq (W.region (WL.c rfl (o_eq rfl rfl (WL.c rfl (o_ash vB (WL.nil (W.condT' rfl (decide_eq_true k4) (W.skip (W.condT' rfl (decide_eq_true k4) (W.seq (W.region (WL.c rfl (o_mvh h5 (WL.c rfl (o_mvh vB (WL.sp 1 rfl (fun g41 => ?_) (fun g41 => ?_))))))))))))))))))))))))))))))))))))))))
  ·skip
   refine WL.g rfl (g41) rfl (o_fa 3 TI50 rfl TI48 rfl h2 (WL.g rfl (g41) rfl (o_ld TI48 rfl rfl (cell_of hC2 rfl) (WL.g rfl (g41) rfl (o_lenR TI48 rfl (hS00.ext hx) (WL.g rfl (g41) rfl (o_eq rfl rfl (WL.c rfl (o_pickA rfl rfl (WL.c rfl (o_ash vB (WL.nil (W.ret (ret1v rfl vB ?_))))))))))))))
   exact ⟨congrArg Value.bool (by first | exact (tpB_456 hkk hnk).symm | (rw [tpB_456 hkk hnk, g41]; rfl)), hx⟩
  skip
  refine WL.s rfl (g41) rfl (WL.s rfl (g41) rfl (WL.s rfl (g41) rfl (WL.s rfl (g41) rfl (WL.c rfl (o_pickF rfl (g41) (WL.c rfl (o_ash vB (WL.nil (W.ret (ret1v rfl vB ?_))))))))))
  exact ⟨congrArg Value.bool (by first | exact (tpB_456 hkk hnk).symm | (rw [tpB_456 hkk hnk, g41]; rfl)), hx⟩
 ·skip
  have hkk : t.kind = 4 ∨ t.kind = 5 ∨ t.kind = 6 := by omega
  refine W.region (WL.c rfl (o_eq rfl rfl (WL.c rfl (o_ash vB (WL.nil (W.condF' rfl (decide_eq_false k1) (W.seq (W.region (WL.c rfl (o_eq rfl rfl (WL.c rfl (o_ash vB (WL.nil (W.condF' rfl (decide_eq_false k2) (W.region (WL.c rfl (o_eq rfl rfl (WL.c rfl (o_ash vB (WL.nil (W.condF' rfl (decide_eq_false k3) (W.seq (W.seq (W.region (WL.c rfl (o_eq rfl rfl (WL.c rfl (o_ash vB (WL.nil (W.condF' rfl (decide_eq_false k4) (W.seq (W.region (WL.c rfl (o_eq rfl rfl (WL.c rfl (o_ash vB (WL.nil (W.condT' rfl (decide_eq_true k5) (W.skip (W.condT' rfl (decide_eq_true k5) (W.seq (W.region (WL.c rfl (o_mvh h5 (WL.c rfl (o_mvh vB (WL.sp 1 rfl (fun g41 => ?_) (fun g41 => ?_))))))))))))))))))))))))))))))))))))))))))))))))
  ·skip
   refine WL.g rfl (g41) rfl (o_fa 3 TI50 rfl TI48 rfl h2 (WL.g rfl (g41) rfl (o_ld TI48 rfl rfl (cell_of hC2 rfl) (WL.g rfl (g41) rfl (o_lenR TI48 rfl (hS00.ext hx) (WL.g rfl (g41) rfl (o_eq rfl rfl (WL.c rfl (o_pickA rfl rfl (WL.c rfl (o_ash vB (WL.nil (W.ret (ret1v rfl vB ?_))))))))))))))
   exact ⟨congrArg Value.bool (by first | exact (tpB_456 hkk hnk).symm | (rw [tpB_456 hkk hnk, g41]; rfl)), hx⟩
  skip
  refine WL.s rfl (g41) rfl (WL.s rfl (g41) rfl (WL.s rfl (g41) rfl (WL.s rfl (g41) rfl (WL.c rfl (o_pickF rfl (g41) (WL.c rfl (o_ash vB (WL.nil (W.ret (ret1v rfl vB ?_))))))))))
  exact ⟨congrArg Value.bool (by first | exact (tpB_456 hkk hnk).symm | (rw [tpB_456 hkk hnk, g41]; rfl)), hx⟩
 ·skip
  have hkk : t.kind = 4 ∨ t.kind = 5 ∨ t.kind = 6 := by omega
  refine W.region (WL.c rfl (o_eq rfl rfl (WL.c rfl (o_ash vB (WL.nil (W.condF' rfl (decide_eq_false k1) (W.seq (W.region (WL.c rfl (o_eq rfl rfl (WL.c rfl (o_ash vB (WL.nil (W.condF' rfl (decide_eq_false k2) (W.region (WL.c rfl (o_eq rfl rfl (WL.c rfl (o_ash vB (WL.nil (W.condF' rfl (decide_eq_false k3) (W.seq (W.seq (W.region (WL.c rfl (o_eq rfl rfl (WL.c rfl (o_ash vB (WL.nil (W.condF' rfl (decide_eq_false k4) (W.seq (W.region (WL.c rfl (o_eq rfl rfl (WL.c rfl (o_ash vB (WL.nil (W.condF' rfl (decide_eq_false k5) (W.region (WL.c rfl (o_eq rfl rfl (WL.c rfl (o_ash vB (WL.nil (W.condT' rfl (decide_eq_true k6) (W.seq (W.region (WL.c rfl (o_mvh h5 (WL.c rfl (o_mvh vB (WL.sp 1 rfl (fun g41 => ?_) (fun g41 => ?_)))))))))))))))))))))))))))))))))))))))))))))))))))))
  ·skip
   refine WL.g rfl (g41) rfl (o_fa 3 TI50 rfl TI48 rfl h2 (WL.g rfl (g41) rfl (o_ld TI48 rfl rfl (cell_of hC2 rfl) (WL.g rfl (g41) rfl (o_lenR TI48 rfl (hS00.ext hx) (WL.g rfl (g41) rfl (o_eq rfl rfl (WL.c rfl (o_pickA rfl rfl (WL.c rfl (o_ash vB (WL.nil (W.ret (ret1v rfl vB ?_))))))))))))))
   exact ⟨congrArg Value.bool (by first | exact (tpB_456 hkk hnk).symm | (rw [tpB_456 hkk hnk, g41]; rfl)), hx⟩
  skip
  refine WL.s rfl (g41) rfl (WL.s rfl (g41) rfl (WL.s rfl (g41) rfl (WL.s rfl (g41) rfl (WL.c rfl (o_pickF rfl (g41) (WL.c rfl (o_ash vB (WL.nil (W.ret (ret1v rfl vB ?_))))))))))
  exact ⟨congrArg Value.bool (by first | exact (tpB_456 hkk hnk).symm | (rw [tpB_456 hkk hnk, g41]; rfl)), hx⟩
 skip
 have hkk : t.kind = 7 ∨ t.kind = 8 := by omega
 refine W.region (WL.c rfl (o_eq rfl rfl (WL.c rfl (o_ash vB (WL.nil (W.condF' rfl (decide_eq_false k1) (W.seq (W.region (WL.c rfl (o_eq rfl rfl (WL.c rfl (o_ash vB (WL.nil (W.condF' rfl (decide_eq_false k2) (W.region (WL.c rfl (o_eq rfl rfl (WL.c rfl (o_ash vB (WL.nil (W.condF' rfl (decide_eq_false k3) (W.seq (W.seq (W.region (WL.c rfl (o_eq rfl rfl (WL.c rfl (o_ash vB (WL.nil (W.condF' rfl (decide_eq_false k4) (W.seq (W.region (WL.c rfl (o_eq rfl rfl (WL.c rfl (o_ash vB (WL.nil (W.condF' rfl (decide_eq_false k5) (W.region (WL.c rfl (o_eq rfl rfl (WL.c rfl (o_ash vB (WL.nil (W.condF' rfl (decide_eq_false k6) (W.seq (W.region (WL.c rfl (o_eq rfl rfl (WL.c rfl (o_ash vB (WL.nil (W.condT' rfl (decide_eq_true k8) ?_)))))))))))))))))))))))))))))))))))))))))))))))))))))
 refine W.seq (W.region (WL.c rfl (o_fa 2 TI50 rfl TI3 rfl h2 (WL.c rfl (o_ld TI3 rfl rfl (cell_of hC2 rfl) (WL.c rfl (o_eq rfl rfl (WL.c rfl (o_mvh vB (WL.sp 3 rfl (fun g52 => ?_) (fun g52 => ?_)))))))))))
 ·skip
  refine WL.g rfl (g52) rfl (o_ldA TI50 rfl h2 (show Cells _ b2 0 (tcell t pv) from Cells.of hC2 0 _ (by simp)) rfl (WL.g rfl (g52) rfl (o_mvh h1 (WL.g rfl (g52) rfl (o_call Try.call59 (lc rfl (lc rfl (lc rfl ln))) ((tparts_spec t pv at_ 64 _ (hS00.ext hx) hl).mono ?_))))))
  rintro v55 w55 ⟨rfl, hx55⟩
  replace hx := hx.tr hx55
  refine WL.c rfl (o_pickA rfl rfl (WL.c rfl (o_ash vB (WL.nil (W.ret (ret1v rfl vB ?_))))))
  exact ⟨congrArg Value.bool (by first | exact (tpB_78 hkk hnk).symm | (rw [tpB_78 hkk hnk, g52]; rfl)), hx⟩
 skip
 refine WL.s rfl (g52) rfl (WL.s rfl (g52) rfl (WL.s rfl (g52) rfl (WL.c rfl (o_pickF rfl (g52) (WL.c rfl (o_ash vB (WL.nil (W.ret (ret1v rfl vB ?_)))))))))
 exact ⟨congrArg Value.bool (by first | exact (tpB_78 hkk hnk).symm | (rw [tpB_78 hkk hnk, g52]; rfl)), hx⟩
end Go.Proofs.Ytpbflfgigfdohaa

namespace Go.Proofs.Ytpbflfgigfdohaa
open Go Go.Vc Go.RowKit Go.Proofs

theorem depL_get {L : List Tp} {i j : Nat} (hi : i ≤ L.length) (hj : j < i) : (depL (L.take i) []).getD j 0 = dpI L j := by
 unfold dpI
 rw [depL_take_eq L i hi, List.getD_eq_getElem?_getD, List.getD_eq_getElem?_getD, List.getElem?_take, if_pos hj]
/-- the depth of the element; of the first q parts too -/
def bsD (L : List Tp) (t : Tp) : Nat := if t.kind = 4 ∨ t.kind = 5 ∨ t.kind = 6 then dpI L t.elem.toNat else 0
def mxD (L : List Tp) (t : Tp) (q : Nat) : Nat := (t.parts.take q).foldl (fun m p => max m (dpI L p.ty.toNat)) (bsD L t)
theorem mxD_zero (L : List Tp) (t : Tp) : mxD L t 0 = bsD L t := by simp [mxD]
theorem mxD_succ {L : List Tp} {t : Tp} {q : Nat} (hq : q < t.parts.length) : mxD L t (q + 1) = max (mxD L t q) (dpI L t.parts[q].ty.toNat) := by
 unfold mxD
 rw [List.take_succ_eq_append_getElem hq, List.foldl_append]; rfl
theorem tp_elem {t : Tp} {at_ : Int} (h : tpOk t at_) (hk : t.kind = 4 ∨ t.kind = 5 ∨ t.kind = 6) : 0 ≤ t.elem ∧ t.elem < at_ := by
 obtain ⟨-, h2⟩ := h
 rw [if_neg (by omega), if_pos hk] at h2
 exact ⟨h2.1, h2.2.1⟩
theorem tp_part {t : Tp} {at_ : Int} (h : tpOk t at_) {q : Nat} (hq : q < t.parts.length) : 0 ≤ t.parts[q].ty ∧ t.parts[q].ty < at_ := by
 obtain ⟨-, h2⟩ := h
 have hne : ¬ t.parts = [] := by intro e; rw [e] at hq; simp at hq
 split at h2
 ·exact absurd h2.2 hne
 split at h2
 ·exact absurd h2.2.2 hne
 obtain ⟨_, -, h3, h4, -⟩ := h2.2.2.2.2 q hq
 exact ⟨h3, h4⟩
theorem foldl_cong {α β : Type} {f g : β → α → β} : ∀ (l : List α) (b : β), (∀ b, ∀ a ∈ l, f b a = g b a) → l.foldl f b = l.foldl g b
 | [], _, _ => rfl
 | a :: l, b, h => by rw [List.foldl_cons, List.foldl_cons, h b a (List.mem_cons_self ..)]; exact foldl_cong l _ fun b x hx => h b x (List.mem_cons_of_mem _ hx)
theorem dpI_mx {L : List Tp} {i : Nat} (hi : i < L.length) (hok : tpOk L[i] (i : Int)) : dpI L i = mxD L L[i] L[i].parts.length + 1 := by
 rw [dpI_at hi, dpT1, mxD, List.take_length, bsD]
 congr 1
 have hb : (if L[i].kind = 4 ∨ L[i].kind = 5 ∨ L[i].kind = 6 then (depL (L.take i) []).getD L[i].elem.toNat 0 else 0) = if L[i].kind = 4 ∨ L[i].kind = 5 ∨ L[i].kind = 6 then dpI L L[i].elem.toNat else 0 := by
  split
  ·rename_i hk
   have := tp_elem hok hk
   exact depL_get (by omega) (by omega)
  rfl
 rw [hb]
 refine foldl_cong _ _ fun b a ha => ?_
 obtain ⟨q, hq, rfl⟩ := List.getElem_of_mem ha
 have := tp_part hok hq
 rw [depL_get (by omega) (by omega)]
theorem mxD_le {L : List Tp} {i : Nat} (hi : i < L.length) (hok : tpOk L[i] (i : Int)) (hd : ∀ j, j < i → ¬ 64 < dpI L j) : ∀ q, q ≤ L[i].parts.length → mxD L L[i] q ≤ 64
 | 0, _ => by
  rw [mxD_zero, bsD]
  split
  ·rename_i hk
   have := tp_elem hok hk
   have := hd L[i].elem.toNat (by omega)
   omega
  omega
 | q + 1, hq => by
  rw [mxD_succ (by omega)]
  have h1 := mxD_le hi hok hd q (by omega)
  have h2 := tp_part hok (q := q) (by omega)
  have h3 := hd L[i].parts[q].ty.toNat (by omega)
  omega
def dpV (L : List Tp) : Int × Int := (dpF L).getD (0, 0)
theorem dpV_hit {L : List Tp} {i : Nat} (hi : i < L.length) (h : 64 < dpI L i) (hb : ∀ j, j < i → ¬ 64 < dpI L j) : dpF L = some (83, (i : Int)) := firstN_hit hi (by rw [if_pos h]) (fun j hj => if_neg (hb j hj))
theorem dpV_no {L : List Tp} (h : ∀ j, j < L.length → ¬ 64 < dpI L j) : dpF L = none := firstN_miss fun j hj => if_neg (h j hj)
/-- what the machine can hold of a list of types -/
structure LLim (L : List Tp) : Prop where
 len : L.length * 48 ≤ 140737488351232
 ty : ∀ t ∈ L, TLim t

set_option maxHeartbeats 4000000 in
theorem tdeep_spec (L : List Tp) (lv : Value) (V : Nat → Value) (w0 : World) (hT : TypR w0 L lv V) (hok : ∀ i (hi : i < L.length), tpOk L[i] (i : Int)) (hl : LLim L) : Ca Try.prog 33 #[lv] w0 (fun v w' => v = .agg #[.int .i64 (dpV L).1, .int .i64 (dpV L).2] ∧ Ext w0 w') := by
 have hlen := hl.len
 refine Ca.of Try.func33 Try.ntmps33 rfl rfl (W.seq (W.region (WL.c rfl (o_alB TI28 ?_))))
 intro wb hC2 hx hsb
 obtain ⟨c2, hc2⟩ : ∃ c, c = w0.heap.size := ⟨_, rfl⟩
 rw [← hc2] at hC2 ⊢
 replace hC2 : wb.heap[c2]? = some (.cells #[.int .i64 0, .int .i64 0] 28 (0, 0)) := hC2
 refine WL.nil (W.seq (W.region (WL.c rfl (o_mvh (by first | exact vS | exact rfl) (WL.c rfl (o_lenR TI31 rfl (hT.ext hx).row (WL.c rfl (o_mk2 TI79 TI3 (l := L.length) (n := L.length) rfl rfl (Nat.le_refl _) (by omega) (by omega) ?_))))))))
 have hro := own_made1 (w := wb) (el := 3) (l := L.length) (n := L.length) (z := .int .i64 0) rfl (Nat.le_refl _) (by omega)
 have hxm : Ext wb (wb.alloc (.cells (madeCells (Value.int .i64 0).cells (L.length * 1)) 3)) := Only.alloc wb _
 generalize wb.alloc (.cells (madeCells (Value.int .i64 0).cells (L.length * 1)) 3) = wt at hro hxm ⊢
 obtain ⟨B, hB⟩ : ∃ b, b = wb.heap.size := ⟨_, rfl⟩
 have hzB : w0.heap.size ≤ B := by rw [hB]; exact hx.size
 rw [← hB] at hro ⊢
 replace hro : wt.ownsRow B 3 1 (.slice (some ⟨B, 0, none⟩) L.length L.length) L.length (dps L.length (fun _ => 0)) := by rw [dps_zero]; exact hro
 replace hx := hx.tr hxm
 replace hC2 := hxm.blk hC2 (fun h => h)
 refine WL.c rfl (o_ash (by first | exact vS | exact rfl) (WL.nil (W.seq (W.seq (W.region (WL.c rfl (o_mvh (by first | exact vS | exact rfl) (WL.c rfl (o_lenR TI31 rfl (hT.ext hx).row (WL.c rfl (o_mvh vI (WL.nil (W.block (W.loop (fun e w => ∃ (i : Nat) (f : Nat → Nat), i ≤ L.length ∧ e 2 = .pointer (some ⟨c2, 0, none⟩) ∧ e 3 = (.slice (some ⟨B, 0, none⟩) L.length L.length) ∧ e 11 = lv ∧ e 12 = .int .i64 (L.length : Int) ∧ e 13 = .int .i64 (i : Int) ∧ w.ownsRow B 3 1 (.slice (some ⟨B, 0, none⟩) L.length L.length) L.length (dps L.length f) ∧ (∀ j, j < i → f j = dpI L j) ∧ (∀ j, j < i → ¬ 64 < dpI L j) ∧ (∀ j, i ≤ j → f j = 0) ∧ w.heap[c2]? = some (.cells #[.int .i64 0, .int .i64 0] 28 (0, 0)) ∧ Ext w0 w) (fun e w => L.length - (intOf (e 13)).toNat) ?_ ?_))))))))))))))
 ·exact ⟨0, fun _ => 0, Nat.zero_le _, rfl, rfl, rfl, rfl, rfl, hro, fun j hj => by omega, fun j hj => by omega, fun j hj => rfl, hC2, hx⟩
 rintro e w ⟨i, f, hi, h2, h3, h11, h12, h13, hro, hf, hd, hz, hC2, hx⟩
 have hm13 := h13
 refine W.seq (W.region (WL.c rfl (o_lt h13 h12 (WL.nil (W.seq (W.cond rfl (fun c14 => ?_) (fun c14 => ?_)))))))
 ·try simp only [cs8] at c14
  have hi1 : i < L.length := by omega
  obtain ⟨tb, to_, tc, hlv, htc, hty⟩ := (hT.ext hx).atk hi1
  rw [hlv] at h11
  have hoki := hok i hi1
  have hmx := mxD_le hi1 hoki hd
  have hdm := dpI_mx hi1 hoki
  have htl := (hl.ty _ (List.getElem_mem hi1)).len
  obtain ⟨t, ht⟩ : ∃ t, t = L[i] := ⟨_, rfl⟩
  rw [← ht] at htc hty hoki hmx hdm htl
  have hpt := fun q (hq : q < t.parts.length) => tp_part hoki hq
  refine W.skip (W.seq (W.block (W.seq (W.region (WL.c rfl (o_mvh h13 (WL.c rfl (o_ixB (i := i) TI31 TI50 h11 h13 (by omega) (WL.c rfl (o_ldA TI50 rfl rfl htc rfl (WL.c rfl (o_alB TI50 ?_))))))))))))
  intro wa hCa hxa hsa
  refine WL.c rfl (o_ash vI (WL.u (o_stA TI50 rfl (show _ = Value.agg (tcell t (V i)).toArray from rfl) rfl (List.all_eq_true.2 (tcell_all (sl_one1 hty))) hCa rfl ?_)))
  intro wb5 hC5 hob hsb
  have hxb := Ext.own hxa (Nat.le_refl _) hob
  obtain ⟨b5, hb5⟩ : ∃ b, b = w.heap.size := ⟨_, rfl⟩
  rw [← hb5] at hC5 ⊢
  clear hCa hxa hsa hob hsb
  replace hx := hx.tr hxb
  replace hro := own_ext hro hxb
  replace hC2 := hxb.blk hC2 (fun h => h)
  clear hxb
  refine WL.nil (W.seq (W.seq (W.region (WL.c rfl (o_fa 0 TI50 rfl TI3 rfl rfl (WL.c rfl (o_ld TI3 rfl rfl (cell_of hC5 rfl) (WL.nil (W.block (W.seq (W.seq ?_)))))))))))
  replace hty := fun w9 (h9 : Ext w0 w9) => (show Sl w9 3 (V i) t.parts.length (pas t.parts) from by have := (hT.ext h9).tys i hi1; rw [pasT_at hi1, ← ht] at this; exact this)
  refine W.region (WL.c rfl (o_eq rfl rfl (WL.c rfl (o_ash vB (WL.nil (W.cut (fun e1 w1 => e1 20 = .bool (decide (t.kind = 4 ∨ t.kind = 5 ∨ t.kind = 6)) ∧ e1 2 = .pointer (some ⟨c2, 0, none⟩) ∧ e1 3 = (.slice (some ⟨B, 0, none⟩) L.length L.length) ∧ e1 4 = .int .i64 (i : Int) ∧ e1 5 = .pointer (some ⟨b5, 0, none⟩) ∧ e1 11 = (.slice (some ⟨tb, to_, none⟩) L.length tc) ∧ e1 12 = .int .i64 (L.length : Int) ∧ e1 13 = .int .i64 (i : Int) ∧ w1.ownsRow B 3 1 (.slice (some ⟨B, 0, none⟩) L.length L.length) L.length (dps L.length f) ∧ w1.heap[c2]? = some (.cells #[.int .i64 0, .int .i64 0] 28 (0, 0)) ∧ w1.heap[b5]? = some (.cells (tcell t (V i)).toArray 50 (0, 0)) ∧ Ext w0 w1) ?_ ?_))))))
  ·-- both ways
   refine W.cond rfl (fun c20 => ?_) (fun c20 => ?_)
   ·try simp only [cs8] at c20
    try have hk4 : t.kind = 4 ∨ t.kind = 5 ∨ t.kind = 6 := c20
    try have hel := tp_elem hoki hk4
    try have hen : t.elem = ((t.elem.toNat : Nat) : Int) := by omega
    refine W.skip ?_
    exact ⟨congrArg Value.bool (by simp_all), h2, h3, rfl, rfl, h11, h12, h13, hro, hC2, hC5, hx⟩
   try simp only [cs8] at c20
   try have hk4 : ¬ (t.kind = 4 ∨ t.kind = 5 ∨ t.kind = 6) := c20
   refine W.seq (W.region (WL.c rfl (o_eq rfl rfl (WL.c rfl (o_ash vB (WL.nil (W.cond rfl (fun c20 => ?_) (fun c20 => ?_))))))))
   ·try simp only [cs8] at c20
    try have hk4 : t.kind = 4 ∨ t.kind = 5 ∨ t.kind = 6 := c20
    try have hel := tp_elem hoki hk4
    try have hen : t.elem = ((t.elem.toNat : Nat) : Int) := by omega
    refine W.skip ?_
    exact ⟨congrArg Value.bool (by simp_all), h2, h3, rfl, rfl, h11, h12, h13, hro, hC2, hC5, hx⟩
   try simp only [cs8] at c20
   try have hk4 : ¬ (t.kind = 4 ∨ t.kind = 5 ∨ t.kind = 6) := c20
   refine W.region (WL.c rfl (o_eq rfl rfl (WL.c rfl (o_ash vB (WL.nil ?_)))))
   exact ⟨congrArg Value.bool (by simp_all), h2, h3, rfl, rfl, h11, h12, h13, hro, hC2, hC5, hx⟩
  rintro e w ⟨h20, h2, h3, h4, h5, h11, h12, h13, hro, hC2, hC5, hx⟩
  refine W.cut (fun e1 w1 => ∃ f2 : Nat → Nat, e1 2 = .pointer (some ⟨c2, 0, none⟩) ∧ e1 3 = (.slice (some ⟨B, 0, none⟩) L.length L.length) ∧ e1 4 = .int .i64 (i : Int) ∧ e1 5 = .pointer (some ⟨b5, 0, none⟩) ∧ e1 11 = (.slice (some ⟨tb, to_, none⟩) L.length tc) ∧ e1 12 = .int .i64 (L.length : Int) ∧ e1 13 = .int .i64 (i : Int) ∧ w1.ownsRow B 3 1 (.slice (some ⟨B, 0, none⟩) L.length L.length) L.length (dps L.length f2) ∧ (∀ j, ¬ j = i → f2 j = f j) ∧ f2 i = bsD L t ∧ w1.heap[c2]? = some (.cells #[.int .i64 0, .int .i64 0] 28 (0, 0)) ∧ w1.heap[b5]? = some (.cells (tcell t (V i)).toArray 50 (0, 0)) ∧ Ext w0 w1) ?_ ?_
  ·-- both ways
   refine W.cond h20 (fun c20 => ?_) (fun c20 => ?_)
   ·try simp only [cs8] at c20
    try have hk4 : t.kind = 4 ∨ t.kind = 5 ∨ t.kind = 6 := c20
    try have hel := tp_elem hoki hk4
    try have hen : t.elem = ((t.elem.toNat : Nat) : Int) := by omega
    refine W.region (WL.c rfl (o_mvh h3 (WL.c rfl (o_mvh h4 (WL.c rfl (o_mvh h3 (WL.c rfl (o_fa 2 TI50 rfl TI3 rfl h5 (WL.c rfl (o_ld TI3 rfl rfl (cell_of hC5 rfl) (WL.c rfl (o_ixB (i := t.elem.toNat) TI79 TI3 (show _ = Value.slice (some ⟨B, 0, none⟩) L.length L.length from rfl) (show _ = Value.int .i64 ((t.elem.toNat : Nat) : Int) from by rw [← hen]; rfl) (by omega) (WL.c rfl (o_ld TI3 rfl rfl (show World.cell? _ ⟨B, 0 + t.elem.toNat * 1, none⟩ = some (iv (f (t.elem.toNat))) from by rw [Nat.zero_add, Nat.mul_one]; exact own_cell hro (dps_at (by omega))) (WL.c rfl (o_ixB (i := i) TI79 TI3 (show _ = Value.slice (some ⟨B, 0, none⟩) L.length L.length from rfl) (show _ = Value.int .i64 ((i : Nat) : Int) from rfl) (by omega) (WL.u (o_stRj TI3 rfl (show 0 + i * 1 = i by omega) (show _ = iv (f t.elem.toNat) from rfl) rfl hro (show Value.ownBlock (Value.slice (some ⟨B, 0, none⟩) L.length L.length) = some B from rfl) (by omega) ?_))))))))))))))))))
    intro w31 hr31 ho31 hs31
    rw [dps_set] at hr31
    replace hC2 := ho31.blk hC2 (fun h => own_off hro hC2 (by decide) h)
    try replace hC5 := ho31.blk hC5 (fun h => own_off hro hC5 (by decide) h)
    replace hx := hx.trans' ho31 (fun _ h => h) (fun b hb h => by have := (hro.lt b h).1; omega)
    replace hro := hr31
    refine WL.nil ?_
    first | exact ⟨updN f i (f t.elem.toNat), h2, h3, h4, h5, h11, h12, h13, hro, fun j hj => if_neg hj, by unfold updN bsD; rw [if_pos rfl, if_pos hk4, hf _ (by omega)], hC2, hC5, hx⟩ | exact ⟨f, h2, h3, h4, h5, h11, h12, h13, hro, fun j hj => rfl, by unfold bsD; rw [if_neg hk4]; exact hz i (Nat.le_refl _), hC2, hC5, hx⟩
   try simp only [cs8] at c20
   try have hk4 : ¬ (t.kind = 4 ∨ t.kind = 5 ∨ t.kind = 6) := c20
   refine W.skip ?_
   first | exact ⟨updN f i (f t.elem.toNat), h2, h3, h4, h5, h11, h12, h13, hro, fun j hj => if_neg hj, by unfold updN bsD; rw [if_pos rfl, if_pos hk4, hf _ (by omega)], hC2, hC5, hx⟩ | exact ⟨f, h2, h3, h4, h5, h11, h12, h13, hro, fun j hj => rfl, by unfold bsD; rw [if_neg hk4]; exact hz i (Nat.le_refl _), hC2, hC5, hx⟩
  rintro e w ⟨f2, h2, h3, h4, h5, h11, h12, h13, hro, hf2, hfi, hC2, hC5, hx⟩
  refine W.seq (W.seq (W.region (WL.c rfl (o_fa 3 TI50 rfl TI48 rfl h5 (WL.c rfl (o_ld TI48 rfl rfl (cell_of hC5 rfl) (WL.c rfl (o_lenR TI48 rfl (hty _ hx) (WL.c rfl (o_mvh vI (WL.nil (W.block (W.loop (fun e w => ∃ (q : Nat) (f : Nat → Nat), q ≤ t.parts.length ∧ e 2 = .pointer (some ⟨c2, 0, none⟩) ∧ e 3 = (.slice (some ⟨B, 0, none⟩) L.length L.length) ∧ e 4 = .int .i64 (i : Int) ∧ e 11 = (.slice (some ⟨tb, to_, none⟩) L.length tc) ∧ e 12 = .int .i64 (L.length : Int) ∧ e 13 = .int .i64 (i : Int) ∧ e 33 = V i ∧ e 34 = .int .i64 (t.parts.length : Int) ∧ e 35 = .int .i64 (q : Int) ∧ w.ownsRow B 3 1 (.slice (some ⟨B, 0, none⟩) L.length L.length) L.length (dps L.length f) ∧ (∀ j, j < i → f j = dpI L j) ∧ f i = mxD L t q ∧ (∀ j, i < j → f j = 0) ∧ w.heap[c2]? = some (.cells #[.int .i64 0, .int .i64 0] 28 (0, 0)) ∧ Ext w0 w) (fun e w => t.parts.length - (intOf (e 35)).toNat) ?_ ?_)))))))))))))
  ·exact ⟨0, f2, Nat.zero_le _, h2, h3, h4, h11, h12, h13, rfl, rfl, rfl, hro, fun j hj => by rw [hf2 j (by omega)]; exact hf j hj, by rw [mxD_zero]; exact hfi, fun j hj => by rw [hf2 j (by omega)]; exact hz j (by omega), hC2, hx⟩
  rintro e w ⟨q, f, hq, h2, h3, h4, h11, h12, h13, h33, h34, h35, hro, hf, hfi, hz, hC2, hx⟩
  have hm35 := h35
  refine W.seq (W.region (WL.c rfl (o_lt h35 h34 (WL.nil (W.seq (W.cond rfl (fun c36 => ?_) (fun c36 => ?_)))))))
  ·try simp only [cs8] at c36
   have hq1 : q < t.parts.length := by omega
   obtain ⟨ub, uo, uc, hV, huc⟩ := Sl.paq (hty _ hx) hq1
   rw [hV] at h33
   have hptq := hpt q hq1
   obtain ⟨p, hp⟩ : ∃ p, p = t.parts[q] := ⟨_, rfl⟩
   rw [← hp] at huc hptq
   have hen : p.ty = ((p.ty.toNat : Nat) : Int) := by omega
   refine W.skip (W.seq (W.block (W.seq (W.region (WL.c rfl (o_ixB (i := q) TI48 TI52 h33 h35 (by omega) (WL.c rfl (o_ldA TI52 rfl rfl huc rfl (WL.c rfl (o_alB TI52 ?_))))))))))
   intro wa hCa hxa hsa
   refine WL.u (o_stA TI52 rfl (show _ = Value.agg (paV p).toArray from rfl) rfl rfl hCa rfl ?_)
   intro wb7 hC7 hob hsb
   have hxb := Ext.own hxa (Nat.le_refl _) hob
   obtain ⟨b7, hb7⟩ : ∃ b, b = w.heap.size := ⟨_, rfl⟩
   rw [← hb7] at hC7 ⊢
   clear hCa hxa hsa hob hsb
   replace hx := hx.tr hxb
   replace hro := own_ext hro hxb
   replace hC2 := hxb.blk hC2 (fun h => h)
   clear hxb
   refine WL.nil ?_
   have hxd := Only.drew wb7
   replace hx := hx.tr hxd
   replace hro := own_ext hro hxd
   replace hC2 := hxd.blk hC2 (fun h => h)
   replace hC7 := hxd.blk hC7 (fun h => h)
   refine W.tail 13 rfl (by kernel_rfl) (WS.c rfl ((SO.o rfl (o_mvh h3 ⟨rfl, rfl⟩))) (WS.c rfl ((SO.o rfl (o_mvh h4 ⟨rfl, rfl⟩))) (WS.c rfl ((SO.o rfl (o_mvh h3 ⟨rfl, rfl⟩))) (WS.c rfl ((SO.o rfl (o_mvh h4 ⟨rfl, rfl⟩))) (WS.c rfl ((SO.o rfl (o_ixB (i := i) TI79 TI3 (show _ = Value.slice (some ⟨B, 0, none⟩) L.length L.length from rfl) (show _ = Value.int .i64 ((i : Nat) : Int) from rfl) (by omega) ⟨rfl, rfl⟩))) (WS.c rfl ((SO.o rfl (o_ld TI3 rfl rfl (show World.cell? _ ⟨B, 0 + i * 1, none⟩ = some (iv (f (i))) from by rw [Nat.zero_add, Nat.mul_one]; exact own_cell hro (dps_at (by omega))) ⟨rfl, rfl⟩))) (WS.c rfl ((SO.o rfl (o_mvh h3 ⟨rfl, rfl⟩))) (WS.c rfl ((SO.o rfl (o_fa 2 TI52 rfl TI3 rfl rfl ⟨rfl, rfl⟩))) (WS.c rfl ((SO.o rfl (o_ld TI3 rfl rfl (cell_of hC7 rfl) ⟨rfl, rfl⟩))) (WS.c rfl ((SO.o rfl (o_ixB (i := p.ty.toNat) TI79 TI3 (show _ = Value.slice (some ⟨B, 0, none⟩) L.length L.length from rfl) (show _ = Value.int .i64 ((p.ty.toNat : Nat) : Int) from by rw [← hen]; rfl) (by omega) ⟨rfl, rfl⟩))) (WS.c rfl ((SO.o rfl (o_ld TI3 rfl rfl (show World.cell? _ ⟨B, 0 + p.ty.toNat * 1, none⟩ = some (iv (f (p.ty.toNat))) from by rw [Nat.zero_add, Nat.mul_one]; exact own_cell hro (dps_at (by omega))) ⟨rfl, rfl⟩))) (WS.c rfl ((SO.r (r_max (a := f i) (b := f p.ty.toNat) rfl rfl))) (WS.c rfl ((SO.o rfl (o_ixB (i := i) TI79 TI3 (show _ = Value.slice (some ⟨B, 0, none⟩) L.length L.length from rfl) (show _ = Value.int .i64 ((i : Nat) : Int) from rfl) (by omega) ⟨rfl, rfl⟩))) (WS.nil (WL.u (o_stRj TI3 rfl (show 0 + i * 1 = i by omega) (show _ = iv (max (f i) (f p.ty.toNat)) from rfl) rfl hro (show Value.ownBlock (Value.slice (some ⟨B, 0, none⟩) L.length L.length) = some B from rfl) (by omega) ?_))))))))))))))))
   intro w51 hr51 ho51 hs51
   rw [dps_set] at hr51
   replace hC2 := ho51.blk hC2 (fun h => own_off hro hC2 (by decide) h)
   try replace hC5 := ho51.blk hC5 (fun h => own_off hro hC5 (by decide) h)
   replace hx := hx.trans' ho51 (fun _ h => h) (fun b hb h => by have := (hro.lt b h).1; omega)
   replace hro := hr51
   refine WL.nil (W.region (WL.c rfl (o_addi h35 rfl (by omega) (WL.c rfl (o_mvh vI (WL.nil (⟨⟨q + 1, updN f i (max (f i) (f p.ty.toNat)), by omega, h2, h3, h4, h11, h12, h13, h33.trans hV.symm, h34, rfl, hro, fun j hj => ?_, ?_, fun j hj => ?_, hC2, hx⟩, ?_⟩)))))))
   ·unfold updN; rw [if_neg (by omega)]; exact hf j hj
   ·unfold updN; rw [if_pos rfl, mxD_succ hq1, ← hp, hfi, hf _ (by omega)]
   ·unfold updN; rw [if_neg (by omega)]; exact hz j hj
   show t.parts.length - ((q : Int) + 1).toNat < _
   rw [hm35]; simp [intOf]; omega
  try simp only [cs8] at c36
  have hq1 : q = t.parts.length := by omega
  rw [hq1] at hfi
  rw [← hfi] at hdm
  have hdi : dpI L i = f i + 1 := hdm
  have hmi : f i ≤ 64 := by rw [hfi]; exact hmx _ (Nat.le_refl _)
  refine W.exit (W.seq (W.region (WL.c rfl (o_mvh h3 (WL.c rfl (o_mvh h4 (WL.c rfl (o_ixB (i := i) TI79 TI3 (show _ = Value.slice (some ⟨B, 0, none⟩) L.length L.length from rfl) (show _ = Value.int .i64 ((i : Nat) : Int) from rfl) (by omega) (WL.c rfl (o_ld TI3 rfl rfl (show World.cell? _ ⟨B, 0 + i * 1, none⟩ = some (iv (f (i))) from by rw [Nat.zero_add, Nat.mul_one]; exact own_cell hro (dps_at (by omega))) (WL.c rfl (o_addi (a := ((f i : Nat) : Int)) (b := 1) rfl rfl (by omega) (WL.c rfl (o_ixB (i := i) TI79 TI3 (show _ = Value.slice (some ⟨B, 0, none⟩) L.length L.length from rfl) (show _ = Value.int .i64 ((i : Nat) : Int) from rfl) (by omega) (WL.u (o_stRj TI3 rfl (show 0 + i * 1 = i by omega) (show _ = iv (f i + 1) from congrArg (Value.int .i64) (by simp)) rfl hro (show Value.ownBlock (Value.slice (some ⟨B, 0, none⟩) L.length L.length) = some B from rfl) (by omega) ?_))))))))))))))))
  intro w58 hr58 ho58 hs58
  rw [dps_set] at hr58
  replace hC2 := ho58.blk hC2 (fun h => own_off hro hC2 (by decide) h)
  try replace hC5 := ho58.blk hC5 (fun h => own_off hro hC5 (by decide) h)
  replace hx := hx.trans' ho58 (fun _ h => h) (fun b hb h => by have := (hro.lt b h).1; omega)
  replace hro := hr58
  refine WL.nil (W.seq (W.region (WL.c rfl (o_mvh h3 (WL.c rfl (o_mvh h4 (WL.c rfl (o_ixB (i := i) TI79 TI3 (show _ = Value.slice (some ⟨B, 0, none⟩) L.length L.length from rfl) (show _ = Value.int .i64 ((i : Nat) : Int) from rfl) (by omega) (WL.c rfl (o_ld TI3 rfl rfl (show World.cell? _ ⟨B, 0 + i * 1, none⟩ = some (iv (f i + 1)) from by rw [Nat.zero_add, Nat.mul_one]; exact (own_cell hro (dps_at (by omega))).trans (by unfold updN; rw [if_pos rfl])) (WL.c rfl (o_gt (a := ((f i + 1 : Nat) : Int)) (b := 64) rfl rfl (WL.nil (W.cond rfl (fun c63 => ?_) (fun c63 => ?_)))))))))))))))
  ·try simp only [cs8] at c63
   have hgt : 64 < dpI L i := by omega
   refine W.seq ?_
   skip
   skip
   refine W.region (WL.c rfl (o_mvh h4 (WL.c rfl (o_bldC (cs := [(.int .i64 83), _]) TI28 (Sizes.cons TI26 (Sizes.cons TI3 Sizes.nil)) rfl (lcp vI (lcp vI lnp)) rfl rfl (WL.u (o_stA TI28 h2 (show _ = Value.agg #[.int .i64 83, .int .i64 (i : Int)] from rfl) rfl rfl hC2 rfl ?_))))))
   intro wz hCz hoz hsz
   replace hx := hx.trans' hoz (fun _ h => h) (fun b hb he => by omega)
   refine WL.nil (W.ret (retC rfl TI28 rfl h2 (show Cells _ c2 0 [.int .i64 83, .int .i64 (i : Int)] from Cells.of hCz 0 _ (by simp)) rfl ?_))
   exact ⟨by unfold dpV; rw [dpV_hit hi1 hgt hd]; rfl, hx⟩
  try simp only [cs8] at c63
  have hle64 : ¬ 64 < f i + 1 := by omega
  refine W.skip (W.region (WL.c rfl (o_addi h13 rfl (by omega) (WL.c rfl (o_mvh vI (WL.nil (⟨⟨i + 1, updN f i (f i + 1), by omega, h2, h3, h11.trans hlv.symm, h12, rfl, hro, fun j hj => ?_, fun j hj => ?_, fun j hj => ?_, hC2, hx⟩, ?_⟩)))))))
  ·unfold updN
   by_cases e : j = i
   ·rw [if_pos e, e]; exact hdi.symm
   rw [if_neg e]; exact hf j (by omega)
  ·by_cases e : j = i
   ·rw [e, hdi]; exact hle64
   exact hd j (by omega)
  ·unfold updN
   rw [if_neg (by omega)]; exact hz j (by omega)
  show L.length - ((i : Int) + 1).toNat < _
  rw [hm13]; simp [intOf]; omega
 try simp only [cs8] at c14
 have hi1 : i = L.length := by omega
 rw [hi1] at hd
 refine W.exit (W.seq ?_)
 skip
 skip
 refine W.region (WL.c rfl (o_bldC (cs := [(.int .i64 0), (.int .i64 0)]) TI28 (Sizes.cons TI26 (Sizes.cons TI3 Sizes.nil)) rfl lnp rfl rfl (WL.u (o_stA TI28 h2 (show _ = Value.agg #[.int .i64 0, .int .i64 0] from rfl) rfl rfl hC2 rfl ?_))))
 intro wz hCz hoz hsz
 replace hx := hx.trans' hoz (fun _ h => h) (fun b hb he => by omega)
 refine WL.nil (W.ret (retC rfl TI28 rfl h2 (show Cells _ c2 0 [.int .i64 0, .int .i64 0] from Cells.of hCz 0 _ (by simp)) rfl ?_))
 exact ⟨by unfold dpV; rw [dpV_no hd]; rfl, hx⟩
end Go.Proofs.Ytpbflfgigfdohaa

namespace Go.Proofs.Ytpbflfgigfdohaa
open Go Go.Vc Go.RowKit Go.Proofs

noncomputable def scV (L : List Tp) (R : List Ro) : Int × Int := (scF L R).getD (0, 0)
theorem sc_tp {L : List Tp} {R : List Ro} {i : Nat} (hi : i < L.length) (h : ¬ tpOk L[i] (i : Int)) (hb : ∀ j (hj : j < L.length), j < i → tpOk L[j] (j : Int)) : scV L R = (92, (i : Int)) := by
 have h1 : tpF L = some (92, (i : Int)) := firstN_hit hi (by rw [tgetD_at hi, if_neg h]) (fun j hj => by rw [tgetD_at (by omega), if_pos (hb j (by omega) hj)])
 unfold scV scF
 rw [h1]; rfl
theorem sc_tpn {L : List Tp} (hb : ∀ j (hj : j < L.length), tpOk L[j] (j : Int)) : tpF L = none := firstN_miss fun j hj => by rw [tgetD_at hj, if_pos (hb j hj)]
theorem dp_nz {L : List Tp} {v : Int × Int} (h : dpF L = some v) : v.1 = 83 := by
 obtain ⟨i, hi, h1⟩ := firstN_some h
 split at h1
 ·cases h1; rfl
 cases h1
theorem dpV_iff {L : List Tp} : (dpV L).1 = 0 ↔ dpF L = none := by
 unfold dpV
 cases h : dpF L with
 | none => simp
 | some v => have := dp_nz h; simp [this]
theorem sc_dp {L : List Tp} {R : List Ro} (hb : tpF L = none) (h : ¬ (dpV L).1 = 0) : scV L R = dpV L := by
 unfold scV scF
 rw [hb, Option.none_or]
 unfold dpV at h ⊢
 cases hd : dpF L with
 | none => rw [hd] at h; simp at h
 | some v => rfl
theorem rgetD_at8 {R : List Ro} {k : Nat} (hk : k < R.length) : R.getD k ro0 = R[k] := by simp [List.getD_eq_getElem?_getD, hk]
theorem sc_ro {L : List Tp} {R : List Ro} (h1 : tpF L = none) (h2 : dpF L = none) {q : Nat} (hq : q < R.length) (h : ¬ roOk L.length R q) (hb : ∀ j, j < q → roOk L.length R j) : scV L R = (92, (L.length : Int) + (q : Int)) := by
 have h3 : roF L.length R = some (92, (L.length : Int) + (q : Int)) := firstN_hit hq (by rw [if_neg h]) (fun j hj => by rw [if_pos (hb j hj)])
 unfold scV scF
 rw [h1, h2, h3]; rfl
theorem sc_ok {L : List Tp} {R : List Ro} (h1 : tpF L = none) (h2 : dpF L = none) (hb : ∀ j, j < R.length → roOk L.length R j) : scV L R = (0, 0) := by
 have h3 : roF L.length R = none := firstN_miss fun j hj => by rw [if_pos (hb j hj)]
 unfold scV scF
 rw [h1, h2, h3]; rfl
def mN (R : List Ro) (q : Nat) (gl : List UInt8 → Option Int) (nm : List UInt8) : Nat := if (gl nm).isSome = true then q else q + 1
theorem mN_iff {R : List Ro} {q : Nat} {gl : List UInt8 → Option Int} (hq : q < R.length) (hg : ∀ s, (gl s).isSome = (R.take q).any (fun z => decide (z.name = s))) : mN R q gl R[q].name = q + 1 ↔ ∀ j, j < q → (R.getD j ro0).name ≠ (R.getD q ro0).name := by
 have hb : (gl R[q].name).isSome = true ↔ ∃ j, ∃ hj : j < q, (R[j]'(by omega)).name = R[q].name := by
  rw [hg, any_take (by omega)]; simp
 unfold mN
 rw [rgetD_at8 hq]
 by_cases hc : (gl R[q].name).isSome = true
 ·rw [if_pos hc]
  refine ⟨fun e => by omega, fun hh => ?_⟩
  obtain ⟨j, hj, e⟩ := hb.1 hc
  exact absurd (by rw [rgetD_at8 (by omega)]; exact e) (hh j hj)
 rw [if_neg hc]
 exact ⟨fun _ j hj e => hc (hb.2 ⟨j, hj, by rw [rgetD_at8 (by omega)] at e; exact e⟩), fun _ => rfl⟩
theorem ro_iff {n q : Nat} {R : List Ro} {gl : List UInt8 → Option Int} (hq : q < R.length) (hg : ∀ s, (gl s).isSome = (R.take q).any (fun z => decide (z.name = s))) :
  roOk n R q ↔ q < 256 ∧ nameB R[q].name = true ∧ 0 ≤ R[q].ty ∧ R[q].ty < (n : Int) ∧ mN R q gl R[q].name = q + 1 := by
 rw [mN_iff hq hg, roOk, rgetD_at8 hq]
theorem gl_step {R : List Ro} {q : Nat} {gl : List UInt8 → Option Int} (hq : q < R.length) (hg : ∀ s, (gl s).isSome = (R.take q).any (fun z => decide (z.name = s))) (v : Int) : ∀ s, ((fun c => if c = R[q].name then some v else gl c) s : Option Int).isSome = (R.take (q + 1)).any (fun z => decide (z.name = s)) := fun s => by
 rw [any_snoc hq, ← hg s]
 by_cases e : s = R[q].name
 ·simp [e]
 have e2 : ¬ R[q].name = s := fun h => e h.symm
 simp [e, e2]
/-- what the machine can hold of a list of roots -/
structure RLim (R : List Ro) : Prop where
 len : R.length * 24 ≤ 140737488351232
 nm : ∀ r ∈ R, r.name.length ≤ 9223372036854775807

set_option maxHeartbeats 4000000 in
theorem tcheck_spec (L : List Tp) (R : List Ro) (tv rv : Value) (V : Nat → Value) (w0 : World) (hS : SchR w0 L R tv rv V) (hlL : LLim L) (hlR : RLim R) : Ca Try.prog 9 #[.agg #[tv, rv]] w0 (fun v w' => v = .agg #[.int .i64 (scV L R).1, .int .i64 (scV L R).2] ∧ Ext w0 w') := by
 have hlen := hlL.len
 have hlr := hlR.len
 have hT := hS.ty
 have hR0 := hS.ro
 refine Ca.of Try.func9 Try.ntmps9 rfl rfl (W.seq (W.region (WL.c rfl (o_boxB rfl ?_))))
 intro w1 hC1 hx1 hs1
 obtain ⟨b1, hb1⟩ : ∃ b, b = w0.heap.size := ⟨_, rfl⟩
 rw [← hb1] at hC1 ⊢
 replace hC1 : w1.heap[b1]? = some (.cells ([tv, rv]).toArray 34 (0, 0)) := hC1
 have hx := hx1
 refine WL.c rfl (o_alB TI28 ?_)
 intro wb hC2 hxb hsb
 have hq1 := (Array.getElem?_eq_some_iff.1 hC1).1
 have hqx := hx.size
 replace hx := hx.tr hxb
 replace hC1 := hxb.blk hC1 (fun h => h)
 obtain ⟨c2, hc2⟩ : ∃ c, c = w1.heap.size := ⟨_, rfl⟩
 rw [← hc2] at hC2 ⊢
 have hz2 : w0.heap.size ≤ c2 := by rw [hc2]; exact hqx
 replace hC2 : wb.heap[c2]? = some (.cells #[.int .i64 0, .int .i64 0] 28 (0, 0)) := hC2
 clear hxb hq1
 refine WL.nil (W.seq (W.seq (W.region (WL.c rfl (o_fa 0 TI34 rfl TI31 rfl rfl (WL.c rfl (o_ld TI31 rfl rfl (cell_of hC1 rfl) (WL.c rfl (o_lenR TI31 rfl (hT.ext hx).row (WL.c rfl (o_mvh vI (WL.nil (W.block (W.loop (fun e w => ∃ i : Nat, i ≤ L.length ∧ e 1 = .pointer (some ⟨b1, 0, none⟩) ∧ e 2 = .pointer (some ⟨c2, 0, none⟩) ∧ e 10 = tv ∧ e 11 = .int .i64 (L.length : Int) ∧ e 12 = .int .i64 (i : Int) ∧ (∀ j (hj : j < L.length), j < i → tpOk L[j] (j : Int)) ∧ w.heap[b1]? = some (.cells #[tv, rv] 34 (0, 0)) ∧ w.heap[c2]? = some (.cells #[.int .i64 0, .int .i64 0] 28 (0, 0)) ∧ Ext w0 w) (fun e w => L.length - (intOf (e 12)).toNat) ?_ ?_))))))))))))))
 ·exact ⟨0, Nat.zero_le _, rfl, rfl, rfl, rfl, rfl, fun j hj h => by omega, hC1, hC2, hx⟩
 rintro e w ⟨i, hi, h1, h2, h10, h11, h12, hok, hC1, hC2, hx⟩
 have hm12 := h12
 refine W.seq (W.region (WL.c rfl (o_lt h12 h11 (WL.nil (W.seq (W.cond rfl (fun c13 => ?_) (fun c13 => ?_)))))))
 ·try simp only [cs8] at c13
  have hi1 : i < L.length := by omega
  obtain ⟨tb, to_, tc, hlv, htc, hty⟩ := (hT.ext hx).atk hi1
  rw [hlv] at h10
  have htl := hlL.ty _ (List.getElem_mem hi1)
  obtain ⟨t, ht⟩ : ∃ t, t = L[i] := ⟨_, rfl⟩
  rw [← ht] at htc hty htl
  refine W.skip (W.seq (W.block (W.seq (W.region (WL.c rfl (o_mvh h12 (WL.c rfl (o_ixB (i := i) TI31 TI50 h10 h12 (by omega) (WL.c rfl (o_ldA TI50 rfl rfl htc rfl (WL.c rfl (o_alB TI50 ?_))))))))))))
  intro wa hCa hxa hsa
  refine WL.c rfl (o_ash vI (WL.u (o_stA TI50 rfl (show _ = Value.agg (tcell t (V i)).toArray from rfl) rfl (List.all_eq_true.2 (tcell_all (sl_one1 hty))) hCa rfl ?_)))
  intro wb4 hC4 hob hsb
  have hxb := Ext.own hxa (Nat.le_refl _) hob
  obtain ⟨b4, hb4⟩ : ∃ b, b = w.heap.size := ⟨_, rfl⟩
  rw [← hb4] at hC4 ⊢
  clear hCa hxa hsa hob hsb
  replace hx := hx.tr hxb
  replace hC1 := hxb.blk hC1 (fun h => h)
  replace hC2 := hxb.blk hC2 (fun h => h)
  replace hty := hty.ext hxb
  clear hxb
  refine WL.nil (W.seq (W.region (WL.c rfl (o_ldA TI50 rfl rfl (show Cells _ b4 0 (tcell t (V i)) from Cells.of hC4 0 _ (by simp)) rfl (WL.c rfl (o_mvh vI (WL.c rfl (o_call Try.call32 (lc rfl (lc rfl ln)) ((tright_spec t (V i) (i : Int) _ hty htl).mono ?_)))))))))
  rintro v19 w19 ⟨rfl, hx19⟩
  replace hx := hx.tr hx19
  replace hC1 := hx19.blk hC1 (fun h => h)
  replace hC2 := hx19.blk hC2 (fun h => h)
  refine WL.c rfl (o_not' rfl (WL.nil (W.cond rfl (fun c20 => ?_) (fun c20 => ?_))))
  ·try simp only [cs8] at c20
   have hti : ¬ tpOk t (i : Int) := by rw [← tpB_iff]; simpa using c20
   refine W.seq ?_
   skip
   skip
   refine W.region (WL.c rfl (o_mvh vI (WL.c rfl (o_bldC (cs := [(.int .i64 92), _]) TI28 (Sizes.cons TI26 (Sizes.cons TI3 Sizes.nil)) rfl (lcp vI (lcp vI lnp)) rfl rfl (WL.u (o_stA TI28 h2 (show _ = Value.agg #[.int .i64 92, .int .i64 (i : Int)] from rfl) rfl rfl hC2 rfl ?_))))))
   intro wz hCz hoz hsz
   replace hx := hx.trans' hoz (fun _ h => h) (fun b hb he => by omega)
   refine WL.nil (W.ret (retC rfl TI28 rfl h2 (show Cells _ c2 0 [.int .i64 92, .int .i64 (i : Int)] from Cells.of hCz 0 _ (by simp)) rfl ?_))
   exact ⟨by rw [sc_tp hi1 (ht ▸ hti) hok], hx⟩
  try simp only [cs8] at c20
  have hti : tpOk t (i : Int) := by rw [← tpB_iff]; simpa using c20
  refine W.skip (W.region (WL.c rfl (o_addi h12 rfl (by omega) (WL.c rfl (o_mvh vI (WL.nil (⟨⟨i + 1, by omega, h1, h2, h10.trans hlv.symm, h11, rfl, fun j hj h => ?_, hC1, hC2, hx⟩, ?_⟩)))))))
  ·rcases Nat.lt_or_ge j i with h5 | h5
   ·exact hok j hj h5
   have e : j = i := by omega
   subst e; exact ht ▸ hti
  show L.length - ((i : Int) + 1).toNat < _
  rw [hm12]; simp [intOf]; omega
 try simp only [cs8] at c13
 have hi1 : i = L.length := by omega
 have hok2 : ∀ j (hj : j < L.length), tpOk L[j] (j : Int) := fun j hj => hok j hj (by omega)
 have htn := sc_tpn hok2
 refine W.exit (W.seq (W.seq (W.region (WL.c rfl (o_fa 0 TI34 rfl TI31 rfl h1 (WL.c rfl (o_ld TI31 rfl rfl (cell_of hC1 rfl) (WL.c rfl (o_call Try.call33 (lc rfl ln) ((tdeep_spec L tv V _ (hT.ext hx) hok2 hlL).mono ?_))))))))))
 rintro v26 w26 ⟨rfl, hx26⟩
 replace hx := hx.tr hx26
 replace hC1 := hx26.blk hC1 (fun h => h)
 replace hC2 := hx26.blk hC2 (fun h => h)
 refine WL.c rfl (o_alB TI28 ?_)
 intro wa hCa hxa hsa
 refine WL.u (o_stA TI28 rfl (show _ = Value.agg ([.int .i64 (dpV L).1, .int .i64 (dpV L).2]).toArray from rfl) rfl rfl hCa rfl ?_)
 intro wb5 hC5 hob hsb
 have hxb := Ext.own hxa (Nat.le_refl _) hob
 obtain ⟨b5, hb5⟩ : ∃ b, b = w26.heap.size := ⟨_, rfl⟩
 rw [← hb5] at hC5 ⊢
 clear hCa hxa hsa hob hsb
 replace hx := hx.tr hxb
 replace hC1 := hxb.blk hC1 (fun h => h)
 replace hC2 := hxb.blk hC2 (fun h => h)
 clear hxb
 refine WL.nil (W.seq (W.region (WL.c rfl (o_fa 0 TI28 rfl TI26 rfl rfl (WL.c rfl (o_ld TI26 rfl rfl (cell_of hC5 rfl) (WL.c rfl (o_ne rfl rfl (WL.nil (W.cond rfl (fun c29 => ?_) (fun c29 => ?_)))))))))))
 ·try simp only [cs8] at c29
  have hdv : ¬ (dpV L).1 = 0 := by simpa using c29
  refine W.seq ?_
  skip
  skip
  refine W.region (WL.c rfl (o_ldA TI28 rfl rfl (show Cells _ b5 0 [.int .i64 (dpV L).1, .int .i64 (dpV L).2] from Cells.of hC5 0 _ (by simp)) rfl (WL.u (o_stA TI28 h2 (show _ = Value.agg #[.int .i64 (dpV L).1, .int .i64 (dpV L).2] from rfl) rfl rfl hC2 rfl ?_))))
  intro wz hCz hoz hsz
  replace hx := hx.trans' hoz (fun _ h => h) (fun b hb he => by omega)
  refine WL.nil (W.ret (retC rfl TI28 rfl h2 (show Cells _ c2 0 [.int .i64 (dpV L).1, .int .i64 (dpV L).2] from Cells.of hCz 0 _ (by simp)) rfl ?_))
  exact ⟨by rw [sc_dp htn hdv], hx⟩
 try simp only [cs8] at c29
 have hdn : dpF L = none := dpV_iff.1 (by simpa using c29)
 refine W.skip (W.seq (W.region (WL.c rfl (o_mkM ?_))))
 have hML := MapN.made Try.prog 9 3 enS wb5
 have hxm : Ext wb5 (wb5.alloc (.map #[] 0)) := Only.alloc wb5 _
 obtain ⟨lb, hlb⟩ : ∃ b, b = wb5.heap.size := ⟨_, rfl⟩
 have hzlb : w0.heap.size ≤ lb := by rw [hlb]; exact hx.size
 rw [← hlb] at hML ⊢
 generalize wb5.alloc (.map #[] 0) = wm at hML hxm ⊢
 replace hx := hx.tr hxm
 replace hC1 := hxm.blk hC1 (fun h => h)
 replace hC2 := hxm.blk hC2 (fun h => h)
 refine WL.c rfl (o_as (WL.nil (W.seq (W.seq (W.region (WL.c rfl (o_fa 1 TI34 rfl TI32 rfl h1 (WL.c rfl (o_ld TI32 rfl rfl (cell_of hC1 rfl) (WL.c rfl (o_lenR TI32 rfl (hR0.ext hx) (WL.c rfl (o_mvh vI (WL.nil (W.block (W.loop (fun e w => ∃ (q : Nat) (gl : List UInt8 → Option Int), q ≤ R.length ∧ e 1 = .pointer (some ⟨b1, 0, none⟩) ∧ e 2 = .pointer (some ⟨c2, 0, none⟩) ∧ e 6 = .map (some lb) ∧ e 33 = rv ∧ e 34 = .int .i64 (R.length : Int) ∧ e 35 = .int .i64 (q : Int) ∧ (∀ j, j < q → roOk L.length R j) ∧ MapN Try.prog 9 3 enS w lb q gl ∧ (∀ s, (gl s).isSome = (R.take q).any (fun z => decide (z.name = s))) ∧ w.heap[b1]? = some (.cells #[tv, rv] 34 (0, 0)) ∧ w.heap[c2]? = some (.cells #[.int .i64 0, .int .i64 0] 28 (0, 0)) ∧ Ext w0 w) (fun e w => R.length - (intOf (e 35)).toNat) ?_ ?_))))))))))))))))
 ·exact ⟨0, fun _ => none, Nat.zero_le _, h1, h2, rfl, rfl, rfl, rfl, fun j hj => by omega, hML, fun s => rfl, hC1, hC2, hx⟩
 rintro e w ⟨q, gl, hq, h1, h2, h6, h33, h34, h35, hno, hML, hgl, hC1, hC2, hx⟩
 have hm35 := h35
 refine W.seq (W.region (WL.c rfl (o_lt h35 h34 (WL.nil (W.seq (W.cond rfl (fun c36 => ?_) (fun c36 => ?_)))))))
 ·try simp only [cs8] at c36
  have hq1 : q < R.length := by omega
  obtain ⟨ub, uo, uc, hrv, huc⟩ := Sl.roq (hR0.ext hx) hq1
  rw [hrv] at h33
  have hgl2 := gl_step hq1 hgl (q : Int)
  have hnl : R[q].name.length ≤ 9223372036854775807 := hlR.nm _ (List.getElem_mem hq1)
  obtain ⟨r, hr⟩ : ∃ r, r = R[q] := ⟨_, rfl⟩
  rw [← hr] at huc hgl2 hnl
  refine W.skip (W.seq (W.block (W.seq (W.region (WL.c rfl (o_mvh h35 (WL.c rfl (o_ixB (i := q) TI32 TI47 h33 h35 (by omega) (WL.c rfl (o_ldA TI47 rfl rfl huc rfl (WL.c rfl (o_alB TI47 ?_))))))))))))
  intro wa hCa hxa hsa
  refine WL.c rfl (o_ash vI (WL.u (o_stA TI47 rfl (show _ = Value.agg (roV r).toArray from rfl) rfl rfl hCa rfl ?_)))
  intro wb8 hC8 hob hsb
  have hxb := Ext.own hxa (Nat.le_refl _) hob
  obtain ⟨b8, hb8⟩ : ∃ b, b = w.heap.size := ⟨_, rfl⟩
  rw [← hb8] at hC8 ⊢
  clear hCa hxa hsa hob hsb
  replace hx := hx.tr hxb
  replace hC1 := hxb.blk hC1 (fun h => h)
  replace hC2 := hxb.blk hC2 (fun h => h)
  replace hML := hML.ext hxb
  clear hxb
  refine WL.nil (W.seq (W.region (WL.c rfl (o_mvh h6 (WL.c rfl (o_fa 0 TI47 rfl TI9 rfl rfl (WL.c rfl (o_ld TI9 rfl rfl (cell_of hC8 rfl) (WL.c rfl (o_mvh vI (WL.u (o_muN enS_inj MT88 rfl hML rfl (keyS Try.underlying9 (by rw [maxLen_eq]; omega)) rfl (wf_i64 (by omega)) (by rw [maxLen_eq]; omega) ?_))))))))))))
  intro wq hMq hoq hsq
  replace hC1 := hoq.blk hC1 (map_blk_ne hML.is hC1)
  replace hC2 := hoq.blk hC2 (map_blk_ne hML.is hC2)
  replace hC8 := hoq.blk hC8 (map_blk_ne hML.is hC8)
  replace hx := hx.trans' hoq (fun _ h => h) (fun b hb e => by omega)
  replace hML : MapN Try.prog 9 3 enS wq lb (mN R q gl r.name) _ := hMq
  refine WL.nil (W.seq ?_)
  by_cases hN : nameB r.name = true
  by_cases hD : mN R q gl r.name = q + 1
  by_cases hB : 0 ≤ r.ty
  by_cases hC : r.ty < (L.length : Int)
  by_cases hE : q < 256
  ·skip
   refine W.region (WL.c rfl (o_fa 0 TI47 rfl TI9 rfl rfl (WL.c rfl (o_ld TI9 rfl rfl (cell_of hC8 rfl) (WL.c rfl (o_call Try.call34 (lc rfl ln) ((name_spec r.name _ hnl).mono ?_)))))))
   rintro v46 w46 ⟨rfl, rfl⟩
   refine WL.c rfl (o_not' rfl (WL.c rfl (o_mvh vB (WL.g rfl (by simp [hN]) rfl (o_mvh h6 (WL.g rfl (by simp [hN]) rfl (o_lenM Try.underlying88 rfl hML (WL.g rfl (by simp [hN]) rfl (o_mvh vI (WL.g rfl (by simp [hN]) rfl (o_addi rfl rfl (by omega) (WL.g rfl (by simp [hN]) rfl (o_ne rfl rfl (WL.c rfl (o_pickO rfl rfl (WL.c rfl (o_mvh vB (WL.g rfl (by simp [hN, hD]) rfl (o_fa 1 TI47 rfl TI3 rfl rfl (WL.g rfl (by simp [hN, hD]) rfl (o_ld TI3 rfl rfl (cell_of hC8 rfl) (WL.g rfl (by simp [hN, hD]) rfl (o_lt rfl rfl (WL.c rfl (o_pickO rfl rfl (WL.c rfl (o_mvh vB (WL.g rfl (by simp [hN, hD, hB]) rfl (o_fa 1 TI47 rfl TI3 rfl rfl (WL.g rfl (by simp [hN, hD, hB]) rfl (o_ld TI3 rfl rfl (cell_of hC8 rfl) (WL.g rfl (by simp [hN, hD, hB]) rfl (o_fa 0 TI34 rfl TI31 rfl h1 (WL.g rfl (by simp [hN, hD, hB]) rfl (o_ld TI31 rfl rfl (cell_of hC1 rfl) (WL.g rfl (by simp [hN, hD, hB]) rfl (o_lenR TI31 rfl (hT.ext hx).row (WL.g rfl (by simp [hN, hD, hB]) rfl (o_ge rfl rfl (WL.c rfl (o_pickO rfl rfl (WL.c rfl (o_mvh vB (WL.g rfl (by simp [hN, hD, hB, hC]) rfl (o_mvh vI (WL.g rfl (by simp [hN, hD, hB, hC]) rfl (o_ge rfl rfl (WL.c rfl (o_pickO rfl rfl (WL.nil (W.condF' rfl (by simp [hN, hD, hB, hC]; omega) (W.skip (W.region (WL.c rfl (o_addi h35 rfl (by omega) (WL.c rfl (o_mvh vI (WL.nil (⟨⟨q + 1, _, by omega, h1, h2, h6, h33.trans hrv.symm, h34, rfl, fun j hj => ?_, (by rw [hD] at hML; exact hML), hgl2, hC1, hC2, hx⟩, ?_⟩)))))))))))))))))))))))))))))))))))))))))))))))))))))))))))
   ·rcases Nat.lt_or_ge j q with h | h
    ·exact hno j h
    rw [show j = q by omega]
    exact (ro_iff hq1 hgl).2 ⟨hE, hr ▸ hN, hr ▸ hB, hr ▸ hC, hr ▸ hD⟩
   show R.length - ((q : Int) + 1).toNat < _
   rw [hm35]; simp [intOf]; omega
  ·skip
   have hbad : ¬ roOk L.length R q := fun hh => by
    have h4 := ((ro_iff hq1 hgl).1 hh).1
    exact hE h4
   refine W.region (WL.c rfl (o_fa 0 TI47 rfl TI9 rfl rfl (WL.c rfl (o_ld TI9 rfl rfl (cell_of hC8 rfl) (WL.c rfl (o_call Try.call34 (lc rfl ln) ((name_spec r.name _ hnl).mono ?_)))))))
   rintro v46 w46 ⟨rfl, rfl⟩
   refine WL.c rfl (o_not' rfl (WL.c rfl (o_mvh vB (WL.g rfl (by simp [hN]) rfl (o_mvh h6 (WL.g rfl (by simp [hN]) rfl (o_lenM Try.underlying88 rfl hML (WL.g rfl (by simp [hN]) rfl (o_mvh vI (WL.g rfl (by simp [hN]) rfl (o_addi rfl rfl (by omega) (WL.g rfl (by simp [hN]) rfl (o_ne rfl rfl (WL.c rfl (o_pickO rfl rfl (WL.c rfl (o_mvh vB (WL.g rfl (by simp [hN, hD]) rfl (o_fa 1 TI47 rfl TI3 rfl rfl (WL.g rfl (by simp [hN, hD]) rfl (o_ld TI3 rfl rfl (cell_of hC8 rfl) (WL.g rfl (by simp [hN, hD]) rfl (o_lt rfl rfl (WL.c rfl (o_pickO rfl rfl (WL.c rfl (o_mvh vB (WL.g rfl (by simp [hN, hD, hB]) rfl (o_fa 1 TI47 rfl TI3 rfl rfl (WL.g rfl (by simp [hN, hD, hB]) rfl (o_ld TI3 rfl rfl (cell_of hC8 rfl) (WL.g rfl (by simp [hN, hD, hB]) rfl (o_fa 0 TI34 rfl TI31 rfl h1 (WL.g rfl (by simp [hN, hD, hB]) rfl (o_ld TI31 rfl rfl (cell_of hC1 rfl) (WL.g rfl (by simp [hN, hD, hB]) rfl (o_lenR TI31 rfl (hT.ext hx).row (WL.g rfl (by simp [hN, hD, hB]) rfl (o_ge rfl rfl (WL.c rfl (o_pickO rfl rfl (WL.c rfl (o_mvh vB (WL.g rfl (by simp [hN, hD, hB, hC]) rfl (o_mvh vI (WL.g rfl (by simp [hN, hD, hB, hC]) rfl (o_ge rfl rfl (WL.c rfl (o_pickO rfl rfl (WL.nil (W.condT' rfl (by rw [decide_eq_true (show (256 : Int) ≤ (q : Int) by omega)]; simp) (W.seq ?_))))))))))))))))))))))))))))))))))))))))))))))))))))
   skip
   skip
   refine W.region (WL.c rfl (o_fa 0 TI34 rfl TI31 rfl h1 (WL.c rfl (o_ld TI31 rfl rfl (cell_of hC1 rfl) (WL.c rfl (o_lenR TI31 rfl (hT.ext hx).row (WL.c rfl (o_mvh vI (WL.c rfl (o_addi rfl rfl (by omega) (WL.c rfl (o_bldC (cs := [(.int .i64 92), _]) TI28 (Sizes.cons TI26 (Sizes.cons TI3 Sizes.nil)) rfl (lcp vI (lcp vI lnp)) rfl rfl (WL.u (o_stA TI28 h2 (show _ = Value.agg #[.int .i64 92, .int .i64 ((L.length : Int) + (q : Int))] from rfl) rfl rfl hC2 rfl ?_))))))))))))))
   intro wz hCz hoz hsz
   replace hx := hx.trans' hoz (fun _ h => h) (fun b hb he => by omega)
   refine WL.nil (W.ret (retC rfl TI28 rfl h2 (show Cells _ c2 0 [.int .i64 92, .int .i64 ((L.length : Int) + (q : Int))] from Cells.of hCz 0 _ (by simp)) rfl ?_))
   exact ⟨by rw [sc_ro htn hdn hq1 hbad hno], hx⟩
  ·skip
   have hbad : ¬ roOk L.length R q := fun hh => by
    have h4 := ((ro_iff hq1 hgl).1 hh).2.2.2.1
    rw [← hr] at h4
    exact hC h4
   refine W.region (WL.c rfl (o_fa 0 TI47 rfl TI9 rfl rfl (WL.c rfl (o_ld TI9 rfl rfl (cell_of hC8 rfl) (WL.c rfl (o_call Try.call34 (lc rfl ln) ((name_spec r.name _ hnl).mono ?_)))))))
   rintro v46 w46 ⟨rfl, rfl⟩
   refine WL.c rfl (o_not' rfl (WL.c rfl (o_mvh vB (WL.g rfl (by simp [hN]) rfl (o_mvh h6 (WL.g rfl (by simp [hN]) rfl (o_lenM Try.underlying88 rfl hML (WL.g rfl (by simp [hN]) rfl (o_mvh vI (WL.g rfl (by simp [hN]) rfl (o_addi rfl rfl (by omega) (WL.g rfl (by simp [hN]) rfl (o_ne rfl rfl (WL.c rfl (o_pickO rfl rfl (WL.c rfl (o_mvh vB (WL.g rfl (by simp [hN, hD]) rfl (o_fa 1 TI47 rfl TI3 rfl rfl (WL.g rfl (by simp [hN, hD]) rfl (o_ld TI3 rfl rfl (cell_of hC8 rfl) (WL.g rfl (by simp [hN, hD]) rfl (o_lt rfl rfl (WL.c rfl (o_pickO rfl rfl (WL.c rfl (o_mvh vB (WL.g rfl (by simp [hN, hD, hB]) rfl (o_fa 1 TI47 rfl TI3 rfl rfl (WL.g rfl (by simp [hN, hD, hB]) rfl (o_ld TI3 rfl rfl (cell_of hC8 rfl) (WL.g rfl (by simp [hN, hD, hB]) rfl (o_fa 0 TI34 rfl TI31 rfl h1 (WL.g rfl (by simp [hN, hD, hB]) rfl (o_ld TI31 rfl rfl (cell_of hC1 rfl) (WL.g rfl (by simp [hN, hD, hB]) rfl (o_lenR TI31 rfl (hT.ext hx).row (WL.g rfl (by simp [hN, hD, hB]) rfl (o_ge rfl rfl (WL.c rfl (o_pickO rfl rfl (WL.c rfl (o_mvh vB (WL.s rfl (by rw [decide_eq_true (show (L.length : Int) ≤ r.ty by omega)]; simp) rfl (WL.s rfl (by rw [decide_eq_true (show (L.length : Int) ≤ r.ty by omega)]; simp) rfl (WL.c rfl (o_pickT rfl (by rw [decide_eq_true (show (L.length : Int) ≤ r.ty by omega)]; simp) (WL.nil (W.condT' rfl (rfl) (W.seq ?_))))))))))))))))))))))))))))))))))))))))))))))))))
   skip
   skip
   refine W.region (WL.c rfl (o_fa 0 TI34 rfl TI31 rfl h1 (WL.c rfl (o_ld TI31 rfl rfl (cell_of hC1 rfl) (WL.c rfl (o_lenR TI31 rfl (hT.ext hx).row (WL.c rfl (o_mvh vI (WL.c rfl (o_addi rfl rfl (by omega) (WL.c rfl (o_bldC (cs := [(.int .i64 92), _]) TI28 (Sizes.cons TI26 (Sizes.cons TI3 Sizes.nil)) rfl (lcp vI (lcp vI lnp)) rfl rfl (WL.u (o_stA TI28 h2 (show _ = Value.agg #[.int .i64 92, .int .i64 ((L.length : Int) + (q : Int))] from rfl) rfl rfl hC2 rfl ?_))))))))))))))
   intro wz hCz hoz hsz
   replace hx := hx.trans' hoz (fun _ h => h) (fun b hb he => by omega)
   refine WL.nil (W.ret (retC rfl TI28 rfl h2 (show Cells _ c2 0 [.int .i64 92, .int .i64 ((L.length : Int) + (q : Int))] from Cells.of hCz 0 _ (by simp)) rfl ?_))
   exact ⟨by rw [sc_ro htn hdn hq1 hbad hno], hx⟩
  ·skip
   have hbad : ¬ roOk L.length R q := fun hh => by
    have h4 := ((ro_iff hq1 hgl).1 hh).2.2.1
    rw [← hr] at h4
    exact hB h4
   refine W.region (WL.c rfl (o_fa 0 TI47 rfl TI9 rfl rfl (WL.c rfl (o_ld TI9 rfl rfl (cell_of hC8 rfl) (WL.c rfl (o_call Try.call34 (lc rfl ln) ((name_spec r.name _ hnl).mono ?_)))))))
   rintro v46 w46 ⟨rfl, rfl⟩
   refine WL.c rfl (o_not' rfl (WL.c rfl (o_mvh vB (WL.g rfl (by simp [hN]) rfl (o_mvh h6 (WL.g rfl (by simp [hN]) rfl (o_lenM Try.underlying88 rfl hML (WL.g rfl (by simp [hN]) rfl (o_mvh vI (WL.g rfl (by simp [hN]) rfl (o_addi rfl rfl (by omega) (WL.g rfl (by simp [hN]) rfl (o_ne rfl rfl (WL.c rfl (o_pickO rfl rfl (WL.c rfl (o_mvh vB (WL.g rfl (by simp [hN, hD]) rfl (o_fa 1 TI47 rfl TI3 rfl rfl (WL.g rfl (by simp [hN, hD]) rfl (o_ld TI3 rfl rfl (cell_of hC8 rfl) (WL.g rfl (by simp [hN, hD]) rfl (o_lt rfl rfl (WL.c rfl (o_pickO rfl rfl (WL.c rfl (o_mvh vB (WL.s rfl (by rw [decide_eq_true (show r.ty < 0 by omega)]; simp) rfl (WL.s rfl (by rw [decide_eq_true (show r.ty < 0 by omega)]; simp) rfl (WL.s rfl (by rw [decide_eq_true (show r.ty < 0 by omega)]; simp) rfl (WL.s rfl (by rw [decide_eq_true (show r.ty < 0 by omega)]; simp) rfl (WL.s rfl (by rw [decide_eq_true (show r.ty < 0 by omega)]; simp) rfl (WL.s rfl (by rw [decide_eq_true (show r.ty < 0 by omega)]; simp) rfl (WL.c rfl (o_pickT rfl (by rw [decide_eq_true (show r.ty < 0 by omega)]; simp) (WL.c rfl (o_mvh vB (WL.s rfl (rfl) rfl (WL.s rfl (rfl) rfl (WL.c rfl (o_pickT rfl (rfl) (WL.nil (W.condT' rfl (rfl) (W.seq ?_))))))))))))))))))))))))))))))))))))))))))))
   skip
   skip
   refine W.region (WL.c rfl (o_fa 0 TI34 rfl TI31 rfl h1 (WL.c rfl (o_ld TI31 rfl rfl (cell_of hC1 rfl) (WL.c rfl (o_lenR TI31 rfl (hT.ext hx).row (WL.c rfl (o_mvh vI (WL.c rfl (o_addi rfl rfl (by omega) (WL.c rfl (o_bldC (cs := [(.int .i64 92), _]) TI28 (Sizes.cons TI26 (Sizes.cons TI3 Sizes.nil)) rfl (lcp vI (lcp vI lnp)) rfl rfl (WL.u (o_stA TI28 h2 (show _ = Value.agg #[.int .i64 92, .int .i64 ((L.length : Int) + (q : Int))] from rfl) rfl rfl hC2 rfl ?_))))))))))))))
   intro wz hCz hoz hsz
   replace hx := hx.trans' hoz (fun _ h => h) (fun b hb he => by omega)
   refine WL.nil (W.ret (retC rfl TI28 rfl h2 (show Cells _ c2 0 [.int .i64 92, .int .i64 ((L.length : Int) + (q : Int))] from Cells.of hCz 0 _ (by simp)) rfl ?_))
   exact ⟨by rw [sc_ro htn hdn hq1 hbad hno], hx⟩
  ·skip
   have hbad : ¬ roOk L.length R q := fun hh => by
    have h4 := ((ro_iff hq1 hgl).1 hh).2.2.2.2
    rw [← hr] at h4
    exact hD h4
   refine W.region (WL.c rfl (o_fa 0 TI47 rfl TI9 rfl rfl (WL.c rfl (o_ld TI9 rfl rfl (cell_of hC8 rfl) (WL.c rfl (o_call Try.call34 (lc rfl ln) ((name_spec r.name _ hnl).mono ?_)))))))
   rintro v46 w46 ⟨rfl, rfl⟩
   refine WL.c rfl (o_not' rfl (WL.c rfl (o_mvh vB (WL.g rfl (by simp [hN]) rfl (o_mvh h6 (WL.g rfl (by simp [hN]) rfl (o_lenM Try.underlying88 rfl hML (WL.g rfl (by simp [hN]) rfl (o_mvh vI (WL.g rfl (by simp [hN]) rfl (o_addi rfl rfl (by omega) (WL.g rfl (by simp [hN]) rfl (o_ne rfl rfl (WL.c rfl (o_pickO rfl rfl (WL.c rfl (o_mvh vB (WL.s rfl (by rw [decide_eq_false (show ¬ ((mN R q gl r.name : Nat) : Int) = (q : Int) + 1 by omega)]; simp) rfl (WL.s rfl (by rw [decide_eq_false (show ¬ ((mN R q gl r.name : Nat) : Int) = (q : Int) + 1 by omega)]; simp) rfl (WL.s rfl (by rw [decide_eq_false (show ¬ ((mN R q gl r.name : Nat) : Int) = (q : Int) + 1 by omega)]; simp) rfl (WL.c rfl (o_pickT rfl (by rw [decide_eq_false (show ¬ ((mN R q gl r.name : Nat) : Int) = (q : Int) + 1 by omega)]; simp) (WL.c rfl (o_mvh vB (WL.s rfl (rfl) rfl (WL.s rfl (rfl) rfl (WL.s rfl (rfl) rfl (WL.s rfl (rfl) rfl (WL.s rfl (rfl) rfl (WL.s rfl (rfl) rfl (WL.c rfl (o_pickT rfl (rfl) (WL.c rfl (o_mvh vB (WL.s rfl (rfl) rfl (WL.s rfl (rfl) rfl (WL.c rfl (o_pickT rfl (rfl) (WL.nil (W.condT' rfl (rfl) (W.seq ?_)))))))))))))))))))))))))))))))))))))))))
   skip
   skip
   refine W.region (WL.c rfl (o_fa 0 TI34 rfl TI31 rfl h1 (WL.c rfl (o_ld TI31 rfl rfl (cell_of hC1 rfl) (WL.c rfl (o_lenR TI31 rfl (hT.ext hx).row (WL.c rfl (o_mvh vI (WL.c rfl (o_addi rfl rfl (by omega) (WL.c rfl (o_bldC (cs := [(.int .i64 92), _]) TI28 (Sizes.cons TI26 (Sizes.cons TI3 Sizes.nil)) rfl (lcp vI (lcp vI lnp)) rfl rfl (WL.u (o_stA TI28 h2 (show _ = Value.agg #[.int .i64 92, .int .i64 ((L.length : Int) + (q : Int))] from rfl) rfl rfl hC2 rfl ?_))))))))))))))
   intro wz hCz hoz hsz
   replace hx := hx.trans' hoz (fun _ h => h) (fun b hb he => by omega)
   refine WL.nil (W.ret (retC rfl TI28 rfl h2 (show Cells _ c2 0 [.int .i64 92, .int .i64 ((L.length : Int) + (q : Int))] from Cells.of hCz 0 _ (by simp)) rfl ?_))
   exact ⟨by rw [sc_ro htn hdn hq1 hbad hno], hx⟩
  skip
  have hbad : ¬ roOk L.length R q := fun hh => by
   have h4 := ((ro_iff hq1 hgl).1 hh).2.1
   rw [← hr] at h4
   exact hN h4
  refine W.region (WL.c rfl (o_fa 0 TI47 rfl TI9 rfl rfl (WL.c rfl (o_ld TI9 rfl rfl (cell_of hC8 rfl) (WL.c rfl (o_call Try.call34 (lc rfl ln) ((name_spec r.name _ hnl).mono ?_)))))))
  rintro v46 w46 ⟨rfl, rfl⟩
  refine WL.c rfl (o_not' rfl (WL.c rfl (o_mvh vB (WL.s rfl (by simpa using hN) rfl (WL.s rfl (by simpa using hN) rfl (WL.s rfl (by simpa using hN) rfl (WL.s rfl (by simpa using hN) rfl (WL.s rfl (by simpa using hN) rfl (WL.c rfl (o_pickT rfl (by simpa using hN) (WL.c rfl (o_mvh vB (WL.s rfl (rfl) rfl (WL.s rfl (rfl) rfl (WL.s rfl (rfl) rfl (WL.c rfl (o_pickT rfl (rfl) (WL.c rfl (o_mvh vB (WL.s rfl (rfl) rfl (WL.s rfl (rfl) rfl (WL.s rfl (rfl) rfl (WL.s rfl (rfl) rfl (WL.s rfl (rfl) rfl (WL.s rfl (rfl) rfl (WL.c rfl (o_pickT rfl (rfl) (WL.c rfl (o_mvh vB (WL.s rfl (rfl) rfl (WL.s rfl (rfl) rfl (WL.c rfl (o_pickT rfl (rfl) (WL.nil (W.condT' rfl (rfl) (W.seq ?_))))))))))))))))))))))))))))))))))))
  skip
  skip
  refine W.region (WL.c rfl (o_fa 0 TI34 rfl TI31 rfl h1 (WL.c rfl (o_ld TI31 rfl rfl (cell_of hC1 rfl) (WL.c rfl (o_lenR TI31 rfl (hT.ext hx).row (WL.c rfl (o_mvh vI (WL.c rfl (o_addi rfl rfl (by omega) (WL.c rfl (o_bldC (cs := [(.int .i64 92), _]) TI28 (Sizes.cons TI26 (Sizes.cons TI3 Sizes.nil)) rfl (lcp vI (lcp vI lnp)) rfl rfl (WL.u (o_stA TI28 h2 (show _ = Value.agg #[.int .i64 92, .int .i64 ((L.length : Int) + (q : Int))] from rfl) rfl rfl hC2 rfl ?_))))))))))))))
  intro wz hCz hoz hsz
  replace hx := hx.trans' hoz (fun _ h => h) (fun b hb he => by omega)
  refine WL.nil (W.ret (retC rfl TI28 rfl h2 (show Cells _ c2 0 [.int .i64 92, .int .i64 ((L.length : Int) + (q : Int))] from Cells.of hCz 0 _ (by simp)) rfl ?_))
  exact ⟨by rw [sc_ro htn hdn hq1 hbad hno], hx⟩
 try simp only [cs8] at c36
 have hq1 : q = R.length := by omega
 rw [hq1] at hno
 refine W.exit (W.seq ?_)
 skip
 skip
 refine W.region (WL.c rfl (o_bldC (cs := [(.int .i64 0), (.int .i64 0)]) TI28 (Sizes.cons TI26 (Sizes.cons TI3 Sizes.nil)) rfl lnp rfl rfl (WL.u (o_stA TI28 h2 (show _ = Value.agg #[.int .i64 0, .int .i64 0] from rfl) rfl rfl hC2 rfl ?_))))
 intro wz hCz hoz hsz
 replace hx := hx.trans' hoz (fun _ h => h) (fun b hb he => by omega)
 refine WL.nil (W.ret (retC rfl TI28 rfl h2 (show Cells _ c2 0 [.int .i64 0, .int .i64 0] from Cells.of hCz 0 _ (by simp)) rfl ?_))
 exact ⟨by rw [sc_ok htn hdn hno], hx⟩
end Go.Proofs.Ytpbflfgigfdohaa

namespace Go.Proofs.Ytpbflfgigfdohaa
open Go Go.Vc Go.RowKit Go.Proofs

def DA9 : List Df := [⟨[97], 0, [⟨5, 3, [], [], 0, 1, 0⟩, ⟨1, 2, [], [], 0, 0, 0⟩]⟩]
def TA9 : Nat → Tr := fun _ => .node ⟨5, 3, [], [], 0, 1, 0⟩ (.cons (.node ⟨1, 2, [], [], 0, 0, 0⟩ .nil) .nil)
theorem ckA9 : (chkS DA9).2.2 = 0 := by decide +kernel
theorem trdA9 : Trd DA9 TA9 := by
 refine ⟨by decide, fun i hi => ⟨by decide, by decide, by decide, by decide, ⟨by decide, by decide, by decide, by decide, trivial⟩, trivial⟩, by decide +kernel, fun i hi => ?_⟩
 obtain rfl : i = 0 := by simp [DA9] at hi; omega
 rfl
theorem usesA9 (i : Nat) : usesD DA9 i = [] := by
 match i with
 | 0 => decide +kernel
 | n + 1 => rfl
theorem acA9 : ∀ i, ¬ Relation.TransGen (Us (usesD DA9)) i i := rank_no (fun _ => 0) (fun i j hj => by rw [usesA9] at hj; cases hj)
theorem fAA9 : fA DA9 = none := by
 rw [fA_of ckA9 trdA9, show resF DA9 TA9 = none by decide +kernel, ring_none (fun j _ => acA9 j), show deepF DA9 TA9 = none by decide +kernel]
 rfl
theorem bnA9 : bndF DA9 = none := by decide +kernel
theorem bfA9 : bldF DA9 = none := bldF_none.2 ⟨ckA9, fAA9, bnA9⟩
theorem orA9 : ordN DA9 = [0] := by decide +kernel
theorem tdA9 : TD DA9 0 = TA9 0 := (trd_of ckA9).uniq trdA9 0 (by decide)
def LA9 : List Tp := [⟨1, 2, 0, []⟩, ⟨5, 3, 0, []⟩]
def RA9 : List Ro := [⟨[97], 1⟩]
theorem moA9 : mkO (whD DA9) (TD DA9) (ordN DA9) (fun _ => 0) [] = (upI (fun _ => 0) 0 1, LA9) := by
 rw [orA9, mkO, mkO, tdA9]
 simp [TA9, mkT, mkK, many7, LA9]
theorem scA9 : bldT DA9 = LA9 ∧ bldR DA9 = RA9 := by
 unfold bldT bldR
 rw [if_pos bfA9, if_pos bfA9]
 unfold schT schR
 rw [moA9]
 exact ⟨rfl, rfl⟩
theorem limA9 : DOk DA9 := ⟨by decide, fun d hd => by simp [DA9] at hd; subst hd; decide, fun d hd => by simp [DA9] at hd; subst hd; decide, fun d hd => by simp [DA9] at hd; subst hd; (intro x hx; simp at hx; rcases hx with rfl | rfl <;> decide)⟩
theorem build_A9 (dv : Value) (V : Nat → Value) (w0 : World) (hD : DefR w0 DA9 dv V) : Ca Try.prog 8 #[.agg #[dv]] w0 (fun v w' => ∃ tv rv U, v = .tuple #[.agg #[tv, rv], .agg #[.int .i64 0, .int .i64 0]] ∧ Schs w' w0.heap.size LA9 RA9 tv rv U ∧ Ext w0 w') := by
 refine (build_spec DA9 dv V w0 hD limA9 (fun d hd => by simp [DA9] at hd; subst hd; decide)).mono ?_
 rintro v w' ⟨tv, rv, U, rfl, h1, h2⟩
 rw [scA9.1, scA9.2] at h1
 exact ⟨tv, rv, U, by rw [(bldV_no bfA9).1, (bldV_no bfA9).2], h1, h2⟩
theorem okA9 : SOk LA9 RA9 := ⟨by decide, by simp [LA9], by decide, by simp [LA9], by simp [RA9]⟩
theorem find_A9 (tv rv : Value) (w0 : World) (hR : Sl w0 2 rv RA9.length (ros RA9)) (h1v : tv.oneCell' = true) : Ca Try.prog 10 #[.agg #[tv, rv], st [98]] w0 (fun v w' => v = .tuple #[.int .i64 0, .int .i64 93] ∧ Ext w0 w') :=
 (tfind_spec RA9 tv rv [98] w0 hR (by decide) h1v).mono fun v w' h => ⟨h.1, h.2⟩
theorem same_A9 (L1 : List Tp) (R1 : List Ro) (tv1 rv1 : Value) (V1 : Nat → Value) (L2 : List Tp) (R2 : List Ro) (tv2 rv2 : Value) (V2 : Nat → Value) (w0 : World) (hA : SchR w0 L1 R1 tv1 rv1 V1) (hB : SchR w0 L2 R2 tv2 rv2 V2) (hk1 : SOk L1 R1) (hk2 : SOk L2 R2) (he : L1 = L2 ∧ R1 = R2) : Ca Try.prog 13 #[.agg #[tv1, rv1], .agg #[tv2, rv2]] w0 (fun v w' => v = .bool true ∧ Ext w0 w') :=
 (tsame_spec L1 R1 tv1 rv1 V1 L2 R2 tv2 rv2 V2 w0 hA hB hk1 hk2).mono fun v w' h => ⟨by rw [h.1, decide_eq_true he], h.2⟩
theorem scv_A9 : scV [⟨0, 0, 0, []⟩] [] = (92, 0) := sc_tp (L := [⟨0, 0, 0, []⟩]) (i := 0) (by decide) (by simp [tpOk, numOk]) (fun j hj h => by omega)
theorem check_A9 (tv : Value) (w0 : World) (hT : TypR w0 [⟨0, 0, 0, []⟩] tv (fun _ => .slice none 0 0)) : Ca Try.prog 9 #[.agg #[tv, .slice none 0 0]] w0 (fun v w' => v = .agg #[.int .i64 92, .int .i64 0] ∧ Ext w0 w') := by
 refine (tcheck_spec [⟨0, 0, 0, []⟩] [] tv (.slice none 0 0) (fun _ => .slice none 0 0) w0 ⟨hT, Sl.nil _ _⟩ ⟨by decide, fun t ht => by simp at ht; subst ht; exact ⟨by decide, by simp, by simp⟩⟩ ⟨by decide, by simp⟩).mono ?_
 rintro v w' ⟨rfl, hx⟩
 rw [scv_A9]
 exact ⟨rfl, hx⟩

set_option maxHeartbeats 4000000 in
theorem awake9_spec (w0 : World) : Ca Try.prog 6 #[] w0 (fun v w' => v = .bool true ∧ Ext w0 w') := by
 have hx : Ext w0 w0 := Only.refl _ _
 refine Ca.of Try.func6 Try.ntmps6 rfl rfl (W.seq (W.region (WL.c rfl (o_ash vB (WL.nil (W.seq (W.region (WL.c rfl (o_bldC (cs := [(.int .i64 5), (.int .i64 3), (.string ⟨#[]⟩), (.string ⟨#[]⟩), (.int .i64 0), (.int .i64 1), (.int .i64 0)]) TI41 (Sizes.cons TI3 (Sizes.cons TI3 (Sizes.cons TI9 (Sizes.cons TI9 (Sizes.cons TI3 (Sizes.cons TI3 (Sizes.cons TI3 Sizes.nil))))))) rfl (lcp vI (lcp vI (lcp vI lnp))) rfl rfl (WL.c rfl (o_bldC (cs := [(.int .i64 1), (.int .i64 2), (.string ⟨#[]⟩), (.string ⟨#[]⟩), (.int .i64 0), (.int .i64 0), (.int .i64 0)]) TI41 (Sizes.cons TI3 (Sizes.cons TI3 (Sizes.cons TI9 (Sizes.cons TI9 (Sizes.cons TI3 (Sizes.cons TI3 (Sizes.cons TI3 Sizes.nil))))))) rfl (lcp vI (lcp vI lnp)) rfl rfl (WL.c rfl (o_bsA (xs := [(.tmp 6), (.tmp 7)]) (cs := exs [⟨5, 3, [], [], 0, 1, 0⟩, ⟨1, 2, [], [], 0, 0, 0⟩]) TI37 TI41 rfl (lc (show _ = Value.agg (exV ⟨5, 3, [], [], 0, 1, 0⟩).toArray from rfl) (lc (show _ = Value.agg (exV ⟨1, 2, [], [], 0, 0, 0⟩).toArray from rfl) ln)) rfl rfl (by decide) (by decide) rfl ?_)))))))))))))
 have hT8 : Sl (w0.alloc (.cells (exs [⟨5, 3, [], [], 0, 1, 0⟩, ⟨1, 2, [], [], 0, 0, 0⟩]).toArray 41)) 7 (.slice (some ⟨w0.heap.size, 0, none⟩) 2 2) 2 (exs [⟨5, 3, [], [], 0, 1, 0⟩, ⟨1, 2, [], [], 0, 0, 0⟩]) := Sl.ofRow rfl
 have hxr : Ext w0 (w0.alloc (.cells (exs [⟨5, 3, [], [], 0, 1, 0⟩, ⟨1, 2, [], [], 0, 0, 0⟩]).toArray 41)) := Only.alloc w0 _
 obtain ⟨g8, hg8⟩ : ∃ g, g = w0.heap.size := ⟨_, rfl⟩
 rw [← hg8] at hT8 ⊢
 generalize w0.alloc (.cells (exs [⟨5, 3, [], [], 0, 1, 0⟩, ⟨1, 2, [], [], 0, 0, 0⟩]).toArray 41) = w8 at hT8 hxr ⊢
 replace hx := hx.tr hxr
 clear hxr
 refine WL.c rfl (o_bldC (cs := [(st [97]), (.int .i64 0), _]) TI39 (Sizes.cons TI9 (Sizes.cons TI3 (Sizes.cons TI37 Sizes.nil))) rfl (lcp (show _ = Value.string _ from rfl) (lcp (show _ = Value.slice (some ⟨g8, 0, none⟩) 2 2 from rfl) lnp)) rfl rfl (WL.c rfl (o_bs1 TI23 TI39 (show _ = (Value.agg #[st [97], .int .i64 0, .slice (some ⟨g8, 0, none⟩) 2 2]) from rfl) (by decide) (by decide) rfl ?_)))
 have hT10 : Sl (w8.alloc (.cells (Value.agg #[st [97], .int .i64 0, .slice (some ⟨g8, 0, none⟩) 2 2]).cells 39)) 3 (.slice (some ⟨w8.heap.size, 0, none⟩) 1 1) 1 (drows DA9 (fun _ => .slice (some ⟨g8, 0, none⟩) 2 2)) := Sl.one rfl
 have hxr : Ext w8 (w8.alloc (.cells (Value.agg #[st [97], .int .i64 0, .slice (some ⟨g8, 0, none⟩) 2 2]).cells 39)) := Only.alloc w8 _
 obtain ⟨g10, hg10⟩ : ∃ g, g = w8.heap.size := ⟨_, rfl⟩
 rw [← hg10] at hT10 ⊢
 generalize w8.alloc (.cells (Value.agg #[st [97], .int .i64 0, .slice (some ⟨g8, 0, none⟩) 2 2]).cells 39) = w10 at hT10 hxr ⊢
 replace hx := hx.tr hxr
 replace hT8 := hT8.ext hxr
 clear hxr
 have hD : DefR w10 DA9 (.slice (some ⟨g10, 0, none⟩) 1 1) (fun _ => .slice (some ⟨g8, 0, none⟩) 2 2) := ⟨hT10, fun j hj => by
  obtain rfl : j = 0 := by simp [DA9] at hj; omega
  exact hT8⟩
 refine WL.c rfl (o_bldC (cs := [_]) TI25 (Sizes.cons TI23 Sizes.nil) rfl (lcp (show _ = Value.slice (some ⟨g10, 0, none⟩) 1 1 from rfl) lnp) rfl rfl (WL.c rfl (o_call Try.call8 (lc rfl ln) ((build_A9 _ _ _ hD).mono ?_))))
 rintro v12 w12 ⟨tv, rv, U, rfl, hSc, hx12⟩
 replace hx := hx.tr hx12
 have hE : Ext w12 w12 := Only.refl _ _
 refine WL.c rfl (o_mvh (by first | exact (show _ = Value.tuple _ from rfl) | exact rfl) (WL.c rfl (o_ext rfl rfl (WL.c rfl (o_ext rfl rfl (WL.c rfl (o_alB TI34 ?_)))))))
 intro wa hC1 hxa hsa
 obtain ⟨b1, hb1⟩ : ∃ b, b = w12.heap.size := ⟨_, rfl⟩
 rw [← hb1] at hC1 ⊢
 replace hC1 : wa.heap[b1]? = some (.cells #[.slice none 0 0, .slice none 0 0] 34 (0, 0)) := hC1
 replace hE := hE.tr hxa
 refine WL.c rfl (o_alB TI28 ?_)
 intro wb hC2 hxb hsb
 have hsE := hE.size
 obtain ⟨b2, hb2⟩ : ∃ b, b = wa.heap.size := ⟨_, rfl⟩
 rw [← hb2] at hC2 ⊢
 replace hC2 : wb.heap[b2]? = some (.cells #[.int .i64 0, .int .i64 0] 28 (0, 0)) := hC2
 replace hE := hE.tr hxb
 replace hC1 := hxb.blk hC1 (fun h => h)
 refine WL.u (o_stA TI34 rfl (show _ = Value.agg #[tv, rv] from rfl) rfl (by simp [own_one hSc.ro, own_one hSc.ty.row]) hC1 rfl ?_)
 intro wc hC1n ho hs
 replace hC2 := ho.blk hC2 (blk_ne3 hC2 hC1 (by decide))
 replace hE := hE.trans' ho (fun _ h => h) (fun b hb e => by omega)
 replace hC1 := hC1n
 refine WL.u (o_stA TI28 rfl (show _ = Value.agg #[.int .i64 0, .int .i64 0] from rfl) rfl rfl hC2 rfl ?_)
 intro wd hC2n ho hs
 replace hC1 := ho.blk hC1 (blk_ne3 hC1 hC2 (by decide))
 replace hE := hE.trans' ho (fun _ h => h) (fun b hb e => by omega)
 replace hC2 := hC2n
 replace hSc := hSc.ext hE
 replace hx := hx.tr hE
 clear hE
 refine WL.nil (W.seq (W.seq (W.region (WL.c rfl (o_ldA TI28 rfl rfl (show Cells _ b2 0 [.int .i64 0, .int .i64 0] from Cells.of hC2 0 _ (by simp)) rfl (WL.c rfl (o_bldC (cs := [(.int .i64 0), (.int .i64 0)]) TI28 (Sizes.cons TI26 (Sizes.cons TI3 Sizes.nil)) rfl lnp rfl rfl (WL.c rfl (o_neR TI28 (by kernel_rfl) (by kernel_rfl) rfl rfl (.int TI26 (by decide) rfl rfl (.int TI3 (by decide) rfl rfl .nil)) (WL.c rfl (o_mvh vB (WL.g rfl (by simp) rfl (o_ldA TI34 rfl rfl (show Cells _ b1 0 [tv, rv] from Cells.of hC1 0 _ (by simp)) rfl (WL.g rfl (by simp) rfl (o_bldC (cs := [(.int .i64 1), (.int .i64 2), (.int .i64 0), (.slice none 0 0)]) TI50 (Sizes.cons TI3 (Sizes.cons TI3 (Sizes.cons TI3 (Sizes.cons TI48 Sizes.nil)))) rfl (lcp vI (lcp vI lnp)) rfl rfl (WL.g rfl (by simp) rfl (o_bldC (cs := [(.int .i64 5), (.int .i64 3), (.int .i64 0), (.slice none 0 0)]) TI50 (Sizes.cons TI3 (Sizes.cons TI3 (Sizes.cons TI3 (Sizes.cons TI48 Sizes.nil)))) rfl (lcp vI (lcp vI lnp)) rfl rfl (WL.g rfl (by simp) rfl (o_bsA (xs := [(.tmp 20), (.tmp 21)]) (cs := trows LA9 (fun _ => .slice none 0 0)) TI31 TI50 rfl (lc (show _ = Value.agg (tcell ⟨1, 2, 0, []⟩ (.slice none 0 0)).toArray from rfl) (lc (show _ = Value.agg (tcell ⟨5, 3, 0, []⟩ (.slice none 0 0)).toArray from rfl) ln)) rfl rfl (by decide) (by decide) rfl ?_)))))))))))))))))))
 have hT22 : Sl (wd.alloc (.cells (trows LA9 (fun _ => .slice none 0 0)).toArray 50)) 4 (.slice (some ⟨wd.heap.size, 0, none⟩) 2 2) 2 (trows LA9 (fun _ => .slice none 0 0)) := Sl.ofRow rfl
 have hxr : Ext wd (wd.alloc (.cells (trows LA9 (fun _ => .slice none 0 0)).toArray 50)) := Only.alloc wd _
 obtain ⟨g22, hg22⟩ : ∃ g, g = wd.heap.size := ⟨_, rfl⟩
 rw [← hg22] at hT22 ⊢
 generalize wd.alloc (.cells (trows LA9 (fun _ => .slice none 0 0)).toArray 50) = w22 at hT22 hxr ⊢
 replace hx := hx.tr hxr
 replace hSc := hSc.ext hxr
 replace hC1 := hxr.blk hC1 (fun h => h)
 clear hxr
 refine WL.g rfl (by simp) rfl (o_bldC (cs := [(st [97]), (.int .i64 1)]) TI47 (Sizes.cons TI9 (Sizes.cons TI3 Sizes.nil)) rfl (lcp (show _ = Value.string _ from rfl) (lcp vI lnp)) rfl rfl (WL.g rfl (by simp) rfl (o_bs1 TI32 TI47 (show _ = Value.agg (roV ⟨[97], 1⟩).toArray from rfl) (by decide) (by decide) rfl ?_)))
 have hT24 : Sl (w22.alloc (.cells (Value.agg (roV ⟨[97], 1⟩).toArray).cells 47)) 2 (.slice (some ⟨w22.heap.size, 0, none⟩) 1 1) 1 (ros RA9) := Sl.one rfl
 have hxr : Ext w22 (w22.alloc (.cells (Value.agg (roV ⟨[97], 1⟩).toArray).cells 47)) := Only.alloc w22 _
 obtain ⟨g24, hg24⟩ : ∃ g, g = w22.heap.size := ⟨_, rfl⟩
 rw [← hg24] at hT24 ⊢
 generalize w22.alloc (.cells (Value.agg (roV ⟨[97], 1⟩).toArray).cells 47) = w24 at hT24 hxr ⊢
 replace hx := hx.tr hxr
 replace hSc := hSc.ext hxr
 replace hT22 := hT22.ext hxr
 replace hC1 := hxr.blk hC1 (fun h => h)
 have hB : SchR w24 LA9 RA9 (.slice (some ⟨g22, 0, none⟩) 2 2) (.slice (some ⟨g24, 0, none⟩) 1 1) (fun _ => .slice none 0 0) := ⟨⟨hT22, fun j hj => by
  have hj2 : j = 0 ∨ j = 1 := by simp [LA9] at hj; omega
  rcases hj2 with rfl | rfl <;> exact Sl.nil _ _⟩, hT24⟩
 clear hxr
 refine WL.g rfl (by simp) rfl (o_bldC (cs := [_, _]) TI34 (Sizes.cons TI31 (Sizes.cons TI32 Sizes.nil)) rfl (lcp (show _ = Value.slice (some ⟨g22, 0, none⟩) 2 2 from rfl) (lcp (show _ = Value.slice (some ⟨g24, 0, none⟩) 1 1 from rfl) lnp)) rfl rfl (WL.g rfl (by simp) rfl (o_call Try.call13 (lc rfl (lc rfl ln)) ((same_A9 LA9 RA9 tv rv U LA9 RA9 _ _ _ _ hSc.rd hB okA9 okA9 ⟨rfl, rfl⟩).mono ?_))))
 rintro v26 w26 ⟨rfl, hx26⟩
 replace hx := hx.tr hx26
 replace hSc := hSc.ext hx26
 replace hC1 := hx26.blk hC1 (fun h => h)
 refine WL.g rfl (by simp) rfl (o_not' rfl (WL.c rfl (o_pickO rfl rfl (WL.nil (W.condF' rfl (by simp) (W.skip (W.seq (W.region (WL.c rfl (o_ldA TI34 rfl rfl (show Cells _ b1 0 [tv, rv] from Cells.of hC1 0 _ (by simp)) rfl (WL.c rfl (o_call Try.call10 (lc rfl (lc rfl ln)) ((find_A9 tv rv _ (Sl.own hSc.ro) (own_one hSc.ty.row)).mono ?_)))))))))))))
 rintro v31 w31 ⟨rfl, hx31⟩
 replace hx := hx.tr hx31
 refine WL.c rfl (o_mvh (by first | exact (show _ = Value.tuple _ from rfl) | exact rfl) (WL.c rfl (o_ext rfl rfl (WL.c rfl (o_ext rfl rfl (WL.c rfl (o_ash vI (WL.c rfl (o_ash vI (WL.nil (W.seq (W.region (WL.c rfl (o_mvh vI (WL.c rfl (o_eq rfl rfl (WL.c rfl (o_mvh vB (WL.g rfl (by simp) rfl (o_mvh vI (WL.g rfl (by simp) rfl (o_eq rfl rfl (WL.c rfl (o_pickA rfl rfl (WL.c rfl (o_mvh vB (WL.g rfl (by simp) rfl (o_bldC (cs := [(.int .i64 0), (.int .i64 0), (.int .i64 0), (.slice none 0 0)]) TI50 (Sizes.cons TI3 (Sizes.cons TI3 (Sizes.cons TI3 (Sizes.cons TI48 Sizes.nil)))) rfl lnp rfl rfl (WL.g rfl (by simp) rfl (o_bs1 TI31 TI50 (show _ = Value.agg (tcell ⟨0, 0, 0, []⟩ (.slice none 0 0)).toArray from rfl) (by decide) (by decide) rfl ?_))))))))))))))))))))))))))))))
 have hT42 : Sl (w31.alloc (.cells (Value.agg (tcell ⟨0, 0, 0, []⟩ (.slice none 0 0)).toArray).cells 50)) 4 (.slice (some ⟨w31.heap.size, 0, none⟩) 1 1) 1 (trows [⟨0, 0, 0, []⟩] (fun _ => .slice none 0 0)) := Sl.one rfl
 have hxr : Ext w31 (w31.alloc (.cells (Value.agg (tcell ⟨0, 0, 0, []⟩ (.slice none 0 0)).toArray).cells 50)) := Only.alloc w31 _
 obtain ⟨g42, hg42⟩ : ∃ g, g = w31.heap.size := ⟨_, rfl⟩
 rw [← hg42] at hT42 ⊢
 generalize w31.alloc (.cells (Value.agg (tcell ⟨0, 0, 0, []⟩ (.slice none 0 0)).toArray).cells 50) = w42 at hT42 hxr ⊢
 replace hx := hx.tr hxr
 clear hxr
 refine WL.g rfl (by simp) rfl (o_bldC (cs := [_, (.slice none 0 0)]) TI34 (Sizes.cons TI31 (Sizes.cons TI32 Sizes.nil)) rfl (lcp (show _ = Value.slice (some ⟨g42, 0, none⟩) 1 1 from rfl) lnp) rfl rfl (WL.g rfl (by simp) rfl (o_call Try.call9 (lc rfl ln) ((check_A9 _ _ ⟨hT42, fun j hj => by obtain rfl : j = 0 := (by simp at hj; omega); exact Sl.nil _ _⟩).mono ?_))))
 rintro v44 w44 ⟨rfl, hx44⟩
 replace hx := hx.tr hx44
 refine WL.g rfl (by simp) rfl (o_fldT TI28 rfl rfl rfl TI26 rfl rfl rfl (WL.g rfl (by simp) rfl (o_eq rfl rfl (WL.c rfl (o_pickA rfl rfl (WL.c rfl (o_ash vB (WL.nil (W.ret (ret1v rfl vB ?_))))))))))
 exact ⟨rfl, hx⟩
end Go.Proofs.Ytpbflfgigfdohaa

namespace Go.Proofs.Ytpbflfgigfdohaa
open Go Go.Vc Go.RowKit Go.Proofs

theorem ext_of09 {w w' : World} {el s b m : Nat} (hs : 0 < s) (h : w.heap[b]? = some (.cells #[] el (0, 0))) (ho : Only (fun k => (Value.slice (some ⟨b, 0, none⟩) 0 0).ownBlock = some k) w w') (hr : w'.ownsRow m el s (.slice (some ⟨b, 0, none⟩) 0 0) 0 []) : Ext w w' := by
 have hb : w'.heap[b]? = some (.cells #[] el (0, 0)) := by
  obtain ⟨cap, cur, hv, -, hB, -, -, hcs, -⟩ := own_blk hr (g := b) rfl
  cases hv
  have : cur = #[] := by rw [← Array.size_eq_zero_iff, hcs]; simp
  rw [this] at hB; exact hB
 refine ⟨ho.os, ho.tape, ho.output, ho.size, fun k hk _ => ?_⟩
 by_cases e : k = b
 ·subst e; rw [h, hb]
 exact ho.block k hk (fun he => e (by simpa [Value.ownBlock] using he.symm))
theorem trows_get {L : List Tp} {V : Nat → Value} {j c : Nat} (hj : j < L.length) (hc : c < 4) : (trows L V)[j * 4 + c]? = (tcell (L.getD j tp0) (V j))[c]? := by
 have h := trows_at L V hj
 rw [← h, List.getElem?_take, if_pos hc, List.getElem?_drop]
theorem mark_get {xs ys : List Value} {n s k : Nat} {v : Value} (hl : xs.length = n * s) (h : ys[k]? = some v) : (xs ++ ys)[n * s + k]? = some v := by
 rw [List.getElem?_append_right (by omega), hl, Nat.add_sub_cancel_left, h]
theorem sok_of {L : List Tp} {R : List Ro} (hL : LLim L) (hR : RLim R) : SOk L R := ⟨hL.len, fun t ht => (hL.ty t ht).len, hR.len, fun t ht => (hL.ty t ht).lb, hR.nm⟩

end Go.Proofs.Ytpbflfgigfdohaa

namespace Go.Proofs.Ytpbflfgigfdohaa
open Go Go.Vc Go.RowKit Go.Proofs

/-- what a book holds; wB: the world that the reference's Build began in -/
structure BR (wB w : World) (pb : Nat) (dv rv : Value) (n : Nat) (f : Nat → Int) (L : List Tp) (tv : Value) (U : Nat → Value) : Prop where
 cell : w.heap[pb]? = some (.cells #[tv, rv, dv] 97 (0, 0))
 ty : Typs w wB.heap.size L tv U
 ro : w.ownsRow wB.heap.size 3 1 rv n (zvs n f)
 ex : Ext wB w
 pH : wB.heap.size ≤ pb
theorem BR.ext {wB w w' : World} {pb n : Nat} {dv rv : Value} {f : Nat → Int} {L : List Tp} {tv : Value} {U : Nat → Value} (h : BR wB w pb dv rv n f L tv U) (ho : Ext w w') : BR wB w' pb dv rv n f L tv U :=
 ⟨ho.blk h.cell (fun h => h), h.ty.ext ho, own_ext h.ro ho, h.ex.tr ho, h.pH⟩
theorem BR.only {wB w w' : World} {pb n : Nat} {dv rv : Value} {f : Nat → Int} {L : List Tp} {tv : Value} {U : Nat → Value} {F : Nat → Prop} (h : BR wB w pb dv rv n f L tv U) (ho : Only F w w') (h1 : ¬ F pb) (h2 : ∀ k, tv.ownBlock = some k → ¬ F k) (h3 : ∀ j, j < L.length → ∀ k, (U j).ownBlock = some k → ¬ F k) (h4 : ∀ k, rv.ownBlock = some k → ¬ F k) (hz : ∀ k, F k → wB.heap.size ≤ k) : BR wB w' pb dv rv n f L tv U :=
 ⟨ho.blk h.cell h1, h.ty.only ho (fun k hk => by
   rcases hk with hk | ⟨j, hj, hk⟩
   ·exact h2 k hk
   exact h3 j hj k hk), own_only h.ro ho h4, h.ex.trans' ho (fun _ h => h) (fun k hk e => by have := hz k e; omega), h.pH⟩
theorem BR.off {wB w : World} {pb n c : Nat} {dv rv : Value} {f : Nat → Int} {L : List Tp} {tv : Value} {U : Nat → Value} {cs : Array Value} {T : TypeId} {fr : Nat × Nat} (h : BR wB w pb dv rv n f L tv U) (hc : w.heap[c]? = some (.cells cs T fr)) (h1 : ¬ 97 = T) (h3 : 52 ≠ T) (h4 : 3 ≠ T) : ¬ pb = c ∧ (∀ j, j < L.length → ∀ k, (U j).ownBlock = some k → ¬ k = c) ∧ (∀ k, rv.ownBlock = some k → ¬ k = c) :=
 ⟨fun e => by
  have h5 := h.cell
  rw [e, hc] at h5
  simp only [Option.some.injEq, Obj.cells.injEq] at h5
  exact h1 h5.2.1.symm, fun j hj k hk e => by subst e; exact own_off (h.ty.tys.row j hj) hc h3 hk, fun k hk e => by subst e; exact own_off h.ro hc h4 hk⟩
/-- what a call of the reference's make does -/
def SMk (wB : World) (pb : Nat) (D : List Df) (dv rv : Value) (f : Nat → Int) (N : Nat) (t : Tr) : Prop := ∀ (Ls rest : List Ex) (lv : Value) (at_ : Nat) (L : List Tp) (tv : Value) (U : Nat → Value) (a : Int) (d : Nat) (w0 : World), t.wf a d → Ls.drop at_ = t.flat ++ rest → Sl wB 7 lv Ls.length (exs Ls) → BR wB w0 pb dv rv D.length f L tv U → (∀ x ∈ t.flat, x.kind = 9 → ∃ i, whereN D x.name = some i) → (∀ x ∈ t.flat, x.name.length ≤ 9223372036854775807 ∧ x.label.length ≤ 9223372036854775807) → L.length + t.flat.length ≤ N → Ls.length * 72 ≤ 140737488351232 →
 Ca Try.prog 38 #[.pointer (some ⟨pb, 0, none⟩), lv, .int .i64 (at_ : Int)] w0 (fun u w' => ∃ tv' U', u = .int .i64 (mkT (fun nm => f (whD D nm)) t L).1 ∧ BR wB w' pb dv rv D.length f (mkT (fun nm => f (whD D nm)) t L).2 tv' U' ∧ Only (PT pb tv) w0 w' ∧ NewV w0 tv tv' ∧ NewU w0 L (mkT (fun nm => f (whD D nm)) t L).2 U U')
theorem wf_n0 {y : Ex} {ks : Trs} {a : Int} {d : Nat} (h : (Tr.node y ks).wf a d) (hk : ¬ (y.kind = 1 ∨ y.kind = 4 ∨ y.kind = 5)) (h9 : ¬ y.kind = 9) : y.n = 0 := by
 obtain ⟨hok, -, -, -⟩ := rightB_iff h.2.2.1
 unfold okB at hok
 rw [if_neg (by omega)] at hok
 split at hok
 ·simp only [Bool.and_eq_true, decide_eq_true_eq] at hok; exact hok.1
 rw [if_neg (by omega)] at hok
 split at hok
 ·simp only [Bool.and_eq_true, decide_eq_true_eq] at hok; exact hok.1
 split at hok
 ·simp only [Bool.and_eq_true, decide_eq_true_eq] at hok; exact hok.1
 cases hok
theorem wf_lab {t : Tr} {a : Int} {d : Nat} (h : t.wf a d) (ha : ¬ a = 8) : t.top.label = [] := by
 obtain ⟨-, -, hl, -⟩ := rightB_iff (wf_top h)
 unfold labB at hl
 rw [if_neg ha] at hl
 exact of_decide_eq_true hl
theorem wf_tag {t : Tr} {a : Int} {d : Nat} (h : t.wf a d) (ha : ¬ a = 7) : t.top.tag = 0 := by
 obtain ⟨-, -, -, hg⟩ := rightB_iff (wf_top h)
 unfold tagB at hg
 simp only [Bool.or_eq_true, Bool.and_eq_true, decide_eq_true_eq] at hg
 omega

set_option maxHeartbeats 1000000 in
theorem bfind_spec (pb : Nat) (D : List Df) (dv : Value) (V : Nat → Value) (nm : List UInt8) (tv rv : Value) (w0 : World) (hC : w0.heap[pb]? = some (.cells #[tv, rv, dv] 97 (0, 0))) (hD : DefR w0 D dv V) (hlen : D.length * 48 ≤ 140737488351232) {k0 : Nat} (hk0 : whereN D nm = some k0) : Ca Try.prog 68 #[.pointer (some ⟨pb, 0, none⟩), st nm] w0 (fun v w' => v = .int .i64 (k0 : Int) ∧ w' = w0) := by
 obtain ⟨hkl, hkn, hkf⟩ := whereN_some hk0
 refine Ca.of Try.func68 Try.ntmps68 rfl rfl (W.seq (W.region (WL.c rfl (o_ash vI (WL.nil (W.seq (W.seq (W.region (WL.c rfl (o_ash vI (WL.nil (W.block (W.loop (fun e w => ∃ k : Nat, k ≤ k0 ∧ e 0 = .pointer (some ⟨pb, 0, none⟩) ∧ e 1 = st nm ∧ e 5 = .int .i64 (k : Int) ∧ w = w0) (fun e w => D.length - (intOf (e 5)).toNat) ?_ ?_)))))))))))))
 ·exact ⟨0, Nat.zero_le _, rfl, rfl, rfl, rfl⟩
 rintro e w ⟨k, hk, h0, h1, h5, hw⟩
 have hm5 := h5
 subst hw
 refine W.seq (W.seq (W.region (WL.c rfl (o_mvh h5 (WL.c rfl (o_mvh h0 (WL.c rfl (o_nil rfl (WL.c rfl (o_fa 2 TI97 rfl TI25 rfl rfl (WL.c rfl (o_fa 0 TI25 rfl TI23 rfl rfl (WL.c rfl (o_ld TI23 rfl rfl (cell_of hC rfl) (WL.c rfl (o_lenR TI23 rfl hD.row (WL.c rfl (o_lt rfl rfl (WL.nil (W.cond rfl (fun c13 => ?_) (fun c13 => ?_)))))))))))))))))))))
 ·try simp only [cs8] at c13
  have hk1 : k < D.length := by omega
  obtain ⟨tb, to_, tc, hdv, htc, hty⟩ := hD.atk hk1
  have hCs := hC
  rw [hdv] at hCs
  refine W.skip (W.seq (W.block (W.seq (W.region (WL.c rfl (o_mvh h0 (WL.c rfl (o_nil rfl (WL.c rfl (o_fa 2 TI97 rfl TI25 rfl rfl (WL.c rfl (o_fa 0 TI25 rfl TI23 rfl rfl (WL.c rfl (o_ld TI23 rfl rfl (cell_of hCs rfl) (WL.c rfl (o_mvh h5 (WL.c rfl (o_ixB (i := k) TI23 TI39 (show _ = Value.slice (some ⟨tb, to_, none⟩) D.length tc from rfl) (show _ = Value.int .i64 (k : Int) from rfl) (by omega) (WL.c rfl (o_fa 0 TI39 rfl TI9 rfl rfl (WL.c rfl (o_ld TI9 rfl rfl (htc 0 _ rfl) (WL.c rfl (o_mvh h1 (WL.c rfl (o_eqT rfl rfl (WL.nil (W.cond rfl (fun c26 => ?_) (fun c26 => ?_)))))))))))))))))))))))))))))
  ·try simp only [cs8] at c26
   have heq : D[k].name = nm := by simpa using c26
   refine W.seq (W.region (WL.c rfl (o_mvh h5 (WL.c rfl (o_ash vI (WL.nil (W.ret (ret1v rfl vI ?_))))))))
   have hkk : k = k0 := by
    rcases Nat.lt_or_ge k k0 with h | h
    ·exact absurd heq (hkf k h)
    omega
   subst hkk
   exact ⟨rfl, rfl⟩
  try simp only [cs8] at c26
  have hne : ¬ D[k].name = nm := by simpa using c26
  refine W.skip (W.region (WL.c rfl (o_mvh h5 (WL.c rfl (o_addi rfl rfl (by omega) (WL.c rfl (o_ash vI (WL.nil (⟨⟨k + 1, by rcases Nat.lt_or_ge k k0 with h | h; exact h; exact absurd (by rw [← hkn]; congr 1; congr 1; omega) hne, h0, h1, rfl, rfl⟩, ?_⟩)))))))))
  show D.length - ((k : Int) + 1).toNat < _
  rw [hm5]; simp [intOf]; omega
 try simp only [cs8] at c13
 omega
set_option maxHeartbeats 8000000 in
theorem rmake_step (wB : World) (pb : Nat) (D : List Df) (dv rv : Value) (V : Nat → Value) (f : Nat → Int) (N : Nat) (hDB : DefR wB D dv V) (hlen : D.length * 48 ≤ 140737488351232) (hN : N ≤ 2932031007402) (y : Ex) (ks : Trs) (IH : ∀ t : Tr, t.flat.length < (Tr.node y ks).flat.length → SMk wB pb D dv rv f N t) (Ls rest : List Ex) (lv : Value) (at_ : Nat) (L : List Tp) (tv : Value) (U : Nat → Value) (a : Int) (d : Nat) (w0 : World) (hw : (Tr.node y ks).wf a d) (hL : Ls.drop at_ = (Tr.node y ks).flat ++ rest) (hlS : Sl wB 7 lv Ls.length (exs Ls)) (hS : BR wB w0 pb dv rv D.length f L tv U) (hkn : ∀ x ∈ (Tr.node y ks).flat, x.kind = 9 → ∃ i, whereN D x.name = some i) (hnl : ∀ x ∈ (Tr.node y ks).flat, x.name.length ≤ 9223372036854775807 ∧ x.label.length ≤ 9223372036854775807) (hLN : L.length + (Tr.node y ks).flat.length ≤ N) (hsz : Ls.length * 72 ≤ 140737488351232) : Ca Try.prog 38 #[.pointer (some ⟨pb, 0, none⟩), lv, .int .i64 (at_ : Int)] w0 (fun u w' => ∃ tv' U', u = .int .i64 (mkT (fun nm => f (whD D nm)) (Tr.node y ks) L).1 ∧ BR wB w' pb dv rv D.length f (mkT (fun nm => f (whD D nm)) (Tr.node y ks) L).2 tv' U' ∧ Only (PT pb tv) w0 w' ∧ NewV w0 tv tv' ∧ NewU w0 L (mkT (fun nm => f (whD D nm)) (Tr.node y ks) L).2 U U') := by
 have hfl : (Tr.node y ks).flat.length = ks.flat.length + 1 := rfl
 have hkk : y.kids = (ks.len : Int) := hw.2.2.2.1.symm
 have hlk := trs_len_le ks
 obtain ⟨hyn, hyl⟩ := hnl y (List.mem_cons_self ..)
 obtain ⟨hat, hya, hL1⟩ := drop_at (show Ls.drop at_ = y :: (ks.flat ++ rest) from hL)
 obtain ⟨ub, uo, uc, rfl, huc⟩ := Sl.exq hlS hat
 rw [hya] at huc
 have hubl : ub < wB.heap.size := by have := huc 0 _ rfl; exact cell_lt this
 have hksl : ks.flat.length ≤ Ls.length := by have h1 := congrArg List.length hL1; simp at h1; omega
 have htv0 : ∀ k, tv.ownBlock = some k → k < w0.heap.size := fun k hk => (hS.ty.row.lt k hk).2
 have hB0 : wB.heap.size ≤ w0.heap.size := hS.ex.size
 refine Ca.of Try.func38 Try.ntmps38 rfl rfl (W.seq (W.region (WL.c rfl (o_ash vI (WL.nil (W.seq (W.region (WL.c rfl (o_mvh (by first | exact vS | exact rfl) (WL.c rfl (o_mvh vI (WL.c rfl (o_ixB (i := at_) TI37 TI41 (show _ = Value.slice (some ⟨ub, uo, none⟩) Ls.length uc from by first | rfl | assumption) (show _ = Value.int .i64 (at_ : Int) from by first | rfl | assumption) (by omega) (WL.c rfl (o_ldA TI41 rfl rfl (Cells.only huc hS.ex (fun h => h)) rfl (WL.c rfl (o_alB TI41 ?_)))))))))))))))))
 intro wa hCa hxa hsa
 refine WL.u (o_stA TI41 rfl (show _ = Value.agg (exV y).toArray from rfl) rfl rfl hCa rfl ?_)
 intro wb7 hC7 hob hsb
 have hxb := Ext.own hxa (Nat.le_refl _) hob
 obtain ⟨b7, hb7⟩ : ∃ b, b = w0.heap.size := ⟨_, rfl⟩
 rw [← hb7] at hC7 ⊢
 clear hCa hxa hsa hob hsb
 replace hS := hS.ext hxb
 have ho : Only (PT pb tv) w0 _ := hxb.mono (fun _ _ h => h.elim)
 have hz7 : w0.heap.size ≤ b7 := by omega
 clear hxb
 refine WL.nil (W.seq (W.seq (W.region (WL.c rfl (o_fa 0 TI41 rfl TI3 rfl rfl (WL.c rfl (o_ld TI3 rfl rfl (cell_of hC7 rfl) (WL.c rfl (o_eq rfl rfl (WL.nil (W.cond rfl (fun c18 => ?_) (fun c18 => ?_))))))))))))
 ·try simp only [cs8] at c18
  have hk9 : y.kind = 9 := by simpa using c18
  have hnil := leaf_no hw (by omega)
  subst hnil
  obtain ⟨wi, hwi⟩ := hkn y (List.mem_cons_self ..) hk9
  obtain ⟨hwl, -⟩ := whereN_some hwi
  obtain ⟨rb, rc, hrv, hrb⟩ := own_some hS.ro (by omega)
  have hcr := hS.cell
  rw [hrv] at hcr
  refine W.seq (W.quiet rfl (by kernel_rfl) (WQ.c rfl ((QO.o rfl fun _ => o_mvh (by first | exact (show _ = Value.pointer _ from rfl) | exact rfl) ⟨rfl, rfl⟩)) (WQ.c rfl ((QO.r fun _ => r_nil rfl)) (WQ.c rfl ((QO.o rfl fun _ => o_fa 1 TI97 rfl TI79 rfl rfl ⟨rfl, rfl⟩)) (WQ.c rfl ((QO.o rfl fun _ => o_ld TI79 rfl rfl (cell_of hcr rfl) ⟨rfl, rfl⟩)) (WQ.c rfl ((QO.o rfl fun _ => o_mvh (by first | exact (show _ = Value.pointer _ from rfl) | exact rfl) ⟨rfl, rfl⟩)) (WQ.c rfl ((QO.o rfl fun _ => o_fa 2 TI41 rfl TI9 rfl rfl ⟨rfl, rfl⟩)) (WQ.c rfl ((QO.o rfl fun _ => o_ld TI9 rfl rfl (cell_of hC7 rfl) ⟨rfl, rfl⟩)) (WQ.c rfl (QO.call Try.call68 (lc rfl (lc (show _ = Value.string _ from rfl) ln)) (fun _ => Ca.same (bfind_spec pb D dv V y.name _ _ _ (hS.ext (Only.drewN _ _)).cell (hDB.ext (hS.ext (Only.drewN _ _)).ex) hlen hwi))) (WQ.c rfl ((QO.o rfl fun _ => o_ixB (i := wi) TI79 TI3 (show _ = Value.slice (some ⟨rb, 0, none⟩) D.length rc from rfl) (show _ = Value.int .i64 (wi : Int) from rfl) (by omega) ⟨rfl, rfl⟩)) (WQ.c rfl ((QO.o rfl fun _ => o_ld TI3 rfl rfl (show World.cell? _ ⟨rb, 0 + wi * 1, none⟩ = some (.int .i64 (f wi)) from by rw [Nat.zero_add, Nat.mul_one]; exact own_cell (hrv ▸ hS.ro) (zvs_at hwl)) ⟨rfl, rfl⟩)) (WQ.c rfl ((QO.o rfl fun _ => o_ash vI ⟨rfl, rfl⟩)) (WQ.nil ?_)))))))))))))
  intro nq
  refine W.ret (ret1v rfl vI ?_)
  have hm : mkT (fun nm => f (whD D nm)) (Tr.node y .nil) L = (f wi, L) := by rw [mkT, if_pos hk9]; show (f (whD D y.name), L) = _; rw [whD, hwi]; rfl
  rw [hm]
  exact ⟨tv, U, rfl, hS.ext (Only.drewN _ _), ho.ext (Only.drewN _ _), NewV.refl _ _, NewU.refl _ _ _⟩
 try simp only [cs8] at c18
 have hk9 : ¬ y.kind = 9 := by simpa using c18
 refine W.skip (W.seq (W.region (WL.c rfl (o_fa 0 TI41 rfl TI3 rfl rfl (WL.c rfl (o_ld TI3 rfl rfl (cell_of hC7 rfl) (WL.c rfl (o_bldC (cs := [_, (.int .i64 0), (.int .i64 0), (.slice none 0 0)]) TI50 (Sizes.cons TI3 (Sizes.cons TI3 (Sizes.cons TI3 (Sizes.cons TI48 Sizes.nil)))) rfl (lcp vI lnp) rfl rfl (WL.c rfl (o_alB TI50 ?_))))))))))
 intro wa hCa hxa hsa
 refine WL.u (o_stA TI50 rfl (show _ = Value.agg (tcell ⟨y.kind, 0, 0, []⟩ (.slice none 0 0)).toArray from rfl) rfl rfl hCa rfl ?_)
 intro wb8 hC8 hob hsb
 have hxb := Ext.own hxa (Nat.le_refl _) hob
 obtain ⟨b8, hb8⟩ : ∃ b, b = wb7.heap.size := ⟨_, rfl⟩
 rw [← hb8] at hC8 ⊢
 clear hCa hxa hsa hob hsb
 have hq7 := ho.size
 replace hS := hS.ext hxb
 replace ho := ho.ext hxb
 replace hC7 := hxb.blk hC7 (fun h => h)
 have hz8 : w0.heap.size ≤ b8 := by rw [hb8]; exact hq7
 have hn8 : ¬ tv.ownBlock = some b8 := fun e => by have := htv0 _ e; omega
 clear hxb
 refine WL.nil (W.seq (W.seq (W.region (WL.cut (fun e1 w1 => e1 44 = .bool (decide (y.kind = 1 ∨ y.kind = 4 ∨ y.kind = 5)) ∧ e1 0 = .pointer (some ⟨pb, 0, none⟩) ∧ e1 1 = (.slice (some ⟨ub, uo, none⟩) Ls.length uc) ∧ e1 2 = .int .i64 (at_ : Int) ∧ e1 7 = .pointer (some ⟨b7, 0, none⟩) ∧ e1 8 = .pointer (some ⟨b8, 0, none⟩) ∧ w1 = wb8) ?_ ?_))))
 ·-- region 5
  refine WL.c rfl (o_fa 0 TI41 rfl TI3 rfl rfl (WL.c rfl (o_ld TI3 rfl rfl (cell_of hC7 rfl) (WL.c rfl (o_eq rfl rfl (WL.c rfl (o_mvh vB (WL.sp 3 rfl (fun g35 => ?_) (fun g35 => ?_)))))))))
  ·skip
   refine WL.s rfl (g35) rfl (WL.s rfl (g35) rfl (WL.s rfl (g35) rfl (WL.c rfl (o_pickT rfl (g35) (WL.c rfl (o_mvh vB (WL.s rfl (rfl) rfl (WL.s rfl (rfl) rfl (WL.s rfl (rfl) rfl (WL.c rfl (o_pickT rfl (rfl) ?_)))))))))))
   exact WL.nil (⟨congrArg Value.bool (by first | (have := of_decide_eq_true g35; rw [eq_comm, decide_eq_true_iff]; omega) | (rw [Bool.eq_iff_iff]; simp_all)), rfl, rfl, rfl, rfl, rfl, rfl⟩)
  skip
  refine WL.g rfl (g35) rfl (o_fa 0 TI41 rfl TI3 rfl rfl (WL.g rfl (g35) rfl (o_ld TI3 rfl rfl (cell_of hC7 rfl) (WL.g rfl (g35) rfl (o_eq rfl rfl (WL.c rfl (o_pickO rfl rfl (WL.c rfl (o_mvh vB (WL.sp 8 rfl (fun g40 => ?_) (fun g40 => ?_)))))))))))
  ·skip
   refine WL.s rfl (g40) rfl (WL.s rfl (g40) rfl (WL.s rfl (g40) rfl (WL.c rfl (o_pickT rfl (g40) ?_))))
   exact WL.nil (⟨congrArg Value.bool (by first | (have := of_decide_eq_true g35; rw [eq_comm, decide_eq_true_iff]; omega) | (rw [Bool.eq_iff_iff]; simp_all)), rfl, rfl, rfl, rfl, rfl, rfl⟩)
  skip
  refine WL.g rfl (g40) rfl (o_fa 0 TI41 rfl TI3 rfl rfl (WL.g rfl (g40) rfl (o_ld TI3 rfl rfl (cell_of hC7 rfl) (WL.g rfl (g40) rfl (o_eq rfl rfl (WL.c rfl (o_pickO rfl rfl ?_)))))))
  exact WL.nil (⟨congrArg Value.bool (by first | (have := of_decide_eq_true g35; rw [eq_comm, decide_eq_true_iff]; omega) | (rw [Bool.eq_iff_iff]; simp_all)), rfl, rfl, rfl, rfl, rfl, rfl⟩)
 rintro e w ⟨h44, h0, h1, h2, h7, h8, hw1⟩
 subst hw1
 refine W.cut (fun e1 w1 => e1 0 = .pointer (some ⟨pb, 0, none⟩) ∧ e1 1 = (.slice (some ⟨ub, uo, none⟩) Ls.length uc) ∧ e1 2 = .int .i64 (at_ : Int) ∧ e1 7 = .pointer (some ⟨b7, 0, none⟩) ∧ e1 8 = .pointer (some ⟨b8, 0, none⟩) ∧ BR wB w1 pb dv rv D.length f L tv U ∧ w1.heap[b7]? = some (.cells (exV y).toArray 41 (0, 0)) ∧ w1.heap[b8]? = some (.cells #[.int .i64 y.kind, .int .i64 y.n, .int .i64 0, .slice none 0 0] 50 (0, 0)) ∧ Only (PT pb tv) w0 w1 ∧ w0.heap.size ≤ w1.heap.size) ?_ ?_
 ·-- both ways
  refine W.cond h44 (fun c44 => ?_) (fun c44 => ?_)
  ·try simp only [cs8] at c44
   refine W.region (WL.c rfl (o_fa 1 TI41 rfl TI3 rfl h7 (WL.c rfl (o_ld TI3 rfl rfl (cell_of hC7 rfl) (WL.c rfl (o_fa 1 TI50 rfl TI3 rfl h8 (WL.u (o_stB TI3 rfl (show _ = Value.int .i64 y.n from rfl) rfl hC8 (show 1 < 4 by decide) ?_))))))))
   intro w47 hC8n ho47 hs47
   replace hC8n : w47.heap[b8]? = some (.cells #[.int .i64 y.kind, .int .i64 y.n, .int .i64 0, .slice none 0 0] 50 (0, 0)) := hC8n
   have hof := hS.off hC8 (by decide) (by decide) (by decide)
   replace hS := hS.only ho47 hof.1 (fun k hk e => hn8 (e ▸ hk)) hof.2.1 hof.2.2 (fun k e => by omega)
   replace hC7 := ho47.blk hC7 (blk_ne3 hC7 hC8 (by decide))
   replace ho := ho.trans' ho47 (fun _ h => h) (fun k hk e => by omega)
   replace hC8 := hC8n
   refine WL.nil ?_
   first | exact ⟨rfl, rfl, rfl, rfl, rfl, hS, hC7, hC8, ho, ho.size⟩ | exact ⟨h0, h1, h2, h7, h8, hS, hC7, hC8, ho, ho.size⟩ | exact ⟨h0, h1, h2, h7, h8, hS, hC7, by rw [wf_n0 hw c44 hk9]; exact hC8, ho, ho.size⟩
  try simp only [cs8] at c44
  refine W.skip ?_
  first | exact ⟨rfl, rfl, rfl, rfl, rfl, hS, hC7, hC8, ho, ho.size⟩ | exact ⟨h0, h1, h2, h7, h8, hS, hC7, hC8, ho, ho.size⟩ | exact ⟨h0, h1, h2, h7, h8, hS, hC7, by rw [wf_n0 hw c44 hk9]; exact hC8, ho, ho.size⟩
 rintro e w ⟨h0, h1, h2, h7, h8, hS, hC7, hC8, ho, -⟩
 refine W.seq (W.region (WL.c rfl (o_mvh h2 (WL.c rfl (o_addi rfl rfl (by omega) (WL.c rfl (o_ash vI (WL.nil (W.seq (W.seq (W.region (WL.c rfl (o_ash vI (WL.nil (W.block (W.loop (fun e w => ∃ (k next : Nat) (el : Int) (ps : List Pa) (pv : Value) (L1 : List Tp) (tv1 : Value) (U1 : Nat → Value) (ts : Trs), ks.len = k + ts.len ∧ e 0 = .pointer (some ⟨pb, 0, none⟩) ∧ e 1 = (.slice (some ⟨ub, uo, none⟩) Ls.length uc) ∧ e 7 = .pointer (some ⟨b7, 0, none⟩) ∧ e 8 = .pointer (some ⟨b8, 0, none⟩) ∧ e 9 = .int .i64 (next : Int) ∧ e 10 = .int .i64 (k : Int) ∧ BR wB w pb dv rv D.length f L1 tv1 U1 ∧ w.heap[b7]? = some (.cells (exV y).toArray 41 (0, 0)) ∧ w.heap[b8]? = some (.cells #[.int .i64 y.kind, .int .i64 y.n, .int .i64 el, pv] 50 (0, 0)) ∧ w.ownsRow w0.heap.size 52 3 pv ps.length (pas ps) ∧ (∀ j, j < L1.length → Dj pv (U1 j)) ∧ mkK (fun nm => f (whD D nm)) y.kind ts L1 el ps = mkK (fun nm => f (whD D nm)) y.kind ks L 0 [] ∧ ts.wf y.kind (d + 1) ∧ ps.length ≤ k ∧ L1.length + ts.flat.length + 1 ≤ N ∧ (∀ x ∈ ts.flat, x ∈ (Tr.node y ks).flat) ∧ ts.flat.length ≤ ks.flat.length ∧ Ls.drop next = ts.flat ++ rest ∧ next + ts.flat.length = at_ + 1 + ks.flat.length ∧ ¬ tv1.ownBlock = some b8 ∧ Only (PT pb tv) w0 w ∧ NewV w0 tv tv1 ∧ NewU w0 L L1 U U1 ∧ b8 < w.heap.size) (fun e w => ks.len - (intOf (e 10)).toNat) ?_ ?_))))))))))))))))
 ·exact ⟨0, at_ + 1, 0, [], .slice none 0 0, L, tv, U, ks, by omega, h0, h1, h7, h8, rfl, rfl, hS, hC7, hC8, World.ownsRow_nil _ _ _ _, fun j hj => Dj.none, rfl, hw.2.2.2.2, Nat.zero_le _, by omega, fun x hx => List.mem_cons_of_mem _ hx, Nat.le_refl _, hL1, rfl, hn8, ho, NewV.refl _ _, NewU.refl _ _ _, blk_lt3 hC8⟩
 rintro e w ⟨k, next, el, ps, pv, L1, tv1, U1, ts, hks, h0, h1, h7, h8, h9, h10, hS, hC7, hC8, hpv, hdj, hmk, hwt, hpk, hLN1, hmem, htl, hLn, hnx, hn8, ho, hnv, hnu, hs8⟩
 have hm10 := h10
 have hB0w := hS.ex.size
 have hos := ho.size
 have hcK : w.cell? ⟨b7, 0 + 5, none⟩ = some (.int .i64 (ks.len : Int)) := by rw [← hkk]; exact cell_of hC7 rfl
 refine W.seq (W.seq (W.region (WL.c rfl (o_mvh h10 (WL.c rfl (o_fa 5 TI41 rfl TI3 rfl h7 (WL.c rfl (o_ld TI3 rfl rfl hcK (WL.c rfl (o_lt (a := (k : Int)) (b := (ks.len : Int)) rfl rfl (WL.nil (W.cond rfl (fun c53 => ?_) (fun c53 => ?_)))))))))))))
 ·try simp only [cs8] at c53
  have hk1 : k < ks.len := by omega
  obtain ⟨t, ts2, rfl⟩ := Trs.split hks hk1
  simp only [Trs.len] at hks
  have hfl2 : (Trs.cons t ts2).flat.length = t.flat.length + ts2.flat.length := by simp [Trs.flat]
  have htp := tr_pos t
  rw [hfl2] at hLN1 htl hnx
  have hdr : Ls.drop next = t.flat ++ (ts2.flat ++ rest) := by rw [hLn]; simp [Trs.flat]
  have hdr2 : Ls.drop (next + t.flat.length) = ts2.flat ++ rest := by rw [← List.drop_drop, hdr, List.drop_left]
  obtain ⟨tr, htr⟩ := flat_top t
  obtain ⟨hnl1, hxe, -⟩ := drop_at (show Ls.drop next = t.top :: (tr ++ (ts2.flat ++ rest)) by rw [hdr, htr]; rfl)
  have huc2 := Sl.exw hlS hnl1
  rw [hxe] at huc2
  have htopm : t.top ∈ (Trs.cons t ts2).flat := List.mem_append_left _ (by rw [htr]; exact List.mem_cons_self ..)
  obtain ⟨htn, htlb⟩ := hnl _ (hmem _ htopm)
  refine W.skip (W.seq (W.block (W.seq (W.region (WL.c rfl (o_mvh h0 (WL.c rfl (o_mvh h1 (WL.c rfl (o_mvh h9 (WL.c rfl (o_call Try.call38 (lc rfl (lc rfl (lc rfl ln))) ((IH t (by rw [hfl]; omega) Ls (ts2.flat ++ rest) _ next L1 tv1 U1 _ _ _ hwt.1 hdr hlS hS (fun x hx => hkn x (hmem x (List.mem_append_left _ hx))) (fun x hx => hnl x (hmem x (List.mem_append_left _ hx))) (by omega) hsz).mono ?_)))))))))))))
  have hs8b := blk_lt3 hC8
  have hos := ho.size
  rintro v59 w59 ⟨tv2, U2, rfl, hS2, ho59, hv59, hu59⟩
  obtain ⟨M59, hM59, hMl⟩ := mkT_pre (fun nm => f (whD D nm)) t L1 (wf_leafy t _ _ hwt.1)
  have hcn : cntN t.flat ≤ t.flat.length := List.length_filter_le _ _
  obtain ⟨r, hr⟩ : ∃ r, r = mkT (fun nm => f (whD D nm)) t L1 := ⟨_, rfl⟩
  rw [← hr] at hS2 hu59 hM59 ⊢
  have hrlen : r.2.length ≤ L1.length + t.flat.length := by rw [hM59, List.length_append]; omega
  have n7 := (hS.off hC7 (by decide) (by decide) (by decide)).1
  have n8 := (hS.off hC8 (by decide) (by decide) (by decide)).1
  replace hC7 := ho59.blk hC7 (fun h => by rcases h with h | h; exact n7 h.symm; exact own_off hS.ty.row hC7 (by decide) h)
  replace hC8 := ho59.blk hC8 (fun h => by rcases h with h | h; exact n8 h.symm; exact hn8 h)
  have hpvl := hpv.lt
  have hpv2 := own_only hpv ho59 (fun k hk h => by
   rcases h with h | h
   ·subst h; exact own_off hpv hS.cell (by decide) hk
   exact own_row_off hS.ty.row hpv (by decide) k hk h)
  have hdj2 : ∀ j, j < r.2.length → Dj pv (U2 j) := fun j hj k hk hk2 => by
   rcases hu59 j hj k hk2 with ⟨i, hi, h⟩ | h
   ·exact hdj i hi k hk h
   have := (hpvl k hk).2; omega
  have hn82 : ¬ tv2.ownBlock = some b8 := fun e => by
   rcases hv59 b8 e with h | h
   ·exact hn8 h
   omega
  replace ho := PT.trans ho hnv ho59
  replace hnv := hnv.trans hv59 hos
  replace hnu := hnu.trans hu59 hos
  replace hpv := hpv2
  replace hdj := hdj2
  replace hn8 := hn82
  replace hS := hS2
  clear hpv2 hdj2 hn82 hS2 ho59 hpvl
  refine WL.c rfl (o_ash vI (WL.nil (W.seq (W.seq (W.region (WL.c rfl (o_fa 0 TI41 rfl TI3 rfl h7 (WL.c rfl (o_ld TI3 rfl rfl (cell_of hC7 rfl) (WL.nil (W.block (W.seq ?_))))))))))))
  by_cases e8 : y.kind = 8
  rotate_left
  by_cases e7 : y.kind = 7
  ·skip
   have hkd : y.kind = 8 ∨ y.kind = 7 := .inr e7
   obtain ⟨PP, hPP⟩ : ∃ p : Pa, p = ⟨[], t.top.tag, r.1⟩ := ⟨_, rfl⟩
   have hlab := wf_lab hwt.1 e8
   refine W.region (WL.c rfl (o_eq rfl rfl (WL.c rfl (o_ash vB (WL.nil (W.condF' rfl (by simp [e8]) (W.seq (W.region (WL.c rfl (o_eq rfl rfl (WL.c rfl (o_ash vB (WL.nil (W.condT' rfl (by simp [e7]) ?_))))))))))))))
   obtain ⟨wd, hwd⟩ : ∃ wd, wd = w59.drew := ⟨_, rfl⟩
   have hxd : Ext w59 wd := hwd ▸ Only.drew w59
   replace hS := hS.ext hxd
   replace ho := ho.ext hxd
   replace hC7 := hxd.blk hC7 (fun h => h)
   replace hC8 := hxd.blk hC8 (fun h => h)
   replace hpv := own_ext hpv hxd
   have hltp : ∀ k, pv.ownBlock = some k → k < wd.heap.size := fun k hk => (hpv.lt k hk).2
   have hplo : ∀ k, pv.ownBlock = some k → w0.heap.size ≤ k := fun k hk => (hpv.lt k hk).1
   have hcx := Cells.only huc2 hS.ex (fun h => h)
   have hcxo : ¬ pv.ownBlock = some ub := fun e => by have := hplo ub e; omega
   refine W.drawF 11 [10] [fun k => pv.ownBlock = some k] [(0, fun v _ => v = _), (1, fun v _ => v = _), (7, fun v _ => v = _), (8, fun v _ => v = _), (9, fun v _ => v = _), (10, fun v _ => v = _), (11, fun v _ => v = _)] rfl (by kernel_rfl) (by kernel_rfl) ⟨Mono.eq, Mono.eq, Mono.eq, Mono.eq, Mono.eq, Mono.eq, Mono.eq, trivial⟩ ⟨h0, h1, h7, h8, h9, h10, rfl, trivial⟩ (WDS.p rfl (by decide) (fun e w hR hh => by obtain ⟨h8, -⟩ := hh; exact SG.n (o_fa 3 TI50 rfl TI48 rfl h8 ⟨rfl, Only.refl No _⟩)) (WDS.p rfl (by decide) (fun e w hR hh => by obtain ⟨h80, -⟩ := hh; rw [← hwd] at hR; have hc := hR.blk hC8 (fun hF => by rcases hF with hF | hF <;> first | exact hF | exact own_off hpv hC8 (by decide) hF); exact SG.n (o_ld TI48 rfl h80 (cell_of hc rfl) ⟨rfl, Only.refl No _⟩)) (WDS.p rfl (by decide) (fun e w hR hh => by obtain ⟨h1, -⟩ := hh; exact SG.n (o_mvh h1 ⟨rfl, Only.refl No _⟩)) (WDS.p rfl (by decide) (fun e w hR hh => by obtain ⟨h9, -⟩ := hh; exact SG.n (o_mvh h9 ⟨rfl, Only.refl No _⟩)) (WDS.p rfl (by decide) (fun e w hR hh => by obtain ⟨h83, h82, -⟩ := hh; exact SG.n (o_ixB (i := next) TI37 TI41 (show _ = Value.slice (some ⟨ub, uo, none⟩) Ls.length uc from by first | rfl | assumption) (show _ = Value.int .i64 (next : Int) from by first | rfl | assumption) (by omega) ⟨rfl, Only.refl No _⟩)) (WDS.p rfl (by decide) (fun e w hR hh => by obtain ⟨h84, -⟩ := hh; exact SG.n (o_fa 4 TI41 rfl TI3 rfl h84 ⟨rfl, Only.refl No _⟩)) (WDS.p rfl (by decide) (fun e w hR hh => by obtain ⟨h85, -⟩ := hh; rw [← hwd] at hR; have hcx2 := Cells.only hcx hR (fun hF => by rcases hF with hF | hF <;> first | exact hF | exact hcxo hF); exact SG.n (o_ld TI3 rfl h85 (hcx2 4 _ rfl) ⟨rfl, Only.refl No _⟩)) (WDS.p rfl (by decide) (fun e w hR hh => by obtain ⟨h11, -⟩ := hh; exact SG.n (o_mvh h11 ⟨rfl, Only.refl No _⟩)) (WDS.p rfl (by decide) (fun e w hR hh => by obtain ⟨h87, h86, -⟩ := hh; exact SG.n (o_bldC (cs := [(.string ⟨#[]⟩), _, _]) TI52 (Sizes.cons TI9 (Sizes.cons TI3 (Sizes.cons TI3 Sizes.nil))) rfl (lcp h86 (lcp h87 lnp)) rfl rfl ⟨rfl, Only.refl No _⟩)) (WDS.q 0 (fun v w => w.ownsRow wd.heap.size 52 3 v 1 (paV PP)) (fun v w w2 hR hh => own_only hh hR (fun k hk hF => by rcases hF with hF | hF <;> first | exact hF | (have := hltp k hF; have := (hh.lt k hk).1; omega))) (by kernel_rfl) rfl (by decide) (fun e w hR hh => by obtain ⟨h88, -⟩ := hh; rw [← hwd] at hR; exact SG.n (o_bs1 TI48 TI52 (show _ = Value.agg (paV PP).toArray from by rw [hPP]; exact h88) (by decide) (by decide) rfl ⟨own_mono (own_new1 rfl) hR.size, Only.alloc w _⟩)) (WDS.mf 0 1 (fun v w => w.ownsRow w0.heap.size 52 3 v (ps.length + 1) (pas ps ++ paV PP) ∧ ∀ k, v.ownBlock = some k → pv.ownBlock = some k ∨ wd.heap.size ≤ k) (fun v w w2 hR hh => ⟨own_ext hh.1 hR, hh.2⟩) (by kernel_rfl) rfl rfl rfl (fun e w hR hW hh => by obtain ⟨h89, h81, -⟩ := hh; rw [← hwd] at hR hW; have hW2 : Ext wd w := hW.mono (fun _ _ h => h); have hw2 := hR.size; exact SGX.n (OP.x (o_apO w0.heap.size TI48 TI52 h81 rfl (own_ext hpv hW2) (Sl.own h89) rfl (by decide) (fun a ha => List.all_eq_true.1 (show List.all _ (fun a => a.oneCell') = true from rfl) a ha) (by rw [maxLen_eq]; omega) (by omega) (by have := ho.size; omega) (fun v' w' h1 h2 h3 _ => ⟨⟨h1, fun k hk => by rcases h3 with h3 | h3; exact .inl (h3.symm.trans hk); exact .inr (by have h5 := h3.symm.trans hk; rw [Option.some.injEq] at h5; have := hR.size; omega)⟩, h2⟩)))) ?_)))))))))))
   rintro e w hR ⟨h90, h89, h88, h87, h86, h85, h84, h83, h82, h81, h80, h0, h1, h7, h8, h9, h10, h11, -⟩
   rw [← hwd] at hR
   obtain ⟨pv2, hpv2⟩ : ∃ v, v = e 90 := ⟨_, rfl⟩
   rw [← hpv2] at h90
   obtain ⟨hpr, hpb⟩ := h90
   obtain ⟨ps2, hps2⟩ : ∃ l, l = ps ++ [PP] := ⟨_, rfl⟩
   replace hpr : w.ownsRow w0.heap.size 52 3 pv2 ps2.length (pas ps2) := by rw [hps2, pas_snoc, List.length_append, List.length_singleton]; exact hpr
   have hdj' : ∀ j, j < r.2.length → Dj pv2 (U2 j) := fun j hj k hk hk2 => by
    rcases hpb k hk with h | h
    ·exact hdj j hj k h hk2
    have := (hS.ty.tys.lt hj hk2).2; omega
   replace hC7 := hR.blk hC7 (fun hF => by rcases hF with hF | hF <;> first | exact hF | exact own_off hpv hC7 (by decide) hF)
   replace hC8 := hR.blk hC8 (fun hF => by rcases hF with hF | hF <;> first | exact hF | exact own_off hpv hC8 (by decide) hF)
   replace ho := ho.trans' hR (fun _ h => h) (fun k hk hF => by rcases hF with hF | hF; have := hplo k hF; omega; exact hF.elim)
   replace hS := hS.only hR (fun hF => by rcases hF with hF | hF <;> first | exact hF | exact own_off hpv hS.cell (by decide) hF) (fun k hk => fun hF => by rcases hF with hF | hF <;> first | exact hF | exact own_row_off hpv hS.ty.row (by decide) k hk hF) (fun j hj k hk => fun hF => by rcases hF with hF | hF <;> first | exact hF | exact hdj j hj k hF hk) (fun k hk => fun hF => by rcases hF with hF | hF <;> first | exact hF | exact own_row_off hpv hS.ro (by decide) k hk hF) (fun k hF => by rcases hF with hF | hF; have := hplo k hF; omega; exact hF.elim)
   clear hpv
   refine WL.c rfl (o_fa 3 TI50 rfl TI48 rfl h8 (WL.u (o_stB TI48 rfl (show _ = pv2 from hpv2.symm) (own_one hpr) hC8 (show 3 < 4 by decide) ?_)))
   intro w78 hC8n ho78 hs78
   replace hC8n : w78.heap[b8]? = some (.cells #[.int .i64 y.kind, .int .i64 y.n, .int .i64 el, pv2] 50 (0, 0)) := hC8n
   have hof := hS.off hC8 (by decide) (by decide) (by decide)
   replace hS := hS.only ho78 hof.1 (fun k hk e => hn8 (e ▸ hk)) hof.2.1 hof.2.2 (fun k e => by omega)
   replace hC7 := ho78.blk hC7 (blk_ne3 hC7 hC8 (by decide))
   have hpv := own_only hpr ho78 (fun k hk e => by subst e; exact own_off hpr hC8 (by decide) hk)
   have hdj := hdj'
   replace ho := ho.trans' ho78 (fun _ h => h) (fun k hk e => by omega)
   replace hC8 := hC8n
   have hpk2 : ps2.length ≤ k + 1 := by rw [hps2]; simp; omega
   have hmk2 : mkK (fun nm => f (whD D nm)) y.kind ts2 r.2 el ps2 = mkK (fun nm => f (whD D nm)) y.kind (.cons t ts2) L1 el ps := by rw [mkK_cons7 hkd, hps2, hPP, hr, hlab]
   refine WL.nil (W.region (WL.c rfl (o_mvh h1 (WL.c rfl (o_mvh h9 (WL.c rfl (o_call Try.call69 (lc rfl (lc rfl ln)) ((behind9_all _ t (Nat.le_refl _) Ls (ts2.flat ++ rest) _ next _ _ _ hwt.1 hdr (hlS.ext hS.ex) hsz).mono ?_))))))))
   rintro v94 w94 ⟨rfl, hx94⟩
   replace hpv := own_ext hpv hx94
   replace hS := hS.ext hx94
   replace ho := ho.ext hx94
   replace hC7 := hx94.blk hC7 (fun h => h)
   replace hC8 := hx94.blk hC8 (fun h => h)
   refine WL.c rfl (o_ash vI (WL.nil (W.region (WL.c rfl (o_mvh h10 (WL.c rfl (o_addi rfl rfl (by omega) (WL.c rfl (o_ash vI (WL.nil (⟨⟨k + 1, next + t.flat.length, _, _, _, r.2, tv2, U2, ts2, by omega, h0, h1, h7, h8, rfl, rfl, hS, hC7, hC8, hpv, hdj, hmk2.trans hmk, hwt.2, hpk2, by omega, fun x hx => hmem x (List.mem_append_right _ hx), by omega, hdr2, by omega, hn8, ho, hnv, hnu, blk_lt3 hC8⟩, ?_⟩)))))))))))
   show ks.len - ((k : Int) + 1).toNat < _
   rw [hm10]; simp [intOf]; omega
  ·skip
   have hkd : ¬ (y.kind = 8 ∨ y.kind = 7) := by omega
   refine W.region (WL.c rfl (o_eq rfl rfl (WL.c rfl (o_ash vB (WL.nil (W.condF' rfl (by simp [e8]) (W.seq (W.region (WL.c rfl (o_eq rfl rfl (WL.c rfl (o_ash vB (WL.nil (W.condF' rfl (by simp [e7]) (W.region (WL.c rfl (o_mvh vI (WL.c rfl (o_fa 2 TI50 rfl TI3 rfl h8 (WL.u (o_stB TI3 rfl (show _ = Value.int .i64 r.1 from rfl) rfl hC8 (show 2 < 4 by decide) ?_)))))))))))))))))))))
   intro w80 hC8n ho80 hs80
   replace hC8n : w80.heap[b8]? = some (.cells #[.int .i64 y.kind, .int .i64 y.n, .int .i64 r.1, pv] 50 (0, 0)) := hC8n
   have hof := hS.off hC8 (by decide) (by decide) (by decide)
   replace hS := hS.only ho80 hof.1 (fun k hk e => hn8 (e ▸ hk)) hof.2.1 hof.2.2 (fun k e => by omega)
   replace hC7 := ho80.blk hC7 (blk_ne3 hC7 hC8 (by decide))
   replace hpv := own_only hpv ho80 (fun k hk e => by subst e; exact own_off hpv hC8 (by decide) hk)
   replace ho := ho.trans' ho80 (fun _ h => h) (fun k hk e => by omega)
   replace hC8 := hC8n
   have hpk2 : ps.length ≤ k + 1 := by omega
   have hmk2 : mkK (fun nm => f (whD D nm)) y.kind ts2 r.2 r.1 ps = mkK (fun nm => f (whD D nm)) y.kind (.cons t ts2) L1 el ps := by rw [mkK_consE hkd, hr]
   refine WL.nil (W.region (WL.c rfl (o_mvh h1 (WL.c rfl (o_mvh h9 (WL.c rfl (o_call Try.call69 (lc rfl (lc rfl ln)) ((behind9_all _ t (Nat.le_refl _) Ls (ts2.flat ++ rest) _ next _ _ _ hwt.1 hdr (hlS.ext hS.ex) hsz).mono ?_))))))))
   rintro v94 w94 ⟨rfl, hx94⟩
   replace hpv := own_ext hpv hx94
   replace hS := hS.ext hx94
   replace ho := ho.ext hx94
   replace hC7 := hx94.blk hC7 (fun h => h)
   replace hC8 := hx94.blk hC8 (fun h => h)
   refine WL.c rfl (o_ash vI (WL.nil (W.region (WL.c rfl (o_mvh h10 (WL.c rfl (o_addi rfl rfl (by omega) (WL.c rfl (o_ash vI (WL.nil (⟨⟨k + 1, next + t.flat.length, _, _, _, r.2, tv2, U2, ts2, by omega, h0, h1, h7, h8, rfl, rfl, hS, hC7, hC8, hpv, hdj, hmk2.trans hmk, hwt.2, hpk2, by omega, fun x hx => hmem x (List.mem_append_right _ hx), by omega, hdr2, by omega, hn8, ho, hnv, hnu, blk_lt3 hC8⟩, ?_⟩)))))))))))
   show ks.len - ((k : Int) + 1).toNat < _
   rw [hm10]; simp [intOf]; omega
  skip
  have hkd : y.kind = 8 ∨ y.kind = 7 := .inl e8
  obtain ⟨PP, hPP⟩ : ∃ p : Pa, p = ⟨t.top.label, 0, r.1⟩ := ⟨_, rfl⟩
  have htag := wf_tag hwt.1 (by omega : ¬ y.kind = 7)
  refine W.region (WL.c rfl (o_eq rfl rfl (WL.c rfl (o_ash vB (WL.nil (W.condT' rfl (by simp [e8]) ?_))))))
  obtain ⟨wd, hwd⟩ : ∃ wd, wd = w59.drew := ⟨_, rfl⟩
  have hxd : Ext w59 wd := hwd ▸ Only.drew w59
  replace hS := hS.ext hxd
  replace ho := ho.ext hxd
  replace hC7 := hxd.blk hC7 (fun h => h)
  replace hC8 := hxd.blk hC8 (fun h => h)
  replace hpv := own_ext hpv hxd
  have hltp : ∀ k, pv.ownBlock = some k → k < wd.heap.size := fun k hk => (hpv.lt k hk).2
  have hplo : ∀ k, pv.ownBlock = some k → w0.heap.size ≤ k := fun k hk => (hpv.lt k hk).1
  have hcx := Cells.only huc2 hS.ex (fun h => h)
  have hcxo : ¬ pv.ownBlock = some ub := fun e => by have := hplo ub e; omega
  refine W.drawF 11 [10] [fun k => pv.ownBlock = some k] [(0, fun v _ => v = _), (1, fun v _ => v = _), (7, fun v _ => v = _), (8, fun v _ => v = _), (9, fun v _ => v = _), (10, fun v _ => v = _), (11, fun v _ => v = _)] rfl (by kernel_rfl) (by kernel_rfl) ⟨Mono.eq, Mono.eq, Mono.eq, Mono.eq, Mono.eq, Mono.eq, Mono.eq, trivial⟩ ⟨h0, h1, h7, h8, h9, h10, rfl, trivial⟩ (WDS.p rfl (by decide) (fun e w hR hh => by obtain ⟨h8, -⟩ := hh; exact SG.n (o_fa 3 TI50 rfl TI48 rfl h8 ⟨rfl, Only.refl No _⟩)) (WDS.p rfl (by decide) (fun e w hR hh => by obtain ⟨h66, -⟩ := hh; rw [← hwd] at hR; have hc := hR.blk hC8 (fun hF => by rcases hF with hF | hF <;> first | exact hF | exact own_off hpv hC8 (by decide) hF); exact SG.n (o_ld TI48 rfl h66 (cell_of hc rfl) ⟨rfl, Only.refl No _⟩)) (WDS.p rfl (by decide) (fun e w hR hh => by obtain ⟨h1, -⟩ := hh; exact SG.n (o_mvh h1 ⟨rfl, Only.refl No _⟩)) (WDS.p rfl (by decide) (fun e w hR hh => by obtain ⟨h9, -⟩ := hh; exact SG.n (o_mvh h9 ⟨rfl, Only.refl No _⟩)) (WDS.p rfl (by decide) (fun e w hR hh => by obtain ⟨h69, h68, -⟩ := hh; exact SG.n (o_ixB (i := next) TI37 TI41 (show _ = Value.slice (some ⟨ub, uo, none⟩) Ls.length uc from by first | exact h68 | exact h69) (show _ = Value.int .i64 (next : Int) from by first | rfl | assumption) (by omega) ⟨rfl, Only.refl No _⟩)) (WDS.p rfl (by decide) (fun e w hR hh => by obtain ⟨h70, -⟩ := hh; exact SG.n (o_fa 3 TI41 rfl TI9 rfl h70 ⟨rfl, Only.refl No _⟩)) (WDS.p rfl (by decide) (fun e w hR hh => by obtain ⟨h71, -⟩ := hh; rw [← hwd] at hR; have hcx2 := Cells.only hcx hR (fun hF => by rcases hF with hF | hF <;> first | exact hF | exact hcxo hF); exact SG.n (o_ld TI9 rfl h71 (hcx2 3 _ rfl) ⟨rfl, Only.refl No _⟩)) (WDS.p rfl (by decide) (fun e w hR hh => by obtain ⟨h11, -⟩ := hh; exact SG.n (o_mvh h11 ⟨rfl, Only.refl No _⟩)) (WDS.p rfl (by decide) (fun e w hR hh => by obtain ⟨h73, h72, -⟩ := hh; exact SG.n (o_bldC (cs := [_, (.int .i64 0), _]) TI52 (Sizes.cons TI9 (Sizes.cons TI3 (Sizes.cons TI3 Sizes.nil))) rfl (lcp h72 (lcp h73 lnp)) rfl rfl ⟨rfl, Only.refl No _⟩)) (WDS.q 0 (fun v w => w.ownsRow wd.heap.size 52 3 v 1 (paV PP)) (fun v w w2 hR hh => own_only hh hR (fun k hk hF => by rcases hF with hF | hF <;> first | exact hF | (have := hltp k hF; have := (hh.lt k hk).1; omega))) (by kernel_rfl) rfl (by decide) (fun e w hR hh => by obtain ⟨h74, -⟩ := hh; rw [← hwd] at hR; exact SG.n (o_bs1 TI48 TI52 (show _ = Value.agg (paV PP).toArray from by rw [hPP]; exact h74) (by decide) (by decide) rfl ⟨own_mono (own_new1 rfl) hR.size, Only.alloc w _⟩)) (WDS.mf 0 1 (fun v w => w.ownsRow w0.heap.size 52 3 v (ps.length + 1) (pas ps ++ paV PP) ∧ ∀ k, v.ownBlock = some k → pv.ownBlock = some k ∨ wd.heap.size ≤ k) (fun v w w2 hR hh => ⟨own_ext hh.1 hR, hh.2⟩) (by kernel_rfl) rfl rfl rfl (fun e w hR hW hh => by obtain ⟨h75, h67, -⟩ := hh; rw [← hwd] at hR hW; have hW2 : Ext wd w := hW.mono (fun _ _ h => h); have hw2 := hR.size; exact SGX.n (OP.x (o_apO w0.heap.size TI48 TI52 h67 rfl (own_ext hpv hW2) (Sl.own h75) rfl (by decide) (fun a ha => List.all_eq_true.1 (show List.all _ (fun a => a.oneCell') = true from rfl) a ha) (by rw [maxLen_eq]; omega) (by omega) (by have := ho.size; omega) (fun v' w' h1 h2 h3 _ => ⟨⟨h1, fun k hk => by rcases h3 with h3 | h3; exact .inl (h3.symm.trans hk); exact .inr (by have h5 := h3.symm.trans hk; rw [Option.some.injEq] at h5; have := hR.size; omega)⟩, h2⟩)))) ?_)))))))))))
  rintro e w hR ⟨h76, h75, h74, h73, h72, h71, h70, h69, h68, h67, h66, h0, h1, h7, h8, h9, h10, h11, -⟩
  rw [← hwd] at hR
  obtain ⟨pv2, hpv2⟩ : ∃ v, v = e 76 := ⟨_, rfl⟩
  rw [← hpv2] at h76
  obtain ⟨hpr, hpb⟩ := h76
  obtain ⟨ps2, hps2⟩ : ∃ l, l = ps ++ [PP] := ⟨_, rfl⟩
  replace hpr : w.ownsRow w0.heap.size 52 3 pv2 ps2.length (pas ps2) := by rw [hps2, pas_snoc, List.length_append, List.length_singleton]; exact hpr
  have hdj' : ∀ j, j < r.2.length → Dj pv2 (U2 j) := fun j hj k hk hk2 => by
   rcases hpb k hk with h | h
   ·exact hdj j hj k h hk2
   have := (hS.ty.tys.lt hj hk2).2; omega
  replace hC7 := hR.blk hC7 (fun hF => by rcases hF with hF | hF <;> first | exact hF | exact own_off hpv hC7 (by decide) hF)
  replace hC8 := hR.blk hC8 (fun hF => by rcases hF with hF | hF <;> first | exact hF | exact own_off hpv hC8 (by decide) hF)
  replace ho := ho.trans' hR (fun _ h => h) (fun k hk hF => by rcases hF with hF | hF; have := hplo k hF; omega; exact hF.elim)
  replace hS := hS.only hR (fun hF => by rcases hF with hF | hF <;> first | exact hF | exact own_off hpv hS.cell (by decide) hF) (fun k hk => fun hF => by rcases hF with hF | hF <;> first | exact hF | exact own_row_off hpv hS.ty.row (by decide) k hk hF) (fun j hj k hk => fun hF => by rcases hF with hF | hF <;> first | exact hF | exact hdj j hj k hF hk) (fun k hk => fun hF => by rcases hF with hF | hF <;> first | exact hF | exact own_row_off hpv hS.ro (by decide) k hk hF) (fun k hF => by rcases hF with hF | hF; have := hplo k hF; omega; exact hF.elim)
  clear hpv
  refine WL.c rfl (o_fa 3 TI50 rfl TI48 rfl h8 (WL.u (o_stB TI48 rfl (show _ = pv2 from hpv2.symm) (own_one hpr) hC8 (show 3 < 4 by decide) ?_)))
  intro w78 hC8n ho78 hs78
  replace hC8n : w78.heap[b8]? = some (.cells #[.int .i64 y.kind, .int .i64 y.n, .int .i64 el, pv2] 50 (0, 0)) := hC8n
  have hof := hS.off hC8 (by decide) (by decide) (by decide)
  replace hS := hS.only ho78 hof.1 (fun k hk e => hn8 (e ▸ hk)) hof.2.1 hof.2.2 (fun k e => by omega)
  replace hC7 := ho78.blk hC7 (blk_ne3 hC7 hC8 (by decide))
  have hpv := own_only hpr ho78 (fun k hk e => by subst e; exact own_off hpr hC8 (by decide) hk)
  have hdj := hdj'
  replace ho := ho.trans' ho78 (fun _ h => h) (fun k hk e => by omega)
  replace hC8 := hC8n
  have hpk2 : ps2.length ≤ k + 1 := by rw [hps2]; simp; omega
  have hmk2 : mkK (fun nm => f (whD D nm)) y.kind ts2 r.2 el ps2 = mkK (fun nm => f (whD D nm)) y.kind (.cons t ts2) L1 el ps := by rw [mkK_cons7 hkd, hps2, hPP, hr, htag]
  refine WL.nil (W.region (WL.c rfl (o_mvh h1 (WL.c rfl (o_mvh h9 (WL.c rfl (o_call Try.call69 (lc rfl (lc rfl ln)) ((behind9_all _ t (Nat.le_refl _) Ls (ts2.flat ++ rest) _ next _ _ _ hwt.1 hdr (hlS.ext hS.ex) hsz).mono ?_))))))))
  rintro v94 w94 ⟨rfl, hx94⟩
  replace hpv := own_ext hpv hx94
  replace hS := hS.ext hx94
  replace ho := ho.ext hx94
  replace hC7 := hx94.blk hC7 (fun h => h)
  replace hC8 := hx94.blk hC8 (fun h => h)
  refine WL.c rfl (o_ash vI (WL.nil (W.region (WL.c rfl (o_mvh h10 (WL.c rfl (o_addi rfl rfl (by omega) (WL.c rfl (o_ash vI (WL.nil (⟨⟨k + 1, next + t.flat.length, _, _, _, r.2, tv2, U2, ts2, by omega, h0, h1, h7, h8, rfl, rfl, hS, hC7, hC8, hpv, hdj, hmk2.trans hmk, hwt.2, hpk2, by omega, fun x hx => hmem x (List.mem_append_right _ hx), by omega, hdr2, by omega, hn8, ho, hnv, hnu, blk_lt3 hC8⟩, ?_⟩)))))))))))
  show ks.len - ((k : Int) + 1).toNat < _
  rw [hm10]; simp [intOf]; omega
 try simp only [cs8] at c53
 have hk1 : k = ks.len := by omega
 have hnil := Trs.none hks hk1
 subst hnil
 replace hmk : (el, ps, L1) = mkK (fun nm => f (whD D nm)) y.kind ks L 0 [] := hmk
 have hLc : L1.length + 1 ≤ N := by simp [Trs.flat] at hLN1; omega
 refine W.exit (W.seq ?_)
 obtain ⟨TT, hTT⟩ : ∃ q : Tp, q = ⟨y.kind, y.n, el, ps⟩ := ⟨_, rfl⟩
 obtain ⟨wd, hwd⟩ : ∃ wd, wd = w.drew := ⟨_, rfl⟩
 have hxd : Ext w wd := hwd ▸ Only.drew w
 replace hS := hS.ext hxd
 replace ho := ho.ext hxd
 replace hpv := own_ext hpv hxd
 replace hC8 : wd.heap[b8]? = some (.cells (tcell TT pv).toArray 50 (0, 0)) := by rw [hTT]; exact hxd.blk hC8 (fun h => h)
 have hlt : ∀ k, tv1.ownBlock = some k → k < wd.heap.size := fun k hk => (hS.ty.row.lt k hk).2
 have hge : ∀ k, tv1.ownBlock = some k → wB.heap.size ≤ k := fun k hk => (hS.ty.row.lt k hk).1
 have hls : ¬ tv1.ownBlock = some pb := fun e => own_off hS.ty.row hS.cell (by decide) e
 have hwB := hS.ex.size
 refine W.drawF 8 [7] [fun k => tv1.ownBlock = some k] [(0, fun v _ => v = _), (8, fun v _ => v = _)] rfl (by kernel_rfl) (by kernel_rfl) ⟨Mono.eq, Mono.eq, trivial⟩ ⟨h0, h8, trivial⟩ (WDS.p rfl (by decide) (fun e w hR hh => by obtain ⟨h0, -⟩ := hh; exact SG.n (o_mvh h0 ⟨rfl, Only.refl No _⟩)) (WDS.p rfl (by decide) (fun e w hR hh => by obtain ⟨h0, -⟩ := hh; exact SG.n (o_mvh h0 ⟨rfl, Only.refl No _⟩)) (WDS.p rfl (by decide) (fun e w hR hh => by obtain ⟨h96, -⟩ := hh; exact SG.n (o_nil h96 ⟨rfl, Only.refl No _⟩)) (WDS.p rfl (by decide) (fun e w hR hh => by obtain ⟨h97, -⟩ := hh; exact SG.n (o_fa 0 TI97 rfl TI31 rfl h97 ⟨rfl, Only.refl No _⟩)) (WDS.p rfl (by decide) (fun e w hR hh => by obtain ⟨h98, -⟩ := hh; rw [← hwd] at hR; have hc := hR.blk hS.cell (fun hF => by rcases hF with hF | hF <;> first | exact hls hF | exact hF); exact SG.n (o_ld TI31 rfl h98 (cell_of hc rfl) ⟨rfl, Only.refl No _⟩)) (WDS.p rfl (by decide) (fun e w hR hh => by obtain ⟨h8, -⟩ := hh; rw [← hwd] at hR; exact SG.n (o_ldA TI50 rfl h8 (show Cells w b8 0 (tcell TT pv) from Cells.of (hR.blk hC8 (fun hF => by rcases hF with hF | hF <;> first | exact hF | exact hn8 hF)) 0 _ (by simp)) rfl ⟨rfl, Only.refl No _⟩)) (WDS.q 0 (fun v w => w.ownsRow wd.heap.size 50 4 v 1 (tcell TT pv)) (fun v w w2 hR hh => own_only hh hR (fun k hk hF => by rcases hF with hF | hF <;> first | exact hF | (have := hlt k hF; have := (hh.lt k hk).1; omega))) (by kernel_rfl) rfl (by decide) (fun e w hR hh => by obtain ⟨h100, -⟩ := hh; rw [← hwd] at hR; exact SG.n (o_bs1 TI31 TI50 (show _ = Value.agg (tcell TT pv).toArray from h100) (by decide) (by decide) rfl ⟨own_mono (own_new1 rfl) hR.size, Only.alloc w _⟩)) (WDS.mf 0 1 (fun v w => w.ownsRow wB.heap.size 50 4 v (L1.length + 1) (trows L1 U1 ++ tcell TT pv) ∧ ∀ k, v.ownBlock = some k → tv1.ownBlock = some k ∨ wd.heap.size ≤ k) (fun v w w2 hR hh => ⟨own_ext hh.1 hR, hh.2⟩) (by kernel_rfl) rfl rfl rfl (fun e w hR hW hh => by obtain ⟨h101, h99, -⟩ := hh; rw [← hwd] at hR hW; have hW2 : Ext wd w := hW.mono (fun _ _ h => h); have hw2 := hR.size; exact SGX.n (OP.x (o_apO wB.heap.size TI31 TI50 h99 rfl (own_ext hS.ty.row hW2) (Sl.own h101) rfl (by decide) (tcell_all (own_one hpv)) (by rw [maxLen_eq]; omega) (by omega) (by omega) (fun v' w' h1 h2 h3 _ => ⟨⟨h1, fun k hk => by rcases h3 with h3 | h3; exact .inl (h3.symm.trans hk); exact .inr (by have h5 := h3.symm.trans hk; rw [Option.some.injEq] at h5; have := hR.size; omega)⟩, h2⟩)))) ?_))))))))
 rintro e w hR ⟨h102, h101, h100, h99, h98, h97, h96, h95, h0, h8, -⟩
 rw [← hwd] at hR
 obtain ⟨v102, hv102⟩ : ∃ v, v = e 102 := ⟨_, rfl⟩
 rw [← hv102] at h102
 obtain ⟨h102, h102b⟩ := h102
 have hc5 := hR.blk hS.cell (fun hF => by rcases hF with hF | hF <;> first | exact hls hF | exact hF)
 have hty5 : Typs w wB.heap.size (L1 ++ [TT]) v102 (fun j => if j = L1.length then pv else U1 j) := Typs.snocD h102 (hS.ty.tys.only hR (fun j hj k hk hF => by rcases hF with hF | hF <;> first | exact hF | exact own_row_off hS.ty.row (hS.ty.tys.row j hj) (by decide) k hk hF))
  (by rw [hTT]; exact own_mono (own_only hpv hR (fun k hk hF => by rcases hF with hF | hF <;> first | exact hF | exact own_row_off hS.ty.row hpv (by decide) k hk hF)) hB0) hdj
 have hro5 := own_only hS.ro hR (fun k hk hF => by rcases hF with hF | hF <;> first | exact hF | exact own_row_off hS.ty.row hS.ro (by decide) k hk hF)
 have hex5 := hS.ex.trans' hR (fun _ h => h) (fun k hk hF => by rcases hF with hF | hF; have := hge k hF; omega; exact hF.elim)
 have ho5 := ho.trans' hR (fun _ h => h) (fun k hk hF => by
  rcases hF with hF | hF
  ·rcases hnv k hF with h | h
   ·exact .inr h
   omega
  exact hF.elim)
 refine WL.c rfl (o_nil h95 (WL.c rfl (o_fa 0 TI97 rfl TI31 rfl rfl (WL.u (o_stB TI31 rfl (show _ = v102 from hv102.symm) (own_one h102) hc5 (show 0 < 3 by decide) ?_)))))
 intro w91 hB91 ho91 hs91
 replace hB91 : w91.heap[pb]? = some (.cells #[v102, rv, dv] 97 (0, 0)) := hB91
 have hty6 := hty5.only ho91 (fun k hk e => by
  subst e
  rcases hk with hk | ⟨j, hj, hk⟩
  ·exact own_off hty5.row hc5 (by decide) hk
  exact own_off (hty5.tys.row j hj) hc5 (by decide) hk)
 have hS6 : BR wB w91 pb dv rv D.length f (L1 ++ [TT]) v102 (fun j => if j = L1.length then pv else U1 j) := ⟨hB91, hty6, own_only hro5 ho91 (fun k hk e => by subst e; exact own_off hro5 hc5 (by decide) hk), hex5.trans' ho91 (fun _ h => h) (fun k hk e => by have := hS.pH; omega), hS.pH⟩
 have ho6 := ho5.trans (ho91.mono (fun k _ e => .inl e))
 have hnv6 : NewV w0 tv v102 := fun k hk => by
  rcases h102b k hk with h | h
  ·exact hnv k h
  right; have := ho.size; omega
 have hnu6 : NewU w0 L (L1 ++ [TT]) U (fun j => if j = L1.length then pv else U1 j) := fun j hj k hk => by
  by_cases e : j = L1.length
  ·have hk' : (if j = L1.length then pv else U1 j).ownBlock = some k := hk
   rw [if_pos e] at hk'
   exact .inr (hpv.lt k hk').1
  have hk' : (if j = L1.length then pv else U1 j).ownBlock = some k := hk
  rw [if_neg e] at hk'
  exact hnu j (by simp at hj; omega) k hk'
 refine WL.nil (W.seq (W.region (WL.c rfl (o_mvh h0 (WL.c rfl (o_nil rfl (WL.c rfl (o_fa 0 TI97 rfl TI31 rfl rfl (WL.c rfl (o_ld TI31 rfl rfl (cell_of hB91 rfl) (WL.c rfl (o_lenR TI31 rfl (Sl.own hty6.row) (WL.c rfl (o_subi (a := (((L1 ++ [TT]).length : Nat) : Int)) (b := 1) rfl rfl (by simp; omega) (WL.c rfl (o_ash vI (WL.nil (W.ret (ret1v rfl vI ?_)))))))))))))))))))
 have hm : mkT (fun nm => f (whD D nm)) (Tr.node y ks) L = ((L1.length : Int), L1 ++ [TT]) := by rw [mkT, if_neg hk9, ← hmk, hTT]
 rw [hm]
 exact ⟨v102, _, congrArg (Value.int .i64) (by simp), hS6, ho6, hnv6, hnu6⟩
end Go.Proofs.Ytpbflfgigfdohaa
