/-
  Walks and lemmas. Written by program out of specs of mine.
-/
import Derived.WalkKit
import Derived.WalkSpells
import Derived.WalkLawsBesides
import Derived.Deep.Quiet
import Derived.StillTail
import Derived.StringKeys
import Derived.Laws.StructEq
import Derived.Laws.Externs
import Derived.Laws.Tables
import Derived.Scope
import Derived.Test.YtpbflfgigfdohaaProg
import Derived.Laws.AppendOwn
import Derived.Maps.AppendAt
import Derived.Recover
import Derived.Lib.Bytealg
import Derived.SizedLaws
import Derived.ChangeArms
import Derived.ChangeSlices
import Derived.Maps.OwnSet
import Derived.Test.YtpbflfgigfdohaaRows
import Derived.ProofKit
import Derived.OpenShut
import Derived.ShutString
import Derived.ChangeOld
import Derived.Below
import Derived.Test.YtpbflfgigfdohaaKr5
set_option linter.unusedSimpArgs false
set_option linter.unusedVariables false
set_option maxRecDepth 100000
namespace Go.Proofs.Ytpbflfgigfdohaa
open Go Go.Vc Go.RowKit Go.Proofs

theorem tp_eq {a b : Tp} : a = b ↔ a.kind = b.kind ∧ a.n = b.n ∧ a.elem = b.elem ∧ a.parts = b.parts := by
 cases a; cases b; simp
theorem paV_inj {a b : Pa} : (paV a).toArray = (paV b).toArray ↔ a = b := by
 cases a; cases b
 simp [paV, st]
theorem roV_inj {a b : Ro} : (roV a).toArray = (roV b).toArray ↔ a = b := by
 cases a; cases b
 simp [roV, st]
theorem pa_eq {a b : Pa} : a = b ↔ a.label = b.label ∧ a.tag = b.tag ∧ a.ty = b.ty := by
 cases a; cases b; simp
theorem ro_eq {a b : Ro} : a = b ↔ a.name = b.name ∧ a.ty = b.ty := by
 cases a; cases b; simp
theorem all_eq {α : Type} {L M : List α} (hl : L.length = M.length) (h : ∀ j, j < L.length → L[j]? = M[j]?) : L = M := by
 apply List.ext_getElem?
 intro j
 rcases Nat.lt_or_ge j L.length with hj | hj
 ·exact h j hj
 rw [List.getElem?_eq_none hj, List.getElem?_eq_none (by omega)]
theorem dec_no {p : Prop} [Decidable p] (h : ¬ p) : false = decide p := (decide_eq_false h).symm

set_option maxHeartbeats 4000000 in
theorem tsame_spec (L1 : List Tp) (R1 : List Ro) (tv1 rv1 : Value) (V1 : Nat → Value) (L2 : List Tp) (R2 : List Ro) (tv2 rv2 : Value) (V2 : Nat → Value) (w0 : World) (hA : SchR w0 L1 R1 tv1 rv1 V1) (hB : SchR w0 L2 R2 tv2 rv2 V2) (hk1 : SOk L1 R1) (hk2 : SOk L2 R2) : Ca Try.prog 13 #[.agg #[tv1, rv1], .agg #[tv2, rv2]] w0 (fun v w' => v = .bool (decide (L1 = L2 ∧ R1 = R2)) ∧ Ext w0 w') := by
 have hl1 := hk1.len
 have hl2 := hk2.len
 have hr1 := hk1.ro
 have hr2 := hk2.ro
 refine Ca.of Try.func13 Try.ntmps13 rfl rfl (W.seq (W.region (WL.c rfl (o_boxB rfl ?_))))
 intro w2 hC2 hx2 hs2
 obtain ⟨b2, hb2⟩ : ∃ b, b = w0.heap.size := ⟨_, rfl⟩
 rw [← hb2] at hC2 ⊢
 replace hC2 : w2.heap[b2]? = some (.cells ([tv1, rv1]).toArray 34 (0, 0)) := hC2
 have hx := hx2
 replace hA := hA.ext hx2
 replace hB := hB.ext hx2
 refine WL.c rfl (o_boxB rfl ?_)
 intro w3 hC3 hx3 hs3
 obtain ⟨b3, hb3⟩ : ∃ b, b = w2.heap.size := ⟨_, rfl⟩
 rw [← hb3] at hC3 ⊢
 replace hC3 : w3.heap[b3]? = some (.cells ([tv2, rv2]).toArray 34 (0, 0)) := hC3
 replace hx := hx.tr hx3
 replace hA := hA.ext hx3
 replace hB := hB.ext hx3
 replace hC2 := hx3.blk hC2 (fun h => h)
 refine WL.c rfl (o_ash vB (WL.nil (W.seq (W.seq ?_))))
 by_cases e1 : L1.length = L2.length
 by_cases e2 : R1.length = R2.length
 ·skip
  skip
  refine W.region (WL.c rfl (o_fa 0 TI34 rfl TI31 rfl rfl (WL.c rfl (o_ld TI31 rfl rfl (cell_of hC2 rfl) (WL.c rfl (o_lenR TI31 rfl hA.ty.row (WL.c rfl (o_fa 0 TI34 rfl TI31 rfl rfl (WL.c rfl (o_ld TI31 rfl rfl (cell_of hC3 rfl) (WL.c rfl (o_lenR TI31 rfl hB.ty.row (WL.c rfl (o_ne rfl rfl (WL.c rfl (o_mvh vB (WL.g rfl (by simp [e1]) rfl (o_fa 1 TI34 rfl TI32 rfl rfl (WL.g rfl (by simp [e1]) rfl (o_ld TI32 rfl rfl (cell_of hC2 rfl) (WL.g rfl (by simp [e1]) rfl (o_lenR TI32 rfl hA.ro (WL.g rfl (by simp [e1]) rfl (o_fa 1 TI34 rfl TI32 rfl rfl (WL.g rfl (by simp [e1]) rfl (o_ld TI32 rfl rfl (cell_of hC3 rfl) (WL.g rfl (by simp [e1]) rfl (o_lenR TI32 rfl hB.ro (WL.g rfl (by simp [e1]) rfl (o_ne rfl rfl (WL.c rfl (o_pickO rfl rfl (WL.nil (W.condF' rfl (by simp [e1, e2]) (W.skip (W.seq (W.seq (W.region (WL.c rfl (o_ash vI (WL.nil (W.block (W.loop (fun e w => ∃ i : Nat, i ≤ L1.length ∧ e 2 = .pointer (some ⟨b2, 0, none⟩) ∧ e 3 = .pointer (some ⟨b3, 0, none⟩) ∧ e 5 = .int .i64 (i : Int) ∧ (∀ j, j < i → L1[j]? = L2[j]?) ∧ w.heap[b2]? = some (.cells #[tv1, rv1] 34 (0, 0)) ∧ w.heap[b3]? = some (.cells #[tv2, rv2] 34 (0, 0)) ∧ SchR w L1 R1 tv1 rv1 V1 ∧ SchR w L2 R2 tv2 rv2 V2 ∧ Ext w0 w) (fun e w => L1.length - (intOf (e 5)).toNat) ?_ ?_)))))))))))))))))))))))))))))))))))))))))))
  ·exact ⟨0, Nat.zero_le _, rfl, rfl, rfl, fun j hj => by omega, hC2, hC3, hA, hB, hx⟩
  rintro e w ⟨i, hi, h2, h3, h5, hsm, hC2, hC3, hA, hB, hx⟩
  have hm5 := h5
  refine W.seq (W.seq (W.region (WL.c rfl (o_mvh h5 (WL.c rfl (o_fa 0 TI34 rfl TI31 rfl h2 (WL.c rfl (o_ld TI31 rfl rfl (cell_of hC2 rfl) (WL.c rfl (o_lenR TI31 rfl hA.ty.row (WL.c rfl (o_lt rfl rfl (WL.nil (W.cond rfl (fun c30 => ?_) (fun c30 => ?_)))))))))))))))
  ·try simp only [cs8] at c30
   have hi1 : i < L1.length := by omega
   have hi2 : i < L2.length := by omega
   obtain ⟨ab, ao, ac, ha1, hac, hap⟩ := hA.ty.atk hi1
   obtain ⟨bb, bo, bc, hb1, hbc, hbp⟩ := hB.ty.atk hi2
   have hpa := hk1.pa _ (List.getElem_mem hi1)
   have hpb := hk2.pa _ (List.getElem_mem hi2)
   have hC2s := hC2
   rw [ha1] at hC2s
   have hC3s := hC3
   rw [hb1] at hC3s
   refine W.skip (W.seq (W.block (W.seq (W.region (WL.c rfl (o_fa 0 TI34 rfl TI31 rfl h2 (WL.c rfl (o_ld TI31 rfl rfl (cell_of hC2s rfl) (WL.c rfl (o_mvh h5 (WL.c rfl (o_ixB (i := i) TI31 TI50 (show _ = Value.slice (some ⟨ab, ao, none⟩) L1.length ac from rfl) (show _ = Value.int .i64 (i : Int) from rfl) (by omega) (WL.c rfl (o_ldA TI50 rfl rfl hac rfl (WL.c rfl (o_alB TI50 ?_))))))))))))))))
   intro wa hCa hxa hsa
   refine WL.u (o_stA TI50 rfl (show _ = Value.agg (tcell L1[i] (V1 i)).toArray from rfl) rfl (by simp only [tcell, List.toArray, Array.toList, List.all_cons, List.all_nil, sl_one1 hap]; rfl) hCa rfl ?_)
   intro wb6 hC6 hob hsb
   have hxb := Ext.own hxa (Nat.le_refl _) hob
   obtain ⟨b6, hb6⟩ : ∃ b, b = w.heap.size := ⟨_, rfl⟩
   rw [← hb6] at hC6 ⊢
   clear hCa hxa hsa hob hsb
   replace hx := hx.tr hxb
   replace hC2 := hxb.blk hC2 (fun h => h)
   replace hC3 := hxb.blk hC3 (fun h => h)
   replace hA := hA.ext hxb
   replace hB := hB.ext hxb
   replace hap := hap.ext hxb
   replace hbp := hbp.ext hxb
   replace hC3s := hxb.blk hC3s (fun h => h)
   replace hbc := Cells.only hbc hxb (fun h => h)
   clear hxb
   refine WL.nil (W.seq (W.region (WL.c rfl (o_fa 0 TI34 rfl TI31 rfl h3 (WL.c rfl (o_ld TI31 rfl rfl (cell_of hC3s rfl) (WL.c rfl (o_mvh h5 (WL.c rfl (o_ixB (i := i) TI31 TI50 (show _ = Value.slice (some ⟨bb, bo, none⟩) L2.length bc from rfl) (show _ = Value.int .i64 (i : Int) from rfl) (by omega) (WL.c rfl (o_ldA TI50 rfl rfl hbc rfl (WL.c rfl (o_alB TI50 ?_))))))))))))))
   intro wa hCa hxa hsa
   refine WL.u (o_stA TI50 rfl (show _ = Value.agg (tcell L2[i] (V2 i)).toArray from rfl) rfl (by simp only [tcell, List.toArray, Array.toList, List.all_cons, List.all_nil, sl_one1 hbp]; rfl) hCa rfl ?_)
   intro wb7 hC7 hob hsb
   have hxb := Ext.own hxa (Nat.le_refl _) hob
   obtain ⟨b7, hb7⟩ : ∃ b, b = wb6.heap.size := ⟨_, rfl⟩
   rw [← hb7] at hC7 ⊢
   clear hCa hxa hsa hob hsb
   replace hx := hx.tr hxb
   replace hC2 := hxb.blk hC2 (fun h => h)
   replace hC3 := hxb.blk hC3 (fun h => h)
   replace hA := hA.ext hxb
   replace hB := hB.ext hxb
   replace hap := hap.ext hxb
   replace hbp := hbp.ext hxb
   replace hC6 := hxb.blk hC6 (fun h => h)
   clear hxb
   refine WL.nil (W.seq (W.seq ?_))
   by_cases q1 : L1[i].kind = L2[i].kind
   by_cases q2 : L1[i].n = L2[i].n
   by_cases q3 : L1[i].elem = L2[i].elem
   by_cases q4 : L1[i].parts.length = L2[i].parts.length
   ·skip
    have hq := And.intro q1 (And.intro q2 (And.intro q3 q4))
    refine W.region (WL.c rfl (o_fa 0 TI50 rfl TI3 rfl rfl (WL.c rfl (o_ld TI3 rfl rfl (cell_of hC6 rfl) (WL.c rfl (o_fa 0 TI50 rfl TI3 rfl rfl (WL.c rfl (o_ld TI3 rfl rfl (cell_of hC7 rfl) (WL.c rfl (o_ne rfl rfl (WL.c rfl (o_mvh vB (WL.g rfl (by simp [q1]) rfl (o_fa 1 TI50 rfl TI3 rfl rfl (WL.g rfl (by simp [q1]) rfl (o_ld TI3 rfl rfl (cell_of hC6 rfl) (WL.g rfl (by simp [q1]) rfl (o_fa 1 TI50 rfl TI3 rfl rfl (WL.g rfl (by simp [q1]) rfl (o_ld TI3 rfl rfl (cell_of hC7 rfl) (WL.g rfl (by simp [q1]) rfl (o_ne rfl rfl (WL.c rfl (o_pickO rfl rfl (WL.c rfl (o_mvh vB (WL.g rfl (by simp [q1, q2]) rfl (o_fa 2 TI50 rfl TI3 rfl rfl (WL.g rfl (by simp [q1, q2]) rfl (o_ld TI3 rfl rfl (cell_of hC6 rfl) (WL.g rfl (by simp [q1, q2]) rfl (o_fa 2 TI50 rfl TI3 rfl rfl (WL.g rfl (by simp [q1, q2]) rfl (o_ld TI3 rfl rfl (cell_of hC7 rfl) (WL.g rfl (by simp [q1, q2]) rfl (o_ne rfl rfl (WL.c rfl (o_pickO rfl rfl (WL.c rfl (o_mvh vB (WL.g rfl (by simp [q1, q2, q3]) rfl (o_fa 3 TI50 rfl TI48 rfl rfl (WL.g rfl (by simp [q1, q2, q3]) rfl (o_ld TI48 rfl rfl (cell_of hC6 rfl) (WL.g rfl (by simp [q1, q2, q3]) rfl (o_lenR TI48 rfl hap (WL.g rfl (by simp [q1, q2, q3]) rfl (o_fa 3 TI50 rfl TI48 rfl rfl (WL.g rfl (by simp [q1, q2, q3]) rfl (o_ld TI48 rfl rfl (cell_of hC7 rfl) (WL.g rfl (by simp [q1, q2, q3]) rfl (o_lenR TI48 rfl hbp (WL.g rfl (by simp [q1, q2, q3]) rfl (o_ne rfl rfl (WL.c rfl (o_pickO rfl rfl (WL.nil (W.condF' rfl (by simp [q1, q2, q3, q4]) (W.skip (W.seq (W.region (WL.c rfl (o_ash vI (WL.nil (W.block (W.loop (fun e w => ∃ q : Nat, q ≤ L1[i].parts.length ∧ e 2 = .pointer (some ⟨b2, 0, none⟩) ∧ e 3 = .pointer (some ⟨b3, 0, none⟩) ∧ e 5 = .int .i64 (i : Int) ∧ e 6 = .pointer (some ⟨b6, 0, none⟩) ∧ e 7 = .pointer (some ⟨b7, 0, none⟩) ∧ e 8 = .int .i64 (q : Int) ∧ (∀ j, j < q → L1[i].parts[j]? = L2[i].parts[j]?) ∧ w.heap[b6]? = some (.cells (tcell L1[i] (V1 i)).toArray 50 (0, 0)) ∧ w.heap[b7]? = some (.cells (tcell L2[i] (V2 i)).toArray 50 (0, 0)) ∧ Sl w 3 (V1 i) L1[i].parts.length (pas L1[i].parts) ∧ Sl w 3 (V2 i) L2[i].parts.length (pas L2[i].parts) ∧ w.heap[b2]? = some (.cells #[tv1, rv1] 34 (0, 0)) ∧ w.heap[b3]? = some (.cells #[tv2, rv2] 34 (0, 0)) ∧ SchR w L1 R1 tv1 rv1 V1 ∧ SchR w L2 R2 tv2 rv2 V2 ∧ Ext w0 w) (fun e w => L1[i].parts.length - (intOf (e 8)).toNat) ?_ ?_))))))))))))))))))))))))))))))))))))))))))))))))))))))))))))))))))
    ·exact ⟨0, Nat.zero_le _, h2, h3, h5, rfl, rfl, rfl, fun j hj => by omega, hC6, hC7, hap, hbp, hC2, hC3, hA, hB, hx⟩
    rintro e w ⟨q, hqq, h2, h3, h5, h6, h7, h8, hsp, hC6, hC7, hap, hbp, hC2, hC3, hA, hB, hx⟩
    have hm8 := h8
    refine W.seq (W.seq (W.region (WL.c rfl (o_mvh h8 (WL.c rfl (o_fa 3 TI50 rfl TI48 rfl h6 (WL.c rfl (o_ld TI48 rfl rfl (cell_of hC6 rfl) (WL.c rfl (o_lenR TI48 rfl hap (WL.c rfl (o_lt rfl rfl (WL.nil (W.cond rfl (fun c75 => ?_) (fun c75 => ?_)))))))))))))))
    ·try simp only [cs8] at c75
     have hqa : q < L1[i].parts.length := by omega
     have hqb : q < L2[i].parts.length := by omega
     obtain ⟨pb, po, pc, hpv, hpc⟩ := Sl.paq hap hqa
     obtain ⟨rb, ro, rc, hrv, hrc⟩ := Sl.paq hbp hqb
     have hC6s := hC6
     rw [hpv] at hC6s
     have hC7s := hC7
     rw [hrv] at hC7s
     refine W.skip (W.seq (W.block (W.seq (W.quiet rfl (by kernel_rfl) (WQ.c rfl ((QO.o rfl fun _ => o_fa 3 TI50 rfl TI48 rfl h6 ⟨rfl, rfl⟩)) (WQ.c rfl ((QO.o rfl fun _ => o_ld TI48 rfl rfl (cell_of hC6s rfl) ⟨rfl, rfl⟩)) (WQ.c rfl ((QO.o rfl fun _ => o_mvh h8 ⟨rfl, rfl⟩)) (WQ.c rfl ((QO.o rfl fun _ => o_ixB (i := q) TI48 TI52 (show _ = Value.slice (some ⟨pb, po, none⟩) L1[i].parts.length pc from rfl) (show _ = Value.int .i64 (q : Int) from rfl) (by omega) ⟨rfl, rfl⟩)) (WQ.c rfl ((QO.o rfl fun _ => o_ldA TI52 rfl rfl hpc rfl ⟨rfl, rfl⟩)) (WQ.c rfl ((QO.o rfl fun _ => o_fa 3 TI50 rfl TI48 rfl h7 ⟨rfl, rfl⟩)) (WQ.c rfl ((QO.o rfl fun _ => o_ld TI48 rfl rfl (cell_of hC7s rfl) ⟨rfl, rfl⟩)) (WQ.c rfl ((QO.o rfl fun _ => o_mvh h8 ⟨rfl, rfl⟩)) (WQ.c rfl ((QO.o rfl fun _ => o_ixB (i := q) TI48 TI52 (show _ = Value.slice (some ⟨rb, ro, none⟩) L2[i].parts.length rc from rfl) (show _ = Value.int .i64 (q : Int) from rfl) (by omega) ⟨rfl, rfl⟩)) (WQ.c rfl ((QO.o rfl fun _ => o_ldA TI52 rfl rfl hrc rfl ⟨rfl, rfl⟩)) (WQ.c rfl ((QO.o rfl fun _ => o_neR TI52 (by kernel_rfl) (by kernel_rfl) rfl rfl (.str TI9 (by decide) rfl rfl (.int TI3 (by decide) rfl rfl (.int TI3 (by decide) rfl rfl .nil))) ⟨rfl, rfl⟩)) (WQ.nil ?_))))))))))))))))
     intro nq
     replace hx := hx.tr (Only.drewN w nq)
     replace hA := hA.ext (Only.drewN w nq)
     replace hB := hB.ext (Only.drewN w nq)
     replace hap := hap.ext (Only.drewN w nq)
     replace hbp := hbp.ext (Only.drewN w nq)
     refine W.cond rfl (fun c88 => ?_) (fun c88 => ?_)
     ·try simp only [cs8] at c88
      have hpe : ¬ L1[i].parts[q] = L2[i].parts[q] := fun e => by rw [e] at c88; simp at c88
      refine W.seq (W.region (WL.c rfl (o_ash vB (WL.nil (W.ret (ret1v rfl vB ?_))))))
      exact ⟨congrArg Value.bool (dec_no (fun h => hpe (by simp only [h.1]))), hx⟩
     try simp only [cs8] at c88
     have hpe : L1[i].parts[q] = L2[i].parts[q] := by
      have h : L1[i].parts[q].label = L2[i].parts[q].label ∧ L1[i].parts[q].tag = L2[i].parts[q].tag ∧ L1[i].parts[q].ty = L2[i].parts[q].ty := by simpa [paV_inj] using c88
      exact pa_eq.2 h
     refine W.skip (W.region (WL.c rfl (o_mvh h8 (WL.c rfl (o_addi rfl rfl (by omega) (WL.c rfl (o_ash vI (WL.nil (⟨⟨q + 1, by omega, h2, h3, h5, h6, h7, rfl, fun j hj => ?_, hC6, hC7, hap, hbp, hC2, hC3, hA, hB, hx⟩, ?_⟩)))))))))
     ·rcases Nat.lt_or_ge j q with h | h
      ·exact hsp j h
      rw [show j = q by omega, List.getElem?_eq_getElem hqa, List.getElem?_eq_getElem hqb, hpe]
     show L1[i].parts.length - ((q : Int) + 1).toNat < _
     rw [hm8]; simp [intOf]; omega
    try simp only [cs8] at c75
    have hqa : q = L1[i].parts.length := by omega
    rw [hqa] at hsp
    have hps := hsp
    refine W.exit (W.region (WL.c rfl (o_mvh h5 (WL.c rfl (o_addi rfl rfl (by omega) (WL.c rfl (o_ash vI (WL.nil (⟨⟨i + 1, by omega, h2, h3, rfl, fun j hj => ?_, hC2, hC3, hA, hB, hx⟩, ?_⟩)))))))))
    ·rcases Nat.lt_or_ge j i with h | h
     ·exact hsm j h
     rw [show j = i by omega, List.getElem?_eq_getElem hi1, List.getElem?_eq_getElem hi2, tp_eq.2 ⟨hq.1, hq.2.1, hq.2.2.1, all_eq hq.2.2.2 hps⟩]
    show L1.length - ((i : Int) + 1).toNat < _
    rw [hm5]; simp [intOf]; omega
   ·skip
    skip
    refine W.region (WL.c rfl (o_fa 0 TI50 rfl TI3 rfl rfl (WL.c rfl (o_ld TI3 rfl rfl (cell_of hC6 rfl) (WL.c rfl (o_fa 0 TI50 rfl TI3 rfl rfl (WL.c rfl (o_ld TI3 rfl rfl (cell_of hC7 rfl) (WL.c rfl (o_ne rfl rfl (WL.c rfl (o_mvh vB (WL.g rfl (by simp [q1]) rfl (o_fa 1 TI50 rfl TI3 rfl rfl (WL.g rfl (by simp [q1]) rfl (o_ld TI3 rfl rfl (cell_of hC6 rfl) (WL.g rfl (by simp [q1]) rfl (o_fa 1 TI50 rfl TI3 rfl rfl (WL.g rfl (by simp [q1]) rfl (o_ld TI3 rfl rfl (cell_of hC7 rfl) (WL.g rfl (by simp [q1]) rfl (o_ne rfl rfl (WL.c rfl (o_pickO rfl rfl (WL.c rfl (o_mvh vB (WL.g rfl (by simp [q1, q2]) rfl (o_fa 2 TI50 rfl TI3 rfl rfl (WL.g rfl (by simp [q1, q2]) rfl (o_ld TI3 rfl rfl (cell_of hC6 rfl) (WL.g rfl (by simp [q1, q2]) rfl (o_fa 2 TI50 rfl TI3 rfl rfl (WL.g rfl (by simp [q1, q2]) rfl (o_ld TI3 rfl rfl (cell_of hC7 rfl) (WL.g rfl (by simp [q1, q2]) rfl (o_ne rfl rfl (WL.c rfl (o_pickO rfl rfl (WL.c rfl (o_mvh vB (WL.g rfl (by simp [q1, q2, q3]) rfl (o_fa 3 TI50 rfl TI48 rfl rfl (WL.g rfl (by simp [q1, q2, q3]) rfl (o_ld TI48 rfl rfl (cell_of hC6 rfl) (WL.g rfl (by simp [q1, q2, q3]) rfl (o_lenR TI48 rfl hap (WL.g rfl (by simp [q1, q2, q3]) rfl (o_fa 3 TI50 rfl TI48 rfl rfl (WL.g rfl (by simp [q1, q2, q3]) rfl (o_ld TI48 rfl rfl (cell_of hC7 rfl) (WL.g rfl (by simp [q1, q2, q3]) rfl (o_lenR TI48 rfl hbp (WL.g rfl (by simp [q1, q2, q3]) rfl (o_ne rfl rfl (WL.c rfl (o_pickO rfl rfl (WL.nil (W.condT' rfl (by simp [q1, q2, q3] <;> omega) (W.seq (W.region (WL.c rfl (o_ash vB (WL.nil (W.ret (ret1v rfl vB ?_)))))))))))))))))))))))))))))))))))))))))))))))))))))))))))))))))
    exact ⟨congrArg Value.bool (dec_no (fun h => q4 (by simp only [h.1]))), hx⟩
   ·skip
    skip
    refine W.region (WL.c rfl (o_fa 0 TI50 rfl TI3 rfl rfl (WL.c rfl (o_ld TI3 rfl rfl (cell_of hC6 rfl) (WL.c rfl (o_fa 0 TI50 rfl TI3 rfl rfl (WL.c rfl (o_ld TI3 rfl rfl (cell_of hC7 rfl) (WL.c rfl (o_ne rfl rfl (WL.c rfl (o_mvh vB (WL.g rfl (by simp [q1]) rfl (o_fa 1 TI50 rfl TI3 rfl rfl (WL.g rfl (by simp [q1]) rfl (o_ld TI3 rfl rfl (cell_of hC6 rfl) (WL.g rfl (by simp [q1]) rfl (o_fa 1 TI50 rfl TI3 rfl rfl (WL.g rfl (by simp [q1]) rfl (o_ld TI3 rfl rfl (cell_of hC7 rfl) (WL.g rfl (by simp [q1]) rfl (o_ne rfl rfl (WL.c rfl (o_pickO rfl rfl (WL.c rfl (o_mvh vB (WL.g rfl (by simp [q1, q2]) rfl (o_fa 2 TI50 rfl TI3 rfl rfl (WL.g rfl (by simp [q1, q2]) rfl (o_ld TI3 rfl rfl (cell_of hC6 rfl) (WL.g rfl (by simp [q1, q2]) rfl (o_fa 2 TI50 rfl TI3 rfl rfl (WL.g rfl (by simp [q1, q2]) rfl (o_ld TI3 rfl rfl (cell_of hC7 rfl) (WL.g rfl (by simp [q1, q2]) rfl (o_ne rfl rfl (WL.c rfl (o_pickO rfl rfl (WL.c rfl (o_mvh vB (WL.s rfl (by simp [q1, q2, q3]) rfl (WL.s rfl (by simp [q1, q2, q3]) rfl (WL.s rfl (by simp [q1, q2, q3]) rfl (WL.s rfl (by simp [q1, q2, q3]) rfl (WL.s rfl (by simp [q1, q2, q3]) rfl (WL.s rfl (by simp [q1, q2, q3]) rfl (WL.s rfl (by simp [q1, q2, q3]) rfl (WL.c rfl (o_pickT rfl (by simp [q1, q2, q3]) (WL.nil (W.condT' rfl (rfl) (W.seq (W.region (WL.c rfl (o_ash vB (WL.nil (W.ret (ret1v rfl vB ?_))))))))))))))))))))))))))))))))))))))))))))))))))))))))))
    exact ⟨congrArg Value.bool (dec_no (fun h => q3 (by simp only [h.1]))), hx⟩
   ·skip
    skip
    refine W.region (WL.c rfl (o_fa 0 TI50 rfl TI3 rfl rfl (WL.c rfl (o_ld TI3 rfl rfl (cell_of hC6 rfl) (WL.c rfl (o_fa 0 TI50 rfl TI3 rfl rfl (WL.c rfl (o_ld TI3 rfl rfl (cell_of hC7 rfl) (WL.c rfl (o_ne rfl rfl (WL.c rfl (o_mvh vB (WL.g rfl (by simp [q1]) rfl (o_fa 1 TI50 rfl TI3 rfl rfl (WL.g rfl (by simp [q1]) rfl (o_ld TI3 rfl rfl (cell_of hC6 rfl) (WL.g rfl (by simp [q1]) rfl (o_fa 1 TI50 rfl TI3 rfl rfl (WL.g rfl (by simp [q1]) rfl (o_ld TI3 rfl rfl (cell_of hC7 rfl) (WL.g rfl (by simp [q1]) rfl (o_ne rfl rfl (WL.c rfl (o_pickO rfl rfl (WL.c rfl (o_mvh vB (WL.s rfl (by simp [q1, q2]) rfl (WL.s rfl (by simp [q1, q2]) rfl (WL.s rfl (by simp [q1, q2]) rfl (WL.s rfl (by simp [q1, q2]) rfl (WL.s rfl (by simp [q1, q2]) rfl (WL.c rfl (o_pickT rfl (by simp [q1, q2]) (WL.c rfl (o_mvh vB (WL.s rfl (rfl) rfl (WL.s rfl (rfl) rfl (WL.s rfl (rfl) rfl (WL.s rfl (rfl) rfl (WL.s rfl (rfl) rfl (WL.s rfl (rfl) rfl (WL.s rfl (rfl) rfl (WL.c rfl (o_pickT rfl (rfl) (WL.nil (W.condT' rfl (rfl) (W.seq (W.region (WL.c rfl (o_ash vB (WL.nil (W.ret (ret1v rfl vB ?_)))))))))))))))))))))))))))))))))))))))))))))))))))))
    exact ⟨congrArg Value.bool (dec_no (fun h => q2 (by simp only [h.1]))), hx⟩
   skip
   skip
   refine W.region (WL.c rfl (o_fa 0 TI50 rfl TI3 rfl rfl (WL.c rfl (o_ld TI3 rfl rfl (cell_of hC6 rfl) (WL.c rfl (o_fa 0 TI50 rfl TI3 rfl rfl (WL.c rfl (o_ld TI3 rfl rfl (cell_of hC7 rfl) (WL.c rfl (o_ne rfl rfl (WL.c rfl (o_mvh vB (WL.s rfl (by simp [q1]) rfl (WL.s rfl (by simp [q1]) rfl (WL.s rfl (by simp [q1]) rfl (WL.s rfl (by simp [q1]) rfl (WL.s rfl (by simp [q1]) rfl (WL.c rfl (o_pickT rfl (by simp [q1]) (WL.c rfl (o_mvh vB (WL.s rfl (rfl) rfl (WL.s rfl (rfl) rfl (WL.s rfl (rfl) rfl (WL.s rfl (rfl) rfl (WL.s rfl (rfl) rfl (WL.c rfl (o_pickT rfl (rfl) (WL.c rfl (o_mvh vB (WL.s rfl (rfl) rfl (WL.s rfl (rfl) rfl (WL.s rfl (rfl) rfl (WL.s rfl (rfl) rfl (WL.s rfl (rfl) rfl (WL.s rfl (rfl) rfl (WL.s rfl (rfl) rfl (WL.c rfl (o_pickT rfl (rfl) (WL.nil (W.condT' rfl (rfl) (W.seq (W.region (WL.c rfl (o_ash vB (WL.nil (W.ret (ret1v rfl vB ?_))))))))))))))))))))))))))))))))))))))))))))))))
   exact ⟨congrArg Value.bool (dec_no (fun h => q1 (by simp only [h.1]))), hx⟩
  try simp only [cs8] at c30
  have hi1 : i = L1.length := by omega
  rw [hi1] at hsm
  have hLL : L1 = L2 := all_eq e1 hsm
  refine W.exit (W.seq (W.seq (W.region (WL.c rfl (o_ash vI (WL.nil (W.block (W.loop (fun e w => ∃ k : Nat, k ≤ R1.length ∧ e 2 = .pointer (some ⟨b2, 0, none⟩) ∧ e 3 = .pointer (some ⟨b3, 0, none⟩) ∧ e 9 = .int .i64 (k : Int) ∧ (∀ j, j < k → R1[j]? = R2[j]?) ∧ w.heap[b2]? = some (.cells #[tv1, rv1] 34 (0, 0)) ∧ w.heap[b3]? = some (.cells #[tv2, rv2] 34 (0, 0)) ∧ SchR w L1 R1 tv1 rv1 V1 ∧ SchR w L2 R2 tv2 rv2 V2 ∧ Ext w0 w) (fun e w => R1.length - (intOf (e 9)).toNat) ?_ ?_))))))))
  ·exact ⟨0, Nat.zero_le _, h2, h3, rfl, fun j hj => by omega, hC2, hC3, hA, hB, hx⟩
  rintro e w ⟨k, hk, h2, h3, h9, hsr, hC2, hC3, hA, hB, hx⟩
  have hm9 := h9
  refine W.seq (W.seq (W.region (WL.c rfl (o_mvh h9 (WL.c rfl (o_fa 1 TI34 rfl TI32 rfl h2 (WL.c rfl (o_ld TI32 rfl rfl (cell_of hC2 rfl) (WL.c rfl (o_lenR TI32 rfl hA.ro (WL.c rfl (o_lt rfl rfl (WL.nil (W.cond rfl (fun c93 => ?_) (fun c93 => ?_)))))))))))))))
  ·try simp only [cs8] at c93
   have hka : k < R1.length := by omega
   have hkb : k < R2.length := by omega
   obtain ⟨pb, po, pc, hpv, hpc⟩ := Sl.roq hA.ro hka
   obtain ⟨rb, ro, rc, hrv, hrc⟩ := Sl.roq hB.ro hkb
   have hC2s := hC2
   rw [hpv] at hC2s
   have hC3s := hC3
   rw [hrv] at hC3s
   refine W.skip (W.seq (W.block (W.seq (W.quiet rfl (by kernel_rfl) (WQ.c rfl ((QO.o rfl fun _ => o_fa 1 TI34 rfl TI32 rfl h2 ⟨rfl, rfl⟩)) (WQ.c rfl ((QO.o rfl fun _ => o_ld TI32 rfl rfl (cell_of hC2s rfl) ⟨rfl, rfl⟩)) (WQ.c rfl ((QO.o rfl fun _ => o_mvh h9 ⟨rfl, rfl⟩)) (WQ.c rfl ((QO.o rfl fun _ => o_ixB (i := k) TI32 TI47 (show _ = Value.slice (some ⟨pb, po, none⟩) R1.length pc from rfl) (show _ = Value.int .i64 (k : Int) from rfl) (by omega) ⟨rfl, rfl⟩)) (WQ.c rfl ((QO.o rfl fun _ => o_ldA TI47 rfl rfl hpc rfl ⟨rfl, rfl⟩)) (WQ.c rfl ((QO.o rfl fun _ => o_fa 1 TI34 rfl TI32 rfl h3 ⟨rfl, rfl⟩)) (WQ.c rfl ((QO.o rfl fun _ => o_ld TI32 rfl rfl (cell_of hC3s rfl) ⟨rfl, rfl⟩)) (WQ.c rfl ((QO.o rfl fun _ => o_mvh h9 ⟨rfl, rfl⟩)) (WQ.c rfl ((QO.o rfl fun _ => o_ixB (i := k) TI32 TI47 (show _ = Value.slice (some ⟨rb, ro, none⟩) R2.length rc from rfl) (show _ = Value.int .i64 (k : Int) from rfl) (by omega) ⟨rfl, rfl⟩)) (WQ.c rfl ((QO.o rfl fun _ => o_ldA TI47 rfl rfl hrc rfl ⟨rfl, rfl⟩)) (WQ.c rfl ((QO.o rfl fun _ => o_neR TI47 (by kernel_rfl) (by kernel_rfl) rfl rfl (.str TI9 (by decide) rfl rfl (.int TI3 (by decide) rfl rfl .nil)) ⟨rfl, rfl⟩)) (WQ.nil ?_))))))))))))))))
   intro nq
   replace hx := hx.tr (Only.drewN w nq)
   replace hA := hA.ext (Only.drewN w nq)
   replace hB := hB.ext (Only.drewN w nq)
   refine W.cond rfl (fun c106 => ?_) (fun c106 => ?_)
   ·try simp only [cs8] at c106
    have hre : ¬ R1[k] = R2[k] := fun e => by rw [e] at c106; simp at c106
    refine W.seq (W.region (WL.c rfl (o_ash vB (WL.nil (W.ret (ret1v rfl vB ?_))))))
    exact ⟨congrArg Value.bool (dec_no (fun h => hre (by simp only [h.2]))), hx⟩
   try simp only [cs8] at c106
   have hre : R1[k] = R2[k] := by
    have h : R1[k].name = R2[k].name ∧ R1[k].ty = R2[k].ty := by simpa [roV_inj] using c106
    exact ro_eq.2 h
   refine W.skip (W.region (WL.c rfl (o_mvh h9 (WL.c rfl (o_addi rfl rfl (by omega) (WL.c rfl (o_ash vI (WL.nil (⟨⟨k + 1, by omega, h2, h3, rfl, fun j hj => ?_, hC2, hC3, hA, hB, hx⟩, ?_⟩)))))))))
   ·rcases Nat.lt_or_ge j k with h | h
    ·exact hsr j h
    rw [show j = k by omega, List.getElem?_eq_getElem hka, List.getElem?_eq_getElem hkb, hre]
   show R1.length - ((k : Int) + 1).toNat < _
   rw [hm9]; simp [intOf]; omega
  try simp only [cs8] at c93
  have hka : k = R1.length := by omega
  rw [hka] at hsr
  have hRR : R1 = R2 := all_eq e2 hsr
  refine W.exit (W.seq (W.region (WL.c rfl (o_ash vB (WL.nil (W.ret (ret1v rfl vB ?_)))))))
  exact ⟨congrArg Value.bool (decide_eq_true ⟨hLL, hRR⟩).symm, hx⟩
 ·skip
  skip
  refine W.region (WL.c rfl (o_fa 0 TI34 rfl TI31 rfl rfl (WL.c rfl (o_ld TI31 rfl rfl (cell_of hC2 rfl) (WL.c rfl (o_lenR TI31 rfl hA.ty.row (WL.c rfl (o_fa 0 TI34 rfl TI31 rfl rfl (WL.c rfl (o_ld TI31 rfl rfl (cell_of hC3 rfl) (WL.c rfl (o_lenR TI31 rfl hB.ty.row (WL.c rfl (o_ne rfl rfl (WL.c rfl (o_mvh vB (WL.g rfl (by simp [e1]) rfl (o_fa 1 TI34 rfl TI32 rfl rfl (WL.g rfl (by simp [e1]) rfl (o_ld TI32 rfl rfl (cell_of hC2 rfl) (WL.g rfl (by simp [e1]) rfl (o_lenR TI32 rfl hA.ro (WL.g rfl (by simp [e1]) rfl (o_fa 1 TI34 rfl TI32 rfl rfl (WL.g rfl (by simp [e1]) rfl (o_ld TI32 rfl rfl (cell_of hC3 rfl) (WL.g rfl (by simp [e1]) rfl (o_lenR TI32 rfl hB.ro (WL.g rfl (by simp [e1]) rfl (o_ne rfl rfl (WL.c rfl (o_pickO rfl rfl (WL.nil (W.condT' rfl (by simp [e1]; omega) (W.seq (W.region (WL.c rfl (o_ash vB (WL.nil (W.ret (ret1v rfl vB ?_)))))))))))))))))))))))))))))))))))))))))
  exact ⟨congrArg Value.bool (dec_no (fun h => e2 (by rw [h.2]))), hx⟩
 skip
 skip
 refine W.region (WL.c rfl (o_fa 0 TI34 rfl TI31 rfl rfl (WL.c rfl (o_ld TI31 rfl rfl (cell_of hC2 rfl) (WL.c rfl (o_lenR TI31 rfl hA.ty.row (WL.c rfl (o_fa 0 TI34 rfl TI31 rfl rfl (WL.c rfl (o_ld TI31 rfl rfl (cell_of hC3 rfl) (WL.c rfl (o_lenR TI31 rfl hB.ty.row (WL.c rfl (o_ne rfl rfl (WL.c rfl (o_mvh vB (WL.s rfl (by simp <;> omega) rfl (WL.s rfl (by simp <;> omega) rfl (WL.s rfl (by simp <;> omega) rfl (WL.s rfl (by simp <;> omega) rfl (WL.s rfl (by simp <;> omega) rfl (WL.s rfl (by simp <;> omega) rfl (WL.s rfl (by simp <;> omega) rfl (WL.c rfl (o_pickT rfl (by simp <;> omega) (WL.nil (W.condT' rfl (rfl) (W.seq (W.region (WL.c rfl (o_ash vB (WL.nil (W.ret (ret1v rfl vB ?_))))))))))))))))))))))))))))))))))
 exact ⟨congrArg Value.bool (dec_no (fun h => e1 (by rw [h.1]))), hx⟩
end Go.Proofs.Ytpbflfgigfdohaa

namespace Go.Vc
open Go Go.RowKit Go.Maps Go.ChangeMaps
/-- block b of w is a map of just m entries in which g stands -/
def MapN (P : Program) (k e : TypeId) {α : Type} (en : α → Lit) (w : World) (b m : Nat) (g : α → Option Int) : Prop :=
 ∃ D : DataW Unit, w.ownsMap P k (plainElem P e) b m D ∧ Maps.size D = m ∧ ∀ a, Maps.has D (en a) = (g a).isSome ∧ ∀ v, g a = some v → D.atKey (en a) (.lit (.int .i64 0)) = .lit (.int .i64 v)
section
variable {P : Program} {e : Env} {w : World} {K : Value → World → Prop} {ty : TypeId} {α : Type} {en : α → Lit} {t kt et : TypeId} {b m : Nat} {g : α → Option Int}
theorem MapN.is (h : MapN P kt et en w b m g) : MapIs P kt et en w b m g := by obtain ⟨D, h1, -, h2⟩ := h; exact ⟨D, h1, h2⟩
theorem MapN.made (P : Program) (kt et : TypeId) (en : α → Lit) (w : World) : MapN P kt et en (w.alloc (.map #[] 0)) w.heap.size 0 (fun _ => none) :=
 ⟨_, World.ownsMap_made w P kt _, rfl, fun a => ⟨rfl, fun v h => by cases h⟩⟩
theorem MapN.lt (h : MapN P kt et en w b m g) : b < w.heap.size := h.is.lt
theorem MapN.only {w' : World} {F : Nat → Prop} (h : MapN P kt et en w b m g) (ho : Only F w w') (hn : ¬ F b) : MapN P kt et en w' b m g := by
 obtain ⟨D, h, hs, r⟩ := h
 have hlt := h.lt
 obtain ⟨es, clock, hb, Ft, hz, hD⟩ := h
 exact ⟨D, ⟨es, clock, (ho.block b hlt hn).trans hb, Ft, hz, hD⟩, hs, r⟩
theorem MapN.ext {w' : World} (h : MapN P kt et en w b m g) (ho : Only No w w') : MapN P kt et en w' b m g := h.only ho (fun h => h)
theorem ownsMap_exact {k : TypeId} {R : Value → Option (DataW Unit × List MemPlace)} {n : Nat} {D : DataW Unit} (h : w.ownsMap P k R b n D) : w.ownsMap P k R b (Maps.size D) D := by
 obtain ⟨es, clock, hb, F, hs, rfl⟩ := h
 exact ⟨es, clock, hb, F, by simp [Maps.size, length_sorted], rfl⟩
/-- 'len(m)' -/
theorem o_lenM {x : Operand} (ht : P.underlying t = some (.map kt et)) (hx : ev e x = .map (some b)) (hM : MapN P kt et en w b m g) (k : K (.int .i64 (m : Int)) w) : OP P e (.call ⟨.builtin .len, #[x], #[t]⟩) ty w K := by
 obtain ⟨D, hown, hs, -⟩ := hM
 have h := hown.len ht ty
 rw [hs] at h
 exact OP.of (by simp [execOp, resolve, invoke, builtin, hx, h]) k
/-- 'm[k] = v' -/
theorem o_muN [DecidableEq α] {x y z : Operand} {key : Value} {a : α} {v : Int} (hen : ∀ a b, en a = en b → a = b) (hT : MTy P t kt et) (hx : ev e x = .map (some b)) (hM : MapN P kt et en w b m g) (hy : ev e y = key) (hkl : keyOf P kt key = some (en a))
  (hv : ev e z = .int .i64 v) (hw : (Lit.int .i64 v).wf = true) (hn : m < maxLen)
  (kk : ∀ w', MapN P kt et en w' b (if (g a).isSome then m else m + 1) (fun c => if c = a then some v else g c) → Only (fun k => k = b) w w' → w'.heap.size = w.heap.size → K undef w') : OP P e (.mapUpdate t x y z) ty w K := by
 obtain ⟨D, hown, hs, hD⟩ := hM
 obtain ⟨w', hrun, hown', es, clock, es', clock', hb, hw'⟩ := hown.store hT.kd hT.ht hn hkl (plainElem_int hT.he hw)
 have hsz := Maps.size_put (k := en a) (hown.tidy hT.kd) (.lit (.int .i64 v))
 rw [hs, (hD a).1] at hsz
 refine OP.ofS (w' := w') (by simp [execOp, hx, hy, hv, hrun]) (kk w' ⟨_, by rw [← hsz]; exact ownsMap_exact hown', hsz, fun c => ?_⟩ ?_ ?_)
 ·have hK := hT.kd.key hkl
  by_cases hc : c = a
  ·subst hc
   simp only [if_true]
   rw [has_put_same hown.isMap hK]
   refine ⟨rfl, fun u hu => ?_⟩
   cases hu
   exact atKey_put_same hown.isMap hK _ _
  have hne : en c ≠ en a := fun h => hc (hen _ _ h)
  simp only [if_neg hc]
  rw [has_put_other hne]
  refine ⟨(hD c).1, fun u hu => ?_⟩
  rw [atKey_put_other hne]
  exact (hD c).2 u hu
 ·subst hw'
  exact ⟨rfl, rfl, rfl, by simp [setBlock], fun k _ hk => heap_setBlock_other hb _ (fun e => hk e)⟩
 subst hw'
 simp [setBlock]
end
end Go.Vc

namespace Go.Proofs.Ytpbflfgigfdohaa
open Go Go.Vc Go.RowKit Go.Proofs

open Classical in
noncomputable def partsB (t : Tp) (at_ most : Int) : Bool := decide (1 ≤ t.parts.length ∧ (t.parts.length : Int) ≤ most ∧ ∀ k, k < t.parts.length → paOk t at_ k)
theorem partsB_no {t : Tp} {at_ most : Int} {q : Nat} (hq : q < t.parts.length) (h : ¬ paOk t at_ q) : partsB t at_ most = false := by
 unfold partsB
 simp only [decide_eq_false_iff_not]
 exact fun hh => h (hh.2.2 q hq)
theorem partsB_len {t : Tp} {at_ most : Int} (h : ¬ (1 ≤ t.parts.length ∧ (t.parts.length : Int) ≤ most)) : partsB t at_ most = false := by
 unfold partsB
 simp only [decide_eq_false_iff_not]
 exact fun hh => h ⟨hh.1, hh.2.1⟩
theorem partsB_yes {t : Tp} {at_ most : Int} (h : 1 ≤ t.parts.length ∧ (t.parts.length : Int) ≤ most) (hk : ∀ k, k < t.parts.length → paOk t at_ k) : partsB t at_ most = true := by
 unfold partsB
 simp only [decide_eq_true_eq]
 exact ⟨h.1, h.2, hk⟩
def lbW (t : Tp) (p : Pa) : List UInt8 := if t.kind = 8 then p.label else []
def tgW (t : Tp) (p : Pa) : Int := if t.kind = 8 then 0 else p.tag
/-- the parts ahead of the k'th, in maps -/
structure PMap (t : Tp) (k nl nt : Nat) (gl : List UInt8 → Option Int) (gt : Int → Option Int) : Prop where
 lab : t.kind = 8 → nt = 0 ∧ ∀ s, (gl s).isSome = (t.parts.take k).any (fun z => decide (z.label = s))
 tag : ¬ t.kind = 8 → nl = 0 ∧ ∀ z, (gt z).isSome = (t.parts.take k).any (fun p => decide (p.tag = z))
 le : nl ≤ k ∧ nt ≤ k
theorem PMap.zero (t : Tp) : PMap t 0 0 0 (fun _ => none) (fun _ => none) := ⟨fun _ => ⟨rfl, fun _ => rfl⟩, fun _ => ⟨rfl, fun _ => rfl⟩, Nat.le_refl _, Nat.le_refl _⟩
theorem any_take {α : Type} {l : List α} {k : Nat} (hk : k ≤ l.length) (f : α → Bool) : (l.take k).any f = true ↔ ∃ j, ∃ hj : j < k, f (l[j]'(by omega)) = true := by
 rw [List.any_eq_true]
 constructor
 ·rintro ⟨x, hx, hf⟩
  obtain ⟨j, hj, rfl⟩ := List.getElem_of_mem hx
  simp only [List.length_take] at hj
  exact ⟨j, by omega, by simpa using hf⟩
 rintro ⟨j, hj, hf⟩
 exact ⟨_, List.mem_take_iff_getElem.2 ⟨j, by omega, rfl⟩, hf⟩
theorem any_snoc {α : Type} {l : List α} {k : Nat} (hk : k < l.length) (f : α → Bool) : (l.take (k + 1)).any f = ((l.take k).any f || f l[k]) := by
 rw [List.take_succ_eq_append_getElem hk, List.any_append]; simp
theorem PMap.step8 {t : Tp} {q nl nt : Nat} {gl : List UInt8 → Option Int} {gt : Int → Option Int} (h : PMap t q nl nt gl gt) (hq : q < t.parts.length) (h8 : t.kind = 8) (hs : nl + nt = q) (v : Int) :
  PMap t (q + 1) (if (gl t.parts[q].label).isSome = true then nl else nl + 1) nt (fun c => if c = t.parts[q].label then some v else gl c) gt ∧
  ((if (gl t.parts[q].label).isSome = true then nl else nl + 1) + nt = q + 1 ↔ ∀ j (hj : j < q), ¬ (lbW t t.parts[j] = lbW t t.parts[q] ∧ tgW t t.parts[j] = tgW t t.parts[q])) := by
 obtain ⟨h0, hl⟩ := h.lab h8
 have hle := h.le
 refine ⟨⟨fun _ => ⟨h0, fun s => ?_⟩, fun hn => absurd h8 hn, ?_⟩, ?_⟩
 ·rw [any_snoc hq, ← hl s]
  by_cases e : s = t.parts[q].label
  ·simp [e]
  have e2 : ¬ t.parts[q].label = s := fun h => e h.symm
  simp [e, e2]
 ·split <;> omega
 have hseen := hl t.parts[q].label
 have hb : (gl t.parts[q].label).isSome = true ↔ ∃ j, ∃ hj : j < q, (t.parts[j]'(by omega)).label = t.parts[q].label := by
  rw [hseen, any_take (by omega)]; simp
 simp only [lbW, tgW, if_pos h8, and_true]
 by_cases hc : (gl t.parts[q].label).isSome = true
 ·rw [if_pos hc]
  refine ⟨fun e => by omega, fun hh => ?_⟩
  obtain ⟨j, hj, e⟩ := hb.1 hc
  exact absurd e (hh j hj)
 rw [if_neg hc]
 exact ⟨fun _ j hj e => hc (hb.2 ⟨j, hj, e⟩), fun _ => by omega⟩
theorem PMap.stepT {t : Tp} {q nl nt : Nat} {gl : List UInt8 → Option Int} {gt : Int → Option Int} (h : PMap t q nl nt gl gt) (hq : q < t.parts.length) (h8 : ¬ t.kind = 8) (hs : nl + nt = q) (v : Int) :
  PMap t (q + 1) nl (if (gt t.parts[q].tag).isSome = true then nt else nt + 1) gl (fun c => if c = t.parts[q].tag then some v else gt c) ∧
  (nl + (if (gt t.parts[q].tag).isSome = true then nt else nt + 1) = q + 1 ↔ ∀ j (hj : j < q), ¬ (lbW t t.parts[j] = lbW t t.parts[q] ∧ tgW t t.parts[j] = tgW t t.parts[q])) := by
 obtain ⟨h0, hl⟩ := h.tag h8
 have hle := h.le
 refine ⟨⟨fun hn => absurd hn h8, fun _ => ⟨h0, fun s => ?_⟩, ?_⟩, ?_⟩
 ·rw [any_snoc hq, ← hl s]
  by_cases e : s = t.parts[q].tag
  ·simp [e]
  have e2 : ¬ t.parts[q].tag = s := fun h => e h.symm
  simp [e, e2]
 ·split <;> omega
 have hseen := hl t.parts[q].tag
 have hb : (gt t.parts[q].tag).isSome = true ↔ ∃ j, ∃ hj : j < q, (t.parts[j]'(by omega)).tag = t.parts[q].tag := by
  rw [hseen, any_take (by omega)]; simp
 simp only [lbW, tgW, if_neg h8, true_and]
 by_cases hc : (gt t.parts[q].tag).isSome = true
 ·rw [if_pos hc]
  refine ⟨fun e => by omega, fun hh => ?_⟩
  obtain ⟨j, hj, e⟩ := hb.1 hc
  exact absurd e (hh j hj)
 rw [if_neg hc]
 exact ⟨fun _ j hj e => hc (hb.2 ⟨j, hj, e⟩), fun _ => by omega⟩
theorem pa_bad8 {t : Tp} {at_ : Int} {q : Nat} (hq : q < t.parts.length) (h8 : t.kind = 8) (hn : nameB t.parts[q].label = false) : ¬ paOk t at_ q := by
 rintro ⟨_, h1, -⟩
 rw [if_pos h8, hn] at h1
 exact absurd h1.1 (by simp)
theorem pa_badT {t : Tp} {at_ : Int} {q : Nat} (hq : q < t.parts.length) (h8 : ¬ t.kind = 8) (hn : t.parts[q].tag < 0 ∨ 255 < t.parts[q].tag) : ¬ paOk t at_ q := by
 rintro ⟨_, h1, -⟩
 rw [if_neg h8] at h1
 omega
def vaOk (t : Tp) (p : Pa) : Prop := if t.kind = 8 then nameB p.label = true else 0 ≤ p.tag ∧ p.tag ≤ 255
theorem pa_lt {t : Tp} {at_ : Int} {j : Nat} (h : paOk t at_ j) : ∃ hj : j < t.parts.length, t.parts[j].label = lbW t t.parts[j] ∧ t.parts[j].tag = tgW t t.parts[j] := by
 obtain ⟨hj, h1, -⟩ := h
 refine ⟨hj, ?_⟩
 unfold lbW tgW
 by_cases h8 : t.kind = 8
 ·rw [if_pos h8] at h1; simp [h8, h1.2]
 rw [if_neg h8] at h1; simp [h8, h1.1]
theorem pa_iff {t : Tp} {at_ : Int} {q m : Nat} (hno : ∀ k, k < q → paOk t at_ k) (hq : q < t.parts.length) (hv : vaOk t t.parts[q]) (hsn : m = q + 1 ↔ ∀ j (hj : j < q), ¬ (lbW t t.parts[j] = lbW t t.parts[q] ∧ tgW t t.parts[j] = tgW t t.parts[q])) :
  paOk t at_ q ↔ (t.parts[q].label = lbW t t.parts[q] ∧ t.parts[q].tag = tgW t t.parts[q]) ∧ 0 ≤ t.parts[q].ty ∧ t.parts[q].ty < at_ ∧ m = q + 1 := by
 constructor
 ·intro h
  obtain ⟨_, e1, e2⟩ := pa_lt h
  obtain ⟨_, -, h2, h3, h4⟩ := h
  refine ⟨⟨e1, e2⟩, h2, h3, hsn.2 fun j hj hh => h4 j hj ?_⟩
  obtain ⟨_, d1, d2⟩ := pa_lt (hno j hj)
  rw [d1, d2, e1, e2]; exact hh
 rintro ⟨⟨e1, e2⟩, h2, h3, h4⟩
 refine ⟨hq, ?_, h2, h3, fun j hj hh => hsn.1 h4 j hj ?_⟩
 ·unfold vaOk at hv
  unfold lbW at e1
  unfold tgW at e2
  by_cases h8 : t.kind = 8
  ·rw [if_pos h8] at hv e2 ⊢; exact ⟨hv, e2⟩
  rw [if_neg h8] at hv e1 ⊢; exact ⟨e1, hv⟩
 obtain ⟨_, d1, d2⟩ := pa_lt (hno j hj)
 rw [← d1, ← d2, ← e1, ← e2]; exact hh
theorem vaOk_8 {t : Tp} {p : Pa} (h8 : t.kind = 8) (h : nameB p.label = true) : vaOk t p := by unfold vaOk; rw [if_pos h8]; exact h
theorem vaOk_T {t : Tp} {p : Pa} (h8 : ¬ t.kind = 8) (h : 0 ≤ p.tag ∧ p.tag ≤ 255) : vaOk t p := by unfold vaOk; rw [if_neg h8]; exact h
/-- a type that a machine can hold -/
structure TLim (t : Tp) : Prop where
 len : t.parts.length * 32 ≤ 140737488351232
 lb : ∀ p ∈ t.parts, p.label.length ≤ 9223372036854775807
 tg : ∀ p ∈ t.parts, -9223372036854775808 ≤ p.tag ∧ p.tag ≤ 9223372036854775807

set_option maxHeartbeats 4000000 in
theorem tparts_spec (t : Tp) (pv : Value) (at_ most : Int) (w0 : World) (hS00 : Sl w0 3 pv t.parts.length (pas t.parts)) (hl : TLim t) : Ca Try.prog 59 #[.agg (tcell t pv).toArray, .int .i64 at_, .int .i64 most] w0 (fun v w' => v = .bool (partsB t at_ most) ∧ Ext w0 w') := by
 have hlen := hl.len
 refine Ca.of Try.func59 Try.ntmps59 rfl rfl (W.seq (W.region (WL.c rfl (o_boxB rfl ?_))))
 intro w3 hC3 hx3 hs3
 obtain ⟨b3, hb3⟩ : ∃ b, b = w0.heap.size := ⟨_, rfl⟩
 rw [← hb3] at hC3 ⊢
 replace hC3 : w3.heap[b3]? = some (.cells (tcell t pv).toArray 50 (0, 0)) := hC3
 have hx := hx3
 refine WL.c rfl (o_ash vB (WL.nil (W.seq (W.seq (W.region (WL.cut (fun e1 w1 => e1 22 = .bool (!decide (1 ≤ t.parts.length ∧ (t.parts.length : Int) ≤ most)) ∧ e1 1 = .int .i64 at_ ∧ e1 3 = .pointer (some ⟨b3, 0, none⟩) ∧ w1.heap[b3]? = some (.cells (tcell t pv).toArray 50 (0, 0)) ∧ Ext w0 w1) ?_ ?_))))))
 ·-- region 1
  refine WL.c rfl (o_fa 3 TI50 rfl TI48 rfl rfl (WL.c rfl (o_ld TI48 rfl rfl (cell_of hC3 rfl) (WL.c rfl (o_lenR TI48 rfl (hS00.ext hx) (WL.c rfl (o_lt rfl rfl (WL.c rfl (o_mvh vB (WL.sp 4 rfl (fun g16 => ?_) (fun g16 => ?_)))))))))))
  ·skip
   refine WL.s rfl (g16) rfl (WL.s rfl (g16) rfl (WL.s rfl (g16) rfl (WL.s rfl (g16) rfl (WL.s rfl (g16) rfl (WL.c rfl (o_pickT rfl (g16) ?_))))))
   exact WL.nil (⟨congrArg Value.bool (by first | (have := of_decide_eq_true g16; rw [eq_comm]; simp only [Bool.not_eq_true', decide_eq_false_iff_not]; omega) | (have := of_decide_eq_false g16; rw [Bool.eq_iff_iff]; simp only [Bool.or_eq_true, Bool.not_eq_true', decide_eq_false_iff_not, decide_eq_true_eq]; omega)), rfl, rfl, hC3, hx⟩)
  skip
  refine WL.g rfl (g16) rfl (o_fa 3 TI50 rfl TI48 rfl rfl (WL.g rfl (g16) rfl (o_ld TI48 rfl rfl (cell_of hC3 rfl) (WL.g rfl (g16) rfl (o_lenR TI48 rfl (hS00.ext hx) (WL.g rfl (g16) rfl (o_mvh vI (WL.g rfl (g16) rfl (o_gt rfl rfl (WL.c rfl (o_pickO rfl rfl ?_)))))))))))
  exact WL.nil (⟨congrArg Value.bool (by first | (have := of_decide_eq_true g16; rw [eq_comm]; simp only [Bool.not_eq_true', decide_eq_false_iff_not]; omega) | (have := of_decide_eq_false g16; rw [Bool.eq_iff_iff]; simp only [Bool.or_eq_true, Bool.not_eq_true', decide_eq_false_iff_not, decide_eq_true_eq]; omega)), rfl, rfl, hC3, hx⟩)
 rintro e w ⟨h22, h1, h3, hC3, hx⟩
 refine W.cond h22 (fun c22 => ?_) (fun c22 => ?_)
 ·try simp only [cs8] at c22
  refine W.seq (W.region (WL.c rfl (o_ash vB (WL.nil (W.ret (ret1v rfl vB ?_))))))
  exact ⟨congrArg Value.bool (partsB_len c22).symm, hx⟩
 try simp only [cs8] at c22
 refine W.skip (W.seq (W.region (WL.c rfl (o_mkM ?_))))
 have hML := MapN.made Try.prog 9 3 enS w
 have hxm : Ext w (w.alloc (.map #[] 0)) := Only.alloc w _
 obtain ⟨lb, hlb⟩ : ∃ b, b = w.heap.size := ⟨_, rfl⟩
 have hzlb : w0.heap.size ≤ lb := by rw [hlb]; exact hx.size
 rw [← hlb] at hML ⊢
 generalize w.alloc (.map #[] 0) = wm at hML hxm ⊢
 replace hC3 := hxm.blk hC3 (fun h => h)
 replace hx := hx.tr hxm
 have hlw := hML.lt
 refine WL.c rfl (o_mkM ?_)
 have hMT := MapN.made Try.prog 3 3 enI wm
 have hxm : Ext wm (wm.alloc (.map #[] 0)) := Only.alloc wm _
 obtain ⟨tb, htb⟩ : ∃ b, b = wm.heap.size := ⟨_, rfl⟩
 have hztb : w0.heap.size ≤ tb := by rw [htb]; exact hx.size
 rw [← htb] at hMT ⊢
 generalize wm.alloc (.map #[] 0) = wn at hMT hxm ⊢
 replace hC3 := hxm.blk hC3 (fun h => h)
 replace hx := hx.tr hxm
 replace hML := hML.ext hxm
 have hne1 : ¬ tb = lb := by omega
 have hne2 : ¬ lb = tb := by omega
 refine WL.c rfl (o_as (WL.c rfl (o_as (WL.nil (W.seq (W.seq (W.region (WL.c rfl (o_fa 3 TI50 rfl TI48 rfl h3 (WL.c rfl (o_ld TI48 rfl rfl (cell_of hC3 rfl) (WL.c rfl (o_lenR TI48 rfl (hS00.ext hx) (WL.c rfl (o_mvh vI (WL.nil (W.block (W.loop (fun e w => ∃ (q nl nt : Nat) (gl : List UInt8 → Option Int) (gt : Int → Option Int), q ≤ t.parts.length ∧ e 1 = .int .i64 at_ ∧ e 3 = .pointer (some ⟨b3, 0, none⟩) ∧ e 7 = .map (some lb) ∧ e 8 = .map (some tb) ∧ e 26 = pv ∧ e 27 = .int .i64 (t.parts.length : Int) ∧ e 28 = .int .i64 (q : Int) ∧ (∀ k, k < q → paOk t at_ k) ∧ w.heap[b3]? = some (.cells (tcell t pv).toArray 50 (0, 0)) ∧ MapN Try.prog 9 3 enS w lb nl gl ∧ MapN Try.prog 3 3 enI w tb nt gt ∧ PMap t q nl nt gl gt ∧ nl + nt = q ∧ Ext w0 w) (fun e w => t.parts.length - (intOf (e 28)).toNat) ?_ ?_))))))))))))))))))
 ·exact ⟨0, 0, 0, fun _ => none, fun _ => none, Nat.zero_le _, h1, h3, rfl, rfl, rfl, rfl, rfl, fun k hk => by omega, hC3, hML, hMT, PMap.zero t, rfl, hx⟩
 rintro e w ⟨q, nl, nt, gl, gt, hq, h1, h3, h7, h8, h26, h27, h28, hno, hC3, hML, hMT, hPM, hsum, hx⟩
 have hm28 := h28
 refine W.seq (W.region (WL.c rfl (o_lt h28 h27 (WL.nil (W.seq (W.cond rfl (fun c29 => ?_) (fun c29 => ?_)))))))
 ·try simp only [cs8] at c29
  have hq1 : q < t.parts.length := by omega
  obtain ⟨ub, uo, uc, hpv, huc⟩ := Sl.paq (hS00.ext hx) hq1
  rw [hpv] at h26
  obtain ⟨p, hp⟩ : ∃ p, p = t.parts[q] := ⟨_, rfl⟩
  rw [← hp] at huc
  have hlbl : p.label.length ≤ 9223372036854775807 := by rw [hp]; exact hl.lb _ (List.getElem_mem hq1)
  have htgl : -9223372036854775808 ≤ p.tag ∧ p.tag ≤ 9223372036854775807 := by rw [hp]; exact hl.tg _ (List.getElem_mem hq1)
  have hle := hPM.le
  refine W.skip (W.seq (W.block (W.seq (W.region (WL.c rfl (o_mvh h28 (WL.c rfl (o_ixB (i := q) TI48 TI52 h26 h28 (by omega) (WL.c rfl (o_ldA TI52 rfl rfl huc rfl (WL.c rfl (o_alB TI52 ?_))))))))))))
  intro wa hCa hxa hsa
  refine WL.c rfl (o_ash vI (WL.u (o_stA TI52 rfl (show _ = Value.agg (paV p).toArray from rfl) rfl rfl hCa rfl ?_)))
  intro wb10 hC10 hob hsb
  have hxb := Ext.own hxa (Nat.le_refl _) hob
  obtain ⟨b10, hb10⟩ : ∃ b, b = w.heap.size := ⟨_, rfl⟩
  rw [← hb10] at hC10 ⊢
  clear hCa hxa hsa hob hsb
  replace hx := hx.tr hxb
  replace hML := hML.ext hxb
  replace hMT := hMT.ext hxb
  replace hC3 := hxb.blk hC3 (fun h => h)
  clear hxb
  refine WL.nil (W.seq (W.region (WL.c rfl (o_fa 2 TI52 rfl TI3 rfl rfl (WL.c rfl (o_ld TI3 rfl rfl (cell_of hC10 rfl) (WL.c rfl (o_bldC (cs := [(.string ⟨#[]⟩), (.int .i64 0), _]) TI52 (Sizes.cons TI9 (Sizes.cons TI3 (Sizes.cons TI3 Sizes.nil))) rfl (lcp vI lnp) rfl rfl (WL.c rfl (o_alB TI52 ?_))))))))))
  intro wa hCa hxa hsa
  refine WL.u (o_stA TI52 rfl (show _ = Value.agg ([st [], .int .i64 0, .int .i64 p.ty]).toArray from rfl) rfl rfl hCa rfl ?_)
  intro wb11 hC11 hob hsb
  have hxb := Ext.own hxa (Nat.le_refl _) hob
  obtain ⟨b11, hb11⟩ : ∃ b, b = wb10.heap.size := ⟨_, rfl⟩
  rw [← hb11] at hC11 ⊢
  clear hCa hxa hsa hob hsb
  have hne : ¬ b10 = b11 := by have := blk_lt3 hC10; omega
  have hz11 : w0.heap.size ≤ b11 := by rw [hb11]; exact hx.size
  replace hx := hx.tr hxb
  replace hML := hML.ext hxb
  replace hMT := hMT.ext hxb
  replace hC3 := hxb.blk hC3 (fun h => h)
  replace hC10 := hxb.blk hC10 (fun h => h)
  clear hxb
  refine WL.nil (W.seq (W.seq (W.region (WL.c rfl (o_fa 0 TI50 rfl TI3 rfl h3 (WL.c rfl (o_ld TI3 rfl rfl (cell_of hC3 rfl) (WL.c rfl (o_eq rfl rfl (WL.nil (W.cut (fun e1 w1 => ∃ (nl2 nt2 : Nat) (gl2 : List UInt8 → Option Int) (gt2 : Int → Option Int), e1 1 = .int .i64 at_ ∧ e1 3 = .pointer (some ⟨b3, 0, none⟩) ∧ e1 7 = .map (some lb) ∧ e1 8 = .map (some tb) ∧ e1 9 = .int .i64 (q : Int) ∧ e1 10 = .pointer (some ⟨b10, 0, none⟩) ∧ e1 11 = .pointer (some ⟨b11, 0, none⟩) ∧ e1 26 = (.slice (some ⟨ub, uo, none⟩) t.parts.length uc) ∧ e1 27 = .int .i64 (t.parts.length : Int) ∧ e1 28 = .int .i64 (q : Int) ∧ w1.heap[b3]? = some (.cells (tcell t pv).toArray 50 (0, 0)) ∧ w1.heap[b10]? = some (.cells (paV p).toArray 52 (0, 0)) ∧ w1.heap[b11]? = some (.cells #[st (lbW t p), .int .i64 (tgW t p), .int .i64 p.ty] 52 (0, 0)) ∧ MapN Try.prog 9 3 enS w1 lb nl2 gl2 ∧ MapN Try.prog 3 3 enI w1 tb nt2 gt2 ∧ PMap t (q + 1) nl2 nt2 gl2 gt2 ∧ (nl2 + nt2 = q + 1 ↔ ∀ j (hj : j < q), ¬ (lbW t t.parts[j] = lbW t p ∧ tgW t t.parts[j] = tgW t p)) ∧ vaOk t p ∧ Ext w0 w1) ?_ ?_)))))))))))
  ·-- both ways
   refine W.cond rfl (fun c38 => ?_) (fun c38 => ?_)
   ·try simp only [cs8] at c38
    have hk8 : t.kind = 8 := by simpa using c38
    refine W.seq (W.region (WL.c rfl (o_fa 0 TI52 rfl TI9 rfl rfl (WL.c rfl (o_ld TI9 rfl rfl (cell_of hC10 rfl) (WL.c rfl (o_fa 0 TI52 rfl TI9 rfl rfl (WL.u (o_stB TI9 rfl (show _ = st p.label from rfl) rfl hC11 (show 0 < 3 by decide) ?_)))))))))
    intro wst hC11n ho hs41
    have hC11n0 := hC11n
    replace hC10 := ho.blk hC10 hne
    replace hC3 := ho.blk hC3 (blk_ne3 hC3 hC11 (by decide))
    replace hML := hML.only ho (fun e => map_blk_ne hML.is hC11 e.symm)
    replace hMT := hMT.only ho (fun e => map_blk_ne hMT.is hC11 e.symm)
    replace hx := hx.trans' ho (fun _ h => h) (fun b hb e => by omega)
    replace hC11 : wst.heap[b11]? = some (.cells #[st (lbW t p), .int .i64 (tgW t p), .int .i64 p.ty] 52 (0, 0)) := by simp only [lbW, tgW, if_pos hk8]; exact hC11n
    refine WL.nil (W.seq (W.region (WL.c rfl (o_mvh h7 (WL.c rfl (o_fa 0 TI52 rfl TI9 rfl rfl (WL.c rfl (o_ld TI9 rfl rfl (cell_of hC10 rfl) (WL.c rfl (o_mvh vI (WL.u (o_muN enS_inj MT88 rfl hML rfl (keyS Try.underlying9 (by rw [maxLen_eq]; omega)) rfl (wf_i64 (by omega)) (by rw [maxLen_eq]; omega) ?_))))))))))))
    intro wq hMq hoq hsq
    replace hC10 := hoq.blk hC10 (map_blk_ne hML.is hC10)
    replace hC11 := hoq.blk hC11 (map_blk_ne hML.is hC11)
    replace hC3 := hoq.blk hC3 (map_blk_ne hML.is hC3)
    replace hMT := hMT.only hoq hne1
    replace hx := hx.trans' hoq (fun _ h => h) (fun b hb e => by omega)
    obtain ⟨hPM2, hcnt⟩ := hPM.step8 hq1 hk8 hsum (q : Int)
    rw [← hp] at hPM2 hcnt
    replace hML := hMq
    refine WL.nil (W.seq (W.region (WL.c rfl (o_fa 0 TI52 rfl TI9 rfl rfl (WL.c rfl (o_ld TI9 rfl rfl (cell_of hC10 rfl) (WL.c rfl (o_call Try.call34 (lc rfl ln) ((name_spec p.label _ hlbl).mono ?_)))))))))
    rintro v48 w48 ⟨rfl, rfl⟩
    refine WL.c rfl (o_not' rfl (WL.nil (W.cond rfl (fun c49 => ?_) (fun c49 => ?_))))
    ·try simp only [cs8] at c49
     have hnm : nameB p.label = false := by simpa using c49
     refine W.seq (W.region (WL.c rfl (o_ash vB (WL.nil (W.ret (ret1v rfl vB ?_))))))
     exact ⟨congrArg Value.bool (partsB_no hq1 (pa_bad8 hq1 hk8 (hp ▸ hnm))).symm, hx⟩
    try simp only [cs8] at c49
    have hnm : nameB p.label = true := by simpa using c49
    have hval : vaOk t p := vaOk_8 hk8 hnm
    refine W.skip ?_
    exact ⟨_, _, _, _, h1, h3, h7, h8, rfl, rfl, rfl, h26, h27, h28, hC3, hC10, hC11, hML, hMT, hPM2, hcnt, hval, hx⟩
   try simp only [cs8] at c38
   have hk8 : ¬ t.kind = 8 := by simpa using c38
   refine W.seq (W.region (WL.c rfl (o_fa 1 TI52 rfl TI3 rfl rfl (WL.c rfl (o_ld TI3 rfl rfl (cell_of hC10 rfl) (WL.c rfl (o_fa 1 TI52 rfl TI3 rfl rfl (WL.u (o_stB TI3 rfl (show _ = Value.int .i64 p.tag from rfl) rfl hC11 (show 1 < 3 by decide) ?_)))))))))
   intro wst hC11n ho hs41
   have hC11n0 := hC11n
   replace hC10 := ho.blk hC10 hne
   replace hC3 := ho.blk hC3 (blk_ne3 hC3 hC11 (by decide))
   replace hML := hML.only ho (fun e => map_blk_ne hML.is hC11 e.symm)
   replace hMT := hMT.only ho (fun e => map_blk_ne hMT.is hC11 e.symm)
   replace hx := hx.trans' ho (fun _ h => h) (fun b hb e => by omega)
   replace hC11 : wst.heap[b11]? = some (.cells #[st (lbW t p), .int .i64 (tgW t p), .int .i64 p.ty] 52 (0, 0)) := by simp only [lbW, tgW, if_neg hk8]; exact hC11n
   refine WL.nil (W.seq (W.region (WL.c rfl (o_mvh h8 (WL.c rfl (o_fa 1 TI52 rfl TI3 rfl rfl (WL.c rfl (o_ld TI3 rfl rfl (cell_of hC10 rfl) (WL.c rfl (o_mvh vI (WL.u (o_muN enI_inj MT141 rfl hMT rfl (keyI Try.underlying3 (by omega)) rfl (wf_i64 (by omega)) (by rw [maxLen_eq]; omega) ?_))))))))))))
   intro wq hMq hoq hsq
   replace hC10 := hoq.blk hC10 (map_blk_ne hMT.is hC10)
   replace hC11 := hoq.blk hC11 (map_blk_ne hMT.is hC11)
   replace hC3 := hoq.blk hC3 (map_blk_ne hMT.is hC3)
   replace hML := hML.only hoq hne2
   replace hx := hx.trans' hoq (fun _ h => h) (fun b hb e => by omega)
   obtain ⟨hPM2, hcnt⟩ := hPM.stepT hq1 hk8 hsum (q : Int)
   rw [← hp] at hPM2 hcnt
   replace hMT := hMq
   refine WL.nil (W.seq ?_)
   by_cases hneg : p.tag < 0
   ·skip
    have hbt : p.tag < 0 ∨ 255 < p.tag := .inl hneg
    refine W.region (WL.c rfl (o_fa 1 TI52 rfl TI3 rfl rfl (WL.c rfl (o_ld TI3 rfl rfl (cell_of hC10 rfl) (WL.c rfl (o_lt rfl rfl (WL.c rfl (o_mvh vB (WL.s rfl (by simp [hneg]) rfl (WL.s rfl (by simp [hneg]) rfl (WL.s rfl (by simp [hneg]) rfl (WL.c rfl (o_pickT rfl (by simp [hneg]) (WL.nil (W.condT' rfl (rfl) (W.seq (W.region (WL.c rfl (o_ash vB (WL.nil (W.ret (ret1v rfl vB ?_))))))))))))))))))))))
    exact ⟨congrArg Value.bool (partsB_no hq1 (pa_badT hq1 hk8 (hp ▸ hbt))).symm, hx⟩
   skip
   refine W.region (WL.c rfl (o_fa 1 TI52 rfl TI3 rfl rfl (WL.c rfl (o_ld TI3 rfl rfl (cell_of hC10 rfl) (WL.c rfl (o_lt rfl rfl (WL.c rfl (o_mvh vB (WL.g rfl (by simp [hneg]) rfl (o_fa 1 TI52 rfl TI3 rfl rfl (WL.g rfl (by simp [hneg]) rfl (o_ld TI3 rfl rfl (cell_of hC10 rfl) (WL.g rfl (by simp [hneg]) rfl (o_gt rfl rfl (WL.c rfl (o_pickO rfl rfl (WL.nil (W.cond rfl (fun c64 => ?_) (fun c64 => ?_)))))))))))))))))))
   ·try simp only [cs8] at c64
    have hbt : p.tag < 0 ∨ 255 < p.tag := c64
    refine W.seq (W.region (WL.c rfl (o_ash vB (WL.nil (W.ret (ret1v rfl vB ?_))))))
    exact ⟨congrArg Value.bool (partsB_no hq1 (pa_badT hq1 hk8 (hp ▸ hbt))).symm, hx⟩
   try simp only [cs8] at c64
   have hval : vaOk t p := vaOk_T hk8 ⟨by omega, by omega⟩
   refine W.skip ?_
   exact ⟨_, _, _, _, h1, h3, h7, h8, rfl, rfl, rfl, h26, h27, h28, hC3, hC10, hC11, hML, hMT, hPM2, hcnt, hval, hx⟩
  rintro e w ⟨nl2, nt2, gl2, gt2, h1, h3, h7, h8, h9, h10, h11, h26, h27, h28, hC3, hC10, hC11, hML, hMT, hPM, hcnt, hval, hx⟩
  refine W.seq ?_
  have hle2 := hPM.le
  by_cases hA : p.label = lbW t p ∧ p.tag = tgW t p
  by_cases hB : 0 ≤ p.ty
  by_cases hC : p.ty < at_
  by_cases hD : nl2 + nt2 = q + 1
  ·skip
   refine W.region (WL.c rfl (o_ldA TI52 rfl h10 (show Cells _ b10 0 (paV p) from Cells.of hC10 0 _ (by simp)) rfl (WL.c rfl (o_ldA TI52 rfl h11 (show Cells _ b11 0 [st (lbW t p), .int .i64 (tgW t p), .int .i64 p.ty] from Cells.of hC11 0 _ (by simp)) rfl (WL.c rfl (o_neR TI52 (by kernel_rfl) (by kernel_rfl) rfl rfl (.str TI9 (by decide) rfl rfl (.int TI3 (by decide) rfl rfl (.int TI3 (by decide) rfl rfl .nil))) (WL.c rfl (o_mvh vB (WL.g rfl (by simpa using hA) rfl (o_fa 2 TI52 rfl TI3 rfl h10 (WL.g rfl (by simpa using hA) rfl (o_ld TI3 rfl rfl (cell_of hC10 rfl) (WL.g rfl (by simpa using hA) rfl (o_lt rfl rfl (WL.c rfl (o_pickO rfl rfl (WL.c rfl (o_mvh vB (WL.g rfl (by simp; exact ⟨hA, hB⟩) rfl (o_fa 2 TI52 rfl TI3 rfl h10 (WL.g rfl (by simp; exact ⟨hA, hB⟩) rfl (o_ld TI3 rfl rfl (cell_of hC10 rfl) (WL.g rfl (by simp; exact ⟨hA, hB⟩) rfl (o_mvh h1 (WL.g rfl (by simp; exact ⟨hA, hB⟩) rfl (o_ge rfl rfl (WL.c rfl (o_pickO rfl rfl (WL.c rfl (o_mvh vB (WL.g rfl (by simp; exact ⟨⟨hA, hB⟩, hC⟩) rfl (o_mvh h7 (WL.g rfl (by simp; exact ⟨⟨hA, hB⟩, hC⟩) rfl (o_lenM Try.underlying88 rfl hML (WL.g rfl (by simp; exact ⟨⟨hA, hB⟩, hC⟩) rfl (o_mvh h8 (WL.g rfl (by simp; exact ⟨⟨hA, hB⟩, hC⟩) rfl (o_lenM Try.underlying141 rfl hMT (WL.g rfl (by simp; exact ⟨⟨hA, hB⟩, hC⟩) rfl (o_addi rfl rfl (by omega) (WL.g rfl (by simp; exact ⟨⟨hA, hB⟩, hC⟩) rfl (o_mvh h9 (WL.g rfl (by simp; exact ⟨⟨hA, hB⟩, hC⟩) rfl (o_addi rfl rfl (by omega) (WL.g rfl (by simp; exact ⟨⟨hA, hB⟩, hC⟩) rfl (o_ne rfl rfl (WL.c rfl (o_pickO rfl rfl (WL.nil (W.condF' rfl (by simp; exact ⟨⟨⟨hA, hB⟩, hC⟩, by omega⟩) (W.skip (W.region (WL.c rfl (o_addi h28 rfl (by omega) (WL.c rfl (o_mvh vI (WL.nil (⟨⟨q + 1, nl2, nt2, gl2, gt2, by omega, h1, h3, h7, h8, h26.trans hpv.symm, h27, rfl, fun k hk => ?_, hC3, hML, hMT, hPM, by omega, hx⟩, ?_⟩))))))))))))))))))))))))))))))))))))))))))))))))))))))))))
   ·rcases Nat.lt_or_ge k q with h | h
    ·exact hno k h
    rw [show k = q by omega]
    exact (pa_iff hno hq1 (hp ▸ hval) (hp ▸ hcnt)).2 ⟨hp ▸ hA, hp ▸ hB, hp ▸ hC, by omega⟩
   show t.parts.length - ((q : Int) + 1).toNat < _
   rw [hm28]; simp [intOf]; omega
  ·skip
   have hbad : ¬ paOk t at_ q := fun hh => by
    have h4 := ((pa_iff hno hq1 (hp ▸ hval) (hp ▸ hcnt)).1 hh).2.2.2
    omega
   refine W.region (WL.c rfl (o_ldA TI52 rfl h10 (show Cells _ b10 0 (paV p) from Cells.of hC10 0 _ (by simp)) rfl (WL.c rfl (o_ldA TI52 rfl h11 (show Cells _ b11 0 [st (lbW t p), .int .i64 (tgW t p), .int .i64 p.ty] from Cells.of hC11 0 _ (by simp)) rfl (WL.c rfl (o_neR TI52 (by kernel_rfl) (by kernel_rfl) rfl rfl (.str TI9 (by decide) rfl rfl (.int TI3 (by decide) rfl rfl (.int TI3 (by decide) rfl rfl .nil))) (WL.c rfl (o_mvh vB (WL.g rfl (by simpa using hA) rfl (o_fa 2 TI52 rfl TI3 rfl h10 (WL.g rfl (by simpa using hA) rfl (o_ld TI3 rfl rfl (cell_of hC10 rfl) (WL.g rfl (by simpa using hA) rfl (o_lt rfl rfl (WL.c rfl (o_pickO rfl rfl (WL.c rfl (o_mvh vB (WL.g rfl (by simp; exact ⟨hA, hB⟩) rfl (o_fa 2 TI52 rfl TI3 rfl h10 (WL.g rfl (by simp; exact ⟨hA, hB⟩) rfl (o_ld TI3 rfl rfl (cell_of hC10 rfl) (WL.g rfl (by simp; exact ⟨hA, hB⟩) rfl (o_mvh h1 (WL.g rfl (by simp; exact ⟨hA, hB⟩) rfl (o_ge rfl rfl (WL.c rfl (o_pickO rfl rfl (WL.c rfl (o_mvh vB (WL.g rfl (by simp; exact ⟨⟨hA, hB⟩, hC⟩) rfl (o_mvh h7 (WL.g rfl (by simp; exact ⟨⟨hA, hB⟩, hC⟩) rfl (o_lenM Try.underlying88 rfl hML (WL.g rfl (by simp; exact ⟨⟨hA, hB⟩, hC⟩) rfl (o_mvh h8 (WL.g rfl (by simp; exact ⟨⟨hA, hB⟩, hC⟩) rfl (o_lenM Try.underlying141 rfl hMT (WL.g rfl (by simp; exact ⟨⟨hA, hB⟩, hC⟩) rfl (o_addi rfl rfl (by omega) (WL.g rfl (by simp; exact ⟨⟨hA, hB⟩, hC⟩) rfl (o_mvh h9 (WL.g rfl (by simp; exact ⟨⟨hA, hB⟩, hC⟩) rfl (o_addi rfl rfl (by omega) (WL.g rfl (by simp; exact ⟨⟨hA, hB⟩, hC⟩) rfl (o_ne rfl rfl (WL.c rfl (o_pickO rfl rfl (WL.nil (W.condT' rfl (by simp only [Bool.or_eq_true, Bool.not_eq_true', decide_eq_false_iff_not]; right; omega) (W.seq (W.region (WL.c rfl (o_ash vB (WL.nil (W.ret (ret1v rfl vB ?_)))))))))))))))))))))))))))))))))))))))))))))))))))))))))
   exact ⟨congrArg Value.bool (partsB_no hq1 hbad).symm, hx⟩
  ·skip
   have hbad : ¬ paOk t at_ q := fun hh => by
    have h4 := ((pa_iff hno hq1 (hp ▸ hval) (hp ▸ hcnt)).1 hh).2.2.1
    rw [← hp] at h4; exact hC h4
   refine W.region (WL.c rfl (o_ldA TI52 rfl h10 (show Cells _ b10 0 (paV p) from Cells.of hC10 0 _ (by simp)) rfl (WL.c rfl (o_ldA TI52 rfl h11 (show Cells _ b11 0 [st (lbW t p), .int .i64 (tgW t p), .int .i64 p.ty] from Cells.of hC11 0 _ (by simp)) rfl (WL.c rfl (o_neR TI52 (by kernel_rfl) (by kernel_rfl) rfl rfl (.str TI9 (by decide) rfl rfl (.int TI3 (by decide) rfl rfl (.int TI3 (by decide) rfl rfl .nil))) (WL.c rfl (o_mvh vB (WL.g rfl (by simpa using hA) rfl (o_fa 2 TI52 rfl TI3 rfl h10 (WL.g rfl (by simpa using hA) rfl (o_ld TI3 rfl rfl (cell_of hC10 rfl) (WL.g rfl (by simpa using hA) rfl (o_lt rfl rfl (WL.c rfl (o_pickO rfl rfl (WL.c rfl (o_mvh vB (WL.g rfl (by simp; exact ⟨hA, hB⟩) rfl (o_fa 2 TI52 rfl TI3 rfl h10 (WL.g rfl (by simp; exact ⟨hA, hB⟩) rfl (o_ld TI3 rfl rfl (cell_of hC10 rfl) (WL.g rfl (by simp; exact ⟨hA, hB⟩) rfl (o_mvh h1 (WL.g rfl (by simp; exact ⟨hA, hB⟩) rfl (o_ge rfl rfl (WL.c rfl (o_pickO rfl rfl (WL.c rfl (o_mvh vB (WL.s rfl (by rw [decide_eq_true (show at_ ≤ p.ty by omega)]; simp) rfl (WL.s rfl (by rw [decide_eq_true (show at_ ≤ p.ty by omega)]; simp) rfl (WL.s rfl (by rw [decide_eq_true (show at_ ≤ p.ty by omega)]; simp) rfl (WL.s rfl (by rw [decide_eq_true (show at_ ≤ p.ty by omega)]; simp) rfl (WL.s rfl (by rw [decide_eq_true (show at_ ≤ p.ty by omega)]; simp) rfl (WL.s rfl (by rw [decide_eq_true (show at_ ≤ p.ty by omega)]; simp) rfl (WL.s rfl (by rw [decide_eq_true (show at_ ≤ p.ty by omega)]; simp) rfl (WL.s rfl (by rw [decide_eq_true (show at_ ≤ p.ty by omega)]; simp) rfl (WL.c rfl (o_pickT rfl (by rw [decide_eq_true (show at_ ≤ p.ty by omega)]; simp) (WL.nil (W.condT' rfl (rfl) (W.seq (W.region (WL.c rfl (o_ash vB (WL.nil (W.ret (ret1v rfl vB ?_)))))))))))))))))))))))))))))))))))))))))))))))))
   exact ⟨congrArg Value.bool (partsB_no hq1 hbad).symm, hx⟩
  ·skip
   have hbad : ¬ paOk t at_ q := fun hh => by
    have h4 := ((pa_iff hno hq1 (hp ▸ hval) (hp ▸ hcnt)).1 hh).2.1
    rw [← hp] at h4; exact hB h4
   refine W.region (WL.c rfl (o_ldA TI52 rfl h10 (show Cells _ b10 0 (paV p) from Cells.of hC10 0 _ (by simp)) rfl (WL.c rfl (o_ldA TI52 rfl h11 (show Cells _ b11 0 [st (lbW t p), .int .i64 (tgW t p), .int .i64 p.ty] from Cells.of hC11 0 _ (by simp)) rfl (WL.c rfl (o_neR TI52 (by kernel_rfl) (by kernel_rfl) rfl rfl (.str TI9 (by decide) rfl rfl (.int TI3 (by decide) rfl rfl (.int TI3 (by decide) rfl rfl .nil))) (WL.c rfl (o_mvh vB (WL.g rfl (by simpa using hA) rfl (o_fa 2 TI52 rfl TI3 rfl h10 (WL.g rfl (by simpa using hA) rfl (o_ld TI3 rfl rfl (cell_of hC10 rfl) (WL.g rfl (by simpa using hA) rfl (o_lt rfl rfl (WL.c rfl (o_pickO rfl rfl (WL.c rfl (o_mvh vB (WL.s rfl (by rw [decide_eq_true (show p.ty < 0 by omega)]; simp) rfl (WL.s rfl (by rw [decide_eq_true (show p.ty < 0 by omega)]; simp) rfl (WL.s rfl (by rw [decide_eq_true (show p.ty < 0 by omega)]; simp) rfl (WL.s rfl (by rw [decide_eq_true (show p.ty < 0 by omega)]; simp) rfl (WL.c rfl (o_pickT rfl (by rw [decide_eq_true (show p.ty < 0 by omega)]; simp) (WL.c rfl (o_mvh vB (WL.s rfl (rfl) rfl (WL.s rfl (rfl) rfl (WL.s rfl (rfl) rfl (WL.s rfl (rfl) rfl (WL.s rfl (rfl) rfl (WL.s rfl (rfl) rfl (WL.s rfl (rfl) rfl (WL.s rfl (rfl) rfl (WL.c rfl (o_pickT rfl (rfl) (WL.nil (W.condT' rfl (rfl) (W.seq (W.region (WL.c rfl (o_ash vB (WL.nil (W.ret (ret1v rfl vB ?_)))))))))))))))))))))))))))))))))))))))))))))
   exact ⟨congrArg Value.bool (partsB_no hq1 hbad).symm, hx⟩
  skip
  have hbad : ¬ paOk t at_ q := fun hh => by
   have h4 := ((pa_iff hno hq1 (hp ▸ hval) (hp ▸ hcnt)).1 hh).1
   rw [← hp] at h4; exact hA h4
  refine W.region (WL.c rfl (o_ldA TI52 rfl h10 (show Cells _ b10 0 (paV p) from Cells.of hC10 0 _ (by simp)) rfl (WL.c rfl (o_ldA TI52 rfl h11 (show Cells _ b11 0 [st (lbW t p), .int .i64 (tgW t p), .int .i64 p.ty] from Cells.of hC11 0 _ (by simp)) rfl (WL.c rfl (o_neR TI52 (by kernel_rfl) (by kernel_rfl) rfl rfl (.str TI9 (by decide) rfl rfl (.int TI3 (by decide) rfl rfl (.int TI3 (by decide) rfl rfl .nil))) (WL.c rfl (o_mvh vB (WL.s rfl (by first | (simp; exact fun h1 h2 => hA ⟨h1, h2⟩) | (simp; exact Classical.not_and_iff_not_or_not.1 hA)) rfl (WL.s rfl (by first | (simp; exact fun h1 h2 => hA ⟨h1, h2⟩) | (simp; exact Classical.not_and_iff_not_or_not.1 hA)) rfl (WL.s rfl (by first | (simp; exact fun h1 h2 => hA ⟨h1, h2⟩) | (simp; exact Classical.not_and_iff_not_or_not.1 hA)) rfl (WL.c rfl (o_pickT rfl (by first | (simp; exact fun h1 h2 => hA ⟨h1, h2⟩) | (simp; exact Classical.not_and_iff_not_or_not.1 hA)) (WL.c rfl (o_mvh vB (WL.s rfl (rfl) rfl (WL.s rfl (rfl) rfl (WL.s rfl (rfl) rfl (WL.s rfl (rfl) rfl (WL.c rfl (o_pickT rfl (rfl) (WL.c rfl (o_mvh vB (WL.s rfl (rfl) rfl (WL.s rfl (rfl) rfl (WL.s rfl (rfl) rfl (WL.s rfl (rfl) rfl (WL.s rfl (rfl) rfl (WL.s rfl (rfl) rfl (WL.s rfl (rfl) rfl (WL.s rfl (rfl) rfl (WL.c rfl (o_pickT rfl (rfl) (WL.nil (W.condT' rfl (rfl) (W.seq (W.region (WL.c rfl (o_ash vB (WL.nil (W.ret (ret1v rfl vB ?_))))))))))))))))))))))))))))))))))))))))))
  exact ⟨congrArg Value.bool (partsB_no hq1 hbad).symm, hx⟩
 try simp only [cs8] at c29
 have hq1 : q = t.parts.length := by omega
 rw [hq1] at hno
 refine W.exit (W.seq (W.region (WL.c rfl (o_ash vB (WL.nil (W.ret (ret1v rfl vB ?_)))))))
 exact ⟨congrArg Value.bool (partsB_yes c22 hno).symm, hx⟩
end Go.Proofs.Ytpbflfgigfdohaa

namespace Go.Proofs.Ytpbflfgigfdohaa
open Go Go.Vc Go.RowKit Go.Proofs

open Classical in
noncomputable def tpB (t : Tp) (at_ : Int) : Bool := decide (tpOk t at_)
theorem tpB_no {t : Tp} {at_ : Int} (h : ¬ tpOk t at_) : tpB t at_ = false := by unfold tpB; simp only [decide_eq_false_iff_not]; exact h
theorem tpB_iff {t : Tp} {at_ : Int} : tpB t at_ = true ↔ tpOk t at_ := by unfold tpB; simp only [decide_eq_true_eq]
theorem partsB_iff {t : Tp} {at_ : Int} : partsB t at_ 64 = true ↔ partsOk t at_ := by
 unfold partsB partsOk
 simp only [decide_eq_true_eq]
 constructor
 ·rintro ⟨h1, h2, h3⟩; exact ⟨h1, by omega, h3⟩
 rintro ⟨h1, h2, h3⟩; exact ⟨h1, by omega, h3⟩
theorem len0 {t : Tp} : ((t.parts.length : Nat) : Int) = 0 ↔ t.parts = [] := by
 rw [show ((t.parts.length : Nat) : Int) = 0 ↔ t.parts.length = 0 by omega]; exact List.length_eq_zero_iff
theorem tpB_123 {t : Tp} {at_ : Int} (hk : t.kind = 1 ∨ t.kind = 2 ∨ t.kind = 3) (hn : numOk t.kind t.n) : tpB t at_ = (decide (t.elem = 0) && decide (((t.parts.length : Nat) : Int) = 0)) := by
 rw [Bool.eq_iff_iff, tpB_iff, Bool.and_eq_true, decide_eq_true_eq, decide_eq_true_eq, len0, tpOk, if_pos hk]
 exact ⟨fun h => h.2, fun h => ⟨hn, h⟩⟩
theorem tpB_456 {t : Tp} {at_ : Int} (hk : t.kind = 4 ∨ t.kind = 5 ∨ t.kind = 6) (hn : numOk t.kind t.n) : tpB t at_ = (decide (0 ≤ t.elem ∧ t.elem < at_) && decide (((t.parts.length : Nat) : Int) = 0)) := by
 rw [Bool.eq_iff_iff, tpB_iff, Bool.and_eq_true, decide_eq_true_eq, decide_eq_true_eq, len0, tpOk, if_neg (by omega), if_pos hk]
 exact ⟨fun h => ⟨⟨h.2.1, h.2.2.1⟩, h.2.2.2⟩, fun h => ⟨hn, h.1.1, h.1.2, h.2⟩⟩
theorem tpB_78 {t : Tp} {at_ : Int} (hk : t.kind = 7 ∨ t.kind = 8) (hn : numOk t.kind t.n) : tpB t at_ = (decide (t.elem = 0) && partsB t at_ 64) := by
 rw [Bool.eq_iff_iff, tpB_iff, Bool.and_eq_true, decide_eq_true_eq, partsB_iff, tpOk, if_neg (by omega), if_neg (by omega)]
 exact ⟨fun h => ⟨h.2.2.1, h.2.2.2⟩, fun h => ⟨hn, hk, h⟩⟩
theorem tpB_else {t : Tp} {at_ : Int} (h : ¬ (t.kind = 1 ∨ t.kind = 2 ∨ t.kind = 3) ∧ ¬ (t.kind = 4 ∨ t.kind = 5 ∨ t.kind = 6) ∧ ¬ (t.kind = 7 ∨ t.kind = 8)) : tpB t at_ = false := by
 refine tpB_no fun hh => ?_
 rw [tpOk, if_neg h.1, if_neg h.2.1] at hh
 exact h.2.2 hh.2.1

set_option maxHeartbeats 4000000 in
theorem tright_spec (t : Tp) (pv : Value) (at_ : Int) (w0 : World) (hS00 : Sl w0 3 pv t.parts.length (pas t.parts)) (hl : TLim t) : Ca Try.prog 32 #[.agg (tcell t pv).toArray, .int .i64 at_] w0 (fun v w' => v = .bool (tpB t at_) ∧ Ext w0 w') := by
 refine Ca.of Try.func32 Try.ntmps32 rfl rfl (W.seq (W.region (WL.c rfl (o_boxB rfl ?_))))
 intro w2 hC2 hx2 hs2
 obtain ⟨b2, hb2⟩ : ∃ b, b = w0.heap.size := ⟨_, rfl⟩
 rw [← hb2] at hC2 ⊢
 replace hC2 : w2.heap[b2]? = some (.cells (tcell t pv).toArray 50 (0, 0)) := hC2
 have hx := hx2
 refine WL.c rfl (o_ash vB (WL.nil (W.seq (W.seq (W.region (WL.c rfl (o_fa 0 TI50 rfl TI3 rfl rfl (WL.c rfl (o_ld TI3 rfl rfl (cell_of hC2 rfl) (WL.c rfl (o_fa 1 TI50 rfl TI3 rfl rfl (WL.c rfl (o_ld TI3 rfl rfl (cell_of hC2 rfl) (WL.c rfl (o_call Try.call58 (lc rfl (lc rfl ln)) ((tnumber_spec t.kind t.n _).mono ?_))))))))))))))))
 rintro v10 w10 ⟨rfl, rfl⟩
 refine WL.c rfl (o_not' rfl (WL.nil (W.cond rfl (fun c11 => ?_) (fun c11 => ?_))))
 ·try simp only [cs8] at c11
  have hnk : ¬ numOk t.kind t.n := by simpa using c11
  refine W.seq (W.region (WL.c rfl (o_ash vB (WL.nil (W.ret (ret1v rfl vB ?_))))))
  exact ⟨congrArg Value.bool (tpB_no (fun h => hnk h.1)).symm, hx⟩
 try simp only [cs8] at c11
 have hnk : numOk t.kind t.n := by simpa using c11
 refine W.skip (W.seq (W.region (WL.cut (fun e1 w1 => e1 5 = .bool (decide (0 ≤ t.elem ∧ t.elem < at_)) ∧ e1 1 = .int .i64 at_ ∧ e1 2 = .pointer (some ⟨b2, 0, none⟩) ∧ w1.heap[b2]? = some (.cells (tcell t pv).toArray 50 (0, 0)) ∧ Ext w0 w1) ?_ ?_)))
 ·-- region 3
  refine WL.c rfl (o_fa 2 TI50 rfl TI3 rfl rfl (WL.c rfl (o_ld TI3 rfl rfl (cell_of hC2 rfl) (WL.c rfl (o_ge rfl rfl (WL.c rfl (o_mvh vB (WL.sp 3 rfl (fun g15 => ?_) (fun g15 => ?_)))))))))
  ·skip
   refine WL.g rfl (g15) rfl (o_fa 2 TI50 rfl TI3 rfl rfl (WL.g rfl (g15) rfl (o_ld TI3 rfl rfl (cell_of hC2 rfl) (WL.g rfl (g15) rfl (o_mvh vI (WL.g rfl (g15) rfl (o_lt rfl rfl (WL.c rfl (o_pickA rfl rfl (WL.c rfl (o_ash vB ?_)))))))))))
   exact WL.nil (⟨congrArg Value.bool (by first | (have := of_decide_eq_false g15; rw [eq_comm, decide_eq_false_iff_not]; omega) | (have := of_decide_eq_true g15; rw [Bool.eq_iff_iff, Bool.and_eq_true, decide_eq_true_eq, decide_eq_true_eq, decide_eq_true_eq])), rfl, rfl, hC2, hx⟩)
  skip
  refine WL.s rfl (g15) rfl (WL.s rfl (g15) rfl (WL.s rfl (g15) rfl (WL.s rfl (g15) rfl (WL.c rfl (o_pickF rfl (g15) (WL.c rfl (o_ash vB ?_)))))))
  exact WL.nil (⟨congrArg Value.bool (by first | (have := of_decide_eq_false g15; rw [eq_comm, decide_eq_false_iff_not]; omega) | (have := of_decide_eq_true g15; rw [Bool.eq_iff_iff, Bool.and_eq_true, decide_eq_true_eq, decide_eq_true_eq, decide_eq_true_eq])), rfl, rfl, hC2, hx⟩)
 rintro e w ⟨h5, h1, h2, hC2, hx⟩
 refine W.seq (W.seq (W.region (WL.c rfl (o_fa 0 TI50 rfl TI3 rfl h2 (WL.c rfl (o_ld TI3 rfl rfl (cell_of hC2 rfl) (WL.nil (W.block (W.seq (W.seq ?_))))))))))
 by_cases k1 : t.kind = 1
 rotate_left
 by_cases k2 : t.kind = 2
 rotate_left
 by_cases k3 : t.kind = 3
 rotate_left
 by_cases k4 : t.kind = 4
 rotate_left
 by_cases k5 : t.kind = 5
 rotate_left
 by_cases k6 : t.kind = 6
 rotate_left
 by_cases k8 : t.kind = 8
 rotate_left
 by_cases k7 : t.kind = 7
 ·skip
  have hkk : t.kind = 7 ∨ t.kind = 8 := by omega
  refine W.region (WL.c rfl (o_eq rfl rfl (WL.c rfl (o_ash vB (WL.nil (W.condF' rfl (decide_eq_false k1) (W.seq (W.region (WL.c rfl (o_eq rfl rfl (WL.c rfl (o_ash vB (WL.nil (W.condF' rfl (decide_eq_false k2) (W.region (WL.c rfl (o_eq rfl rfl (WL.c rfl (o_ash vB (WL.nil (W.condF' rfl (decide_eq_false k3) (W.seq (W.seq (W.region (WL.c rfl (o_eq rfl rfl (WL.c rfl (o_ash vB (WL.nil (W.condF' rfl (decide_eq_false k4) (W.seq (W.region (WL.c rfl (o_eq rfl rfl (WL.c rfl (o_ash vB (WL.nil (W.condF' rfl (decide_eq_false k5) (W.region (WL.c rfl (o_eq rfl rfl (WL.c rfl (o_ash vB (WL.nil (W.condF' rfl (decide_eq_false k6) (W.seq (W.region (WL.c rfl (o_eq rfl rfl (WL.c rfl (o_ash vB (WL.nil (W.condF' rfl (decide_eq_false k8) ?_)))))))))))))))))))))))))))))))))))))))))))))))))))))
  refine W.seq (W.region (WL.c rfl (o_eq rfl rfl (WL.c rfl (o_ash vB (WL.nil (W.condT' rfl (decide_eq_true k7) (W.seq (W.region (WL.c rfl (o_fa 2 TI50 rfl TI3 rfl h2 (WL.c rfl (o_ld TI3 rfl rfl (cell_of hC2 rfl) (WL.c rfl (o_eq rfl rfl (WL.c rfl (o_mvh vB (WL.sp 3 rfl (fun g62 => ?_) (fun g62 => ?_)))))))))))))))))))
  ·skip
   refine WL.g rfl (g62) rfl (o_ldA TI50 rfl h2 (show Cells _ b2 0 (tcell t pv) from Cells.of hC2 0 _ (by simp)) rfl (WL.g rfl (g62) rfl (o_mvh h1 (WL.g rfl (g62) rfl (o_call Try.call59 (lc rfl (lc rfl (lc rfl ln))) ((tparts_spec t pv at_ 64 _ (hS00.ext hx) hl).mono ?_))))))
   rintro v65 w65 ⟨rfl, hx65⟩
   replace hx := hx.tr hx65
   refine WL.c rfl (o_pickA rfl rfl (WL.c rfl (o_ash vB (WL.nil (W.ret (ret1v rfl vB ?_))))))
   exact ⟨congrArg Value.bool (by first | exact (tpB_78 hkk hnk).symm | (rw [tpB_78 hkk hnk, g62]; rfl)), hx⟩
  skip
  refine WL.s rfl (g62) rfl (WL.s rfl (g62) rfl (WL.s rfl (g62) rfl (WL.c rfl (o_pickF rfl (g62) (WL.c rfl (o_ash vB (WL.nil (W.ret (ret1v rfl vB ?_)))))))))
  exact ⟨congrArg Value.bool (by first | exact (tpB_78 hkk hnk).symm | (rw [tpB_78 hkk hnk, g62]; rfl)), hx⟩
 ·skip
  skip
  refine W.region (WL.c rfl (o_eq rfl rfl (WL.c rfl (o_ash vB (WL.nil (W.condF' rfl (decide_eq_false k1) (W.seq (W.region (WL.c rfl (o_eq rfl rfl (WL.c rfl (o_ash vB (WL.nil (W.condF' rfl (decide_eq_false k2) (W.region (WL.c rfl (o_eq rfl rfl (WL.c rfl (o_ash vB (WL.nil (W.condF' rfl (decide_eq_false k3) (W.seq (W.seq (W.region (WL.c rfl (o_eq rfl rfl (WL.c rfl (o_ash vB (WL.nil (W.condF' rfl (decide_eq_false k4) (W.seq (W.region (WL.c rfl (o_eq rfl rfl (WL.c rfl (o_ash vB (WL.nil (W.condF' rfl (decide_eq_false k5) (W.region (WL.c rfl (o_eq rfl rfl (WL.c rfl (o_ash vB (WL.nil (W.condF' rfl (decide_eq_false k6) (W.seq (W.region (WL.c rfl (o_eq rfl rfl (WL.c rfl (o_ash vB (WL.nil (W.condF' rfl (decide_eq_false k8) ?_)))))))))))))))))))))))))))))))))))))))))))))))))))))
  refine W.seq (W.region (WL.c rfl (o_eq rfl rfl (WL.c rfl (o_ash vB (WL.nil (W.condF' rfl (decide_eq_false k7) (W.skip (W.seq (W.region (WL.c rfl (o_ash vB (WL.nil (W.ret (ret1v rfl vB ?_)))))))))))))))
  exact ⟨congrArg Value.bool (tpB_else ⟨by omega, by omega, by omega⟩).symm, hx⟩
 ·skip
  have hkk : t.kind = 1 ∨ t.kind = 2 ∨ t.kind = 3 := by omega
  refine W.region (WL.c rfl (o_eq rfl rfl (WL.c rfl (o_ash vB (WL.nil (W.condT' rfl (decide_eq_true k1) (W.skip (W.condT' rfl (decide_eq_true k1) (W.seq (W.region (WL.c rfl (o_fa 2 TI50 rfl TI3 rfl h2 (WL.c rfl (o_ld TI3 rfl rfl (cell_of hC2 rfl) (WL.c rfl (o_eq rfl rfl (WL.c rfl (o_mvh vB (WL.sp 3 rfl (fun g30 => ?_) (fun g30 => ?_))))))))))))))))))))
  ·skip
   refine WL.g rfl (g30) rfl (o_fa 3 TI50 rfl TI48 rfl h2 (WL.g rfl (g30) rfl (o_ld TI48 rfl rfl (cell_of hC2 rfl) (WL.g rfl (g30) rfl (o_lenR TI48 rfl (hS00.ext hx) (WL.g rfl (g30) rfl (o_eq rfl rfl (WL.c rfl (o_pickA rfl rfl (WL.c rfl (o_ash vB (WL.nil (W.ret (ret1v rfl vB ?_))))))))))))))
   exact ⟨congrArg Value.bool (by first | exact (tpB_123 hkk hnk).symm | (rw [tpB_123 hkk hnk, g30]; rfl)), hx⟩
  skip
  refine WL.s rfl (g30) rfl (WL.s rfl (g30) rfl (WL.s rfl (g30) rfl (WL.s rfl (g30) rfl (WL.c rfl (o_pickF rfl (g30) (WL.c rfl (o_ash vB (WL.nil (W.ret (ret1v rfl vB ?_))))))))))
  exact ⟨congrArg Value.bool (by first | exact (tpB_123 hkk hnk).symm | (rw [tpB_123 hkk hnk, g30]; rfl)), hx⟩
 ·skip
  have hkk : t.kind = 1 ∨ t.kind = 2 ∨ t.kind = 3 := by omega
  refine W.region (WL.c rfl (o_eq rfl rfl (WL.c rfl (o_ash vB (WL.nil (W.condF' rfl (decide_eq_false k1) (W.seq (W.region (WL.c rfl (o_eq rfl rfl (WL.c rfl (o_ash vB (WL.nil (W.condT' rfl (decide_eq_true k2) (W.skip (W.condT' rfl (decide_eq_true k2) (W.seq (W.region (WL.c rfl (o_fa 2 TI50 rfl TI3 rfl h2 (WL.c rfl (o_ld TI3 rfl rfl (cell_of hC2 rfl) (WL.c rfl (o_eq rfl rfl (WL.c rfl (o_mvh vB (WL.sp 3 rfl (fun g30 => ?_) (fun g30 => ?_))))))))))))))))))))))))))))
  ·skip
   refine WL.g rfl (g30) rfl (o_fa 3 TI50 rfl TI48 rfl h2 (WL.g rfl (g30) rfl (o_ld TI48 rfl rfl (cell_of hC2 rfl) (WL.g rfl (g30) rfl (o_lenR TI48 rfl (hS00.ext hx) (WL.g rfl (g30) rfl (o_eq rfl rfl (WL.c rfl (o_pickA rfl rfl (WL.c rfl (o_ash vB (WL.nil (W.ret (ret1v rfl vB ?_))))))))))))))
   exact ⟨congrArg Value.bool (by first | exact (tpB_123 hkk hnk).symm | (rw [tpB_123 hkk hnk, g30]; rfl)), hx⟩
  skip
  refine WL.s rfl (g30) rfl (WL.s rfl (g30) rfl (WL.s rfl (g30) rfl (WL.s rfl (g30) rfl (WL.c rfl (o_pickF rfl (g30) (WL.c rfl (o_ash vB (WL.nil (W.ret (ret1v rfl vB ?_))))))))))
  exact ⟨congrArg Value.bool (by first | exact (tpB_123 hkk hnk).symm | (rw [tpB_123 hkk hnk, g30]; rfl)), hx⟩
 ·skip
  have hkk : t.kind = 1 ∨ t.kind = 2 ∨ t.kind = 3 := by omega
  refine W.region (WL.c rfl (o_eq rfl rfl (WL.c rfl (o_ash vB (WL.nil (W.condF' rfl (decide_eq_false k1) (W.seq (W.region (WL.c rfl (o_eq rfl rfl (WL.c rfl (o_ash vB (WL.nil (W.condF' rfl (decide_eq_false k2) (W.region (WL.c rfl (o_eq rfl rfl (WL.c rfl (o_ash vB (WL.nil (W.condT' rfl (decide_eq_true k3) (W.seq (W.region (WL.c rfl (o_fa 2 TI50 rfl TI3 rfl h2 (WL.c rfl (o_ld TI3 rfl rfl (cell_of hC2 rfl) (WL.c rfl (o_eq rfl rfl (WL.c rfl (o_mvh vB (WL.sp 3 rfl (fun g30 => ?_) (fun g30 => ?_)))))))))))))))))))))))))))))))))
  ·skip
   refine WL.g rfl (g30) rfl (o_fa 3 TI50 rfl TI48 rfl h2 (WL.g rfl (g30) rfl (o_ld TI48 rfl rfl (cell_of hC2 rfl) (WL.g rfl (g30) rfl (o_lenR TI48 rfl (hS00.ext hx) (WL.g rfl (g30) rfl (o_eq rfl rfl (WL.c rfl (o_pickA rfl rfl (WL.c rfl (o_ash vB (WL.nil (W.ret (ret1v rfl vB ?_))))))))))))))
   exact ⟨congrArg Value.bool (by first | exact (tpB_123 hkk hnk).symm | (rw [tpB_123 hkk hnk, g30]; rfl)), hx⟩
  skip
  refine WL.s rfl (g30) rfl (WL.s rfl (g30) rfl (WL.s rfl (g30) rfl (WL.s rfl (g30) rfl (WL.c rfl (o_pickF rfl (g30) (WL.c rfl (o_ash vB (WL.nil (W.ret (ret1v rfl vB ?_))))))))))
  exact ⟨congrArg Value.bool (by first | exact (tpB_123 hkk hnk).symm | (rw [tpB_123 hkk hnk, g30]; rfl)), hx⟩
 ·skip
  have hkk : t.kind = 4 ∨ t.kind = 5 ∨ t.kind = 6 := by omega
  refine W.region (WL.c rfl (o_eq rfl rfl (WL.c rfl (o_ash vB (WL.nil (W.condF' rfl (decide_eq_false k1) (W.seq (W.region (WL.c rfl (o_eq rfl rfl (WL.c rfl (o_ash vB (WL.nil (W.condF' rfl (decide_eq_false k2) (W.region (WL.c rfl (o_eq rfl rfl (WL.c rfl (o_ash vB (WL.nil (W.condF' rfl (decide_eq_false k3) (W.seq (W.seq (W.region (WL.c rfl (o_eq rfl rfl (WL.c rfl (o_ash vB (WL.nil (W.condT' rfl (decide_eq_true k4) (W.skip (W.condT' rfl (decide_eq_true k4) (W.seq (W.region (WL.c rfl (o_mvh h5 (WL.c rfl (o_mvh vB (WL.sp 1 rfl (fun g41 => ?_) (fun g41 => ?_))))))))))))))))))))))))))))))))))))))))
  ·skip
   refine WL.g rfl (g41) rfl (o_fa 3 TI50 rfl TI48 rfl h2 (WL.g rfl (g41) rfl (o_ld TI48 rfl rfl (cell_of hC2 rfl) (WL.g rfl (g41) rfl (o_lenR TI48 rfl (hS00.ext hx) (WL.g rfl (g41) rfl (o_eq rfl rfl (WL.c rfl (o_pickA rfl rfl (WL.c rfl (o_ash vB (WL.nil (W.ret (ret1v rfl vB ?_))))))))))))))
   exact ⟨congrArg Value.bool (by first | exact (tpB_456 hkk hnk).symm | (rw [tpB_456 hkk hnk, g41]; rfl)), hx⟩
  skip
  refine WL.s rfl (g41) rfl (WL.s rfl (g41) rfl (WL.s rfl (g41) rfl (WL.s rfl (g41) rfl (WL.c rfl (o_pickF rfl (g41) (WL.c rfl (o_ash vB (WL.nil (W.ret (ret1v rfl vB ?_))))))))))
  exact ⟨congrArg Value.bool (by first | exact (tpB_456 hkk hnk).symm | (rw [tpB_456 hkk hnk, g41]; rfl)), hx⟩
 ·skip
  have hkk : t.kind = 4 ∨ t.kind = 5 ∨ t.kind = 6 := by omega
  refine W.region (WL.c rfl (o_eq rfl rfl (WL.c rfl (o_ash vB (WL.nil (W.condF' rfl (decide_eq_false k1) (W.seq (W.region (WL.c rfl (o_eq rfl rfl (WL.c rfl (o_ash vB (WL.nil (W.condF' rfl (decide_eq_false k2) (W.region (WL.c rfl (o_eq rfl rfl (WL.c rfl (o_ash vB (WL.nil (W.condF' rfl (decide_eq_false k3) (W.seq (W.seq (W.region (WL.c rfl (o_eq rfl rfl (WL.c rfl (o_ash vB (WL.nil (W.condF' rfl (decide_eq_false k4) (W.seq (W.region (WL.c rfl (o_eq rfl rfl (WL.c rfl (o_ash vB (WL.nil (W.condT' rfl (decide_eq_true k5) (W.skip (W.condT' rfl (decide_eq_true k5) (W.seq (W.region (WL.c rfl (o_mvh h5 (WL.c rfl (o_mvh vB (WL.sp 1 rfl (fun g41 => ?_) (fun g41 => ?_))))))))))))))))))))))))))))))))))))))))))))))))
  ·skip
   refine WL.g rfl (g41) rfl (o_fa 3 TI50 rfl TI48 rfl h2 (WL.g rfl (g41) rfl (o_ld TI48 rfl rfl (cell_of hC2 rfl) (WL.g rfl (g41) rfl (o_lenR TI48 rfl (hS00.ext hx) (WL.g rfl (g41) rfl (o_eq rfl rfl (WL.c rfl (o_pickA rfl rfl (WL.c rfl (o_ash vB (WL.nil (W.ret (ret1v rfl vB ?_))))))))))))))
   exact ⟨congrArg Value.bool (by first | exact (tpB_456 hkk hnk).symm | (rw [tpB_456 hkk hnk, g41]; rfl)), hx⟩
  skip
  refine WL.s rfl (g41) rfl (WL.s rfl (g41) rfl (WL.s rfl (g41) rfl (WL.s rfl (g41) rfl (WL.c rfl (o_pickF rfl (g41) (WL.c rfl (o_ash vB (WL.nil (W.ret (ret1v rfl vB ?_))))))))))
  exact ⟨congrArg Value.bool (by first | exact (tpB_456 hkk hnk).symm | (rw [tpB_456 hkk hnk, g41]; rfl)), hx⟩
 ·skip
  have hkk : t.kind = 4 ∨ t.kind = 5 ∨ t.kind = 6 := by omega
  refine W.region (WL.c rfl (o_eq rfl rfl (WL.c rfl (o_ash vB (WL.nil (W.condF' rfl (decide_eq_false k1) (W.seq (W.region (WL.c rfl (o_eq rfl rfl (WL.c rfl (o_ash vB (WL.nil (W.condF' rfl (decide_eq_false k2) (W.region (WL.c rfl (o_eq rfl rfl (WL.c rfl (o_ash vB (WL.nil (W.condF' rfl (decide_eq_false k3) (W.seq (W.seq (W.region (WL.c rfl (o_eq rfl rfl (WL.c rfl (o_ash vB (WL.nil (W.condF' rfl (decide_eq_false k4) (W.seq (W.region (WL.c rfl (o_eq rfl rfl (WL.c rfl (o_ash vB (WL.nil (W.condF' rfl (decide_eq_false k5) (W.region (WL.c rfl (o_eq rfl rfl (WL.c rfl (o_ash vB (WL.nil (W.condT' rfl (decide_eq_true k6) (W.seq (W.region (WL.c rfl (o_mvh h5 (WL.c rfl (o_mvh vB (WL.sp 1 rfl (fun g41 => ?_) (fun g41 => ?_)))))))))))))))))))))))))))))))))))))))))))))))))))))
  ·skip
   refine WL.g rfl (g41) rfl (o_fa 3 TI50 rfl TI48 rfl h2 (WL.g rfl (g41) rfl (o_ld TI48 rfl rfl (cell_of hC2 rfl) (WL.g rfl (g41) rfl (o_lenR TI48 rfl (hS00.ext hx) (WL.g rfl (g41) rfl (o_eq rfl rfl (WL.c rfl (o_pickA rfl rfl (WL.c rfl (o_ash vB (WL.nil (W.ret (ret1v rfl vB ?_))))))))))))))
   exact ⟨congrArg Value.bool (by first | exact (tpB_456 hkk hnk).symm | (rw [tpB_456 hkk hnk, g41]; rfl)), hx⟩
  skip
  refine WL.s rfl (g41) rfl (WL.s rfl (g41) rfl (WL.s rfl (g41) rfl (WL.s rfl (g41) rfl (WL.c rfl (o_pickF rfl (g41) (WL.c rfl (o_ash vB (WL.nil (W.ret (ret1v rfl vB ?_))))))))))
  exact ⟨congrArg Value.bool (by first | exact (tpB_456 hkk hnk).symm | (rw [tpB_456 hkk hnk, g41]; rfl)), hx⟩
 skip
 have hkk : t.kind = 7 ∨ t.kind = 8 := by omega
 refine W.region (WL.c rfl (o_eq rfl rfl (WL.c rfl (o_ash vB (WL.nil (W.condF' rfl (decide_eq_false k1) (W.seq (W.region (WL.c rfl (o_eq rfl rfl (WL.c rfl (o_ash vB (WL.nil (W.condF' rfl (decide_eq_false k2) (W.region (WL.c rfl (o_eq rfl rfl (WL.c rfl (o_ash vB (WL.nil (W.condF' rfl (decide_eq_false k3) (W.seq (W.seq (W.region (WL.c rfl (o_eq rfl rfl (WL.c rfl (o_ash vB (WL.nil (W.condF' rfl (decide_eq_false k4) (W.seq (W.region (WL.c rfl (o_eq rfl rfl (WL.c rfl (o_ash vB (WL.nil (W.condF' rfl (decide_eq_false k5) (W.region (WL.c rfl (o_eq rfl rfl (WL.c rfl (o_ash vB (WL.nil (W.condF' rfl (decide_eq_false k6) (W.seq (W.region (WL.c rfl (o_eq rfl rfl (WL.c rfl (o_ash vB (WL.nil (W.condT' rfl (decide_eq_true k8) ?_)))))))))))))))))))))))))))))))))))))))))))))))))))))
 refine W.seq (W.region (WL.c rfl (o_fa 2 TI50 rfl TI3 rfl h2 (WL.c rfl (o_ld TI3 rfl rfl (cell_of hC2 rfl) (WL.c rfl (o_eq rfl rfl (WL.c rfl (o_mvh vB (WL.sp 3 rfl (fun g52 => ?_) (fun g52 => ?_)))))))))))
 ·skip
  refine WL.g rfl (g52) rfl (o_ldA TI50 rfl h2 (show Cells _ b2 0 (tcell t pv) from Cells.of hC2 0 _ (by simp)) rfl (WL.g rfl (g52) rfl (o_mvh h1 (WL.g rfl (g52) rfl (o_call Try.call59 (lc rfl (lc rfl (lc rfl ln))) ((tparts_spec t pv at_ 64 _ (hS00.ext hx) hl).mono ?_))))))
  rintro v55 w55 ⟨rfl, hx55⟩
  replace hx := hx.tr hx55
  refine WL.c rfl (o_pickA rfl rfl (WL.c rfl (o_ash vB (WL.nil (W.ret (ret1v rfl vB ?_))))))
  exact ⟨congrArg Value.bool (by first | exact (tpB_78 hkk hnk).symm | (rw [tpB_78 hkk hnk, g52]; rfl)), hx⟩
 skip
 refine WL.s rfl (g52) rfl (WL.s rfl (g52) rfl (WL.s rfl (g52) rfl (WL.c rfl (o_pickF rfl (g52) (WL.c rfl (o_ash vB (WL.nil (W.ret (ret1v rfl vB ?_)))))))))
 exact ⟨congrArg Value.bool (by first | exact (tpB_78 hkk hnk).symm | (rw [tpB_78 hkk hnk, g52]; rfl)), hx⟩
end Go.Proofs.Ytpbflfgigfdohaa

namespace Go.Proofs.Ytpbflfgigfdohaa
open Go Go.Vc Go.RowKit Go.Proofs

theorem depL_get {L : List Tp} {i j : Nat} (hi : i ≤ L.length) (hj : j < i) : (depL (L.take i) []).getD j 0 = dpI L j := by
 unfold dpI
 rw [depL_take_eq L i hi, List.getD_eq_getElem?_getD, List.getD_eq_getElem?_getD, List.getElem?_take, if_pos hj]
/-- the depth of the element; of the first q parts too -/
def bsD (L : List Tp) (t : Tp) : Nat := if t.kind = 4 ∨ t.kind = 5 ∨ t.kind = 6 then dpI L t.elem.toNat else 0
def mxD (L : List Tp) (t : Tp) (q : Nat) : Nat := (t.parts.take q).foldl (fun m p => max m (dpI L p.ty.toNat)) (bsD L t)
theorem mxD_zero (L : List Tp) (t : Tp) : mxD L t 0 = bsD L t := by simp [mxD]
theorem mxD_succ {L : List Tp} {t : Tp} {q : Nat} (hq : q < t.parts.length) : mxD L t (q + 1) = max (mxD L t q) (dpI L t.parts[q].ty.toNat) := by
 unfold mxD
 rw [List.take_succ_eq_append_getElem hq, List.foldl_append]; rfl
theorem tp_elem {t : Tp} {at_ : Int} (h : tpOk t at_) (hk : t.kind = 4 ∨ t.kind = 5 ∨ t.kind = 6) : 0 ≤ t.elem ∧ t.elem < at_ := by
 obtain ⟨-, h2⟩ := h
 rw [if_neg (by omega), if_pos hk] at h2
 exact ⟨h2.1, h2.2.1⟩
theorem tp_part {t : Tp} {at_ : Int} (h : tpOk t at_) {q : Nat} (hq : q < t.parts.length) : 0 ≤ t.parts[q].ty ∧ t.parts[q].ty < at_ := by
 obtain ⟨-, h2⟩ := h
 have hne : ¬ t.parts = [] := by intro e; rw [e] at hq; simp at hq
 split at h2
 ·exact absurd h2.2 hne
 split at h2
 ·exact absurd h2.2.2 hne
 obtain ⟨_, -, h3, h4, -⟩ := h2.2.2.2.2 q hq
 exact ⟨h3, h4⟩
theorem foldl_cong {α β : Type} {f g : β → α → β} : ∀ (l : List α) (b : β), (∀ b, ∀ a ∈ l, f b a = g b a) → l.foldl f b = l.foldl g b
 | [], _, _ => rfl
 | a :: l, b, h => by rw [List.foldl_cons, List.foldl_cons, h b a (List.mem_cons_self ..)]; exact foldl_cong l _ fun b x hx => h b x (List.mem_cons_of_mem _ hx)
theorem dpI_mx {L : List Tp} {i : Nat} (hi : i < L.length) (hok : tpOk L[i] (i : Int)) : dpI L i = mxD L L[i] L[i].parts.length + 1 := by
 rw [dpI_at hi, dpT1, mxD, List.take_length, bsD]
 congr 1
 have hb : (if L[i].kind = 4 ∨ L[i].kind = 5 ∨ L[i].kind = 6 then (depL (L.take i) []).getD L[i].elem.toNat 0 else 0) = if L[i].kind = 4 ∨ L[i].kind = 5 ∨ L[i].kind = 6 then dpI L L[i].elem.toNat else 0 := by
  split
  ·rename_i hk
   have := tp_elem hok hk
   exact depL_get (by omega) (by omega)
  rfl
 rw [hb]
 refine foldl_cong _ _ fun b a ha => ?_
 obtain ⟨q, hq, rfl⟩ := List.getElem_of_mem ha
 have := tp_part hok hq
 rw [depL_get (by omega) (by omega)]
theorem mxD_le {L : List Tp} {i : Nat} (hi : i < L.length) (hok : tpOk L[i] (i : Int)) (hd : ∀ j, j < i → ¬ 64 < dpI L j) : ∀ q, q ≤ L[i].parts.length → mxD L L[i] q ≤ 64
 | 0, _ => by
  rw [mxD_zero, bsD]
  split
  ·rename_i hk
   have := tp_elem hok hk
   have := hd L[i].elem.toNat (by omega)
   omega
  omega
 | q + 1, hq => by
  rw [mxD_succ (by omega)]
  have h1 := mxD_le hi hok hd q (by omega)
  have h2 := tp_part hok (q := q) (by omega)
  have h3 := hd L[i].parts[q].ty.toNat (by omega)
  omega
def dpV (L : List Tp) : Int × Int := (dpF L).getD (0, 0)
theorem dpV_hit {L : List Tp} {i : Nat} (hi : i < L.length) (h : 64 < dpI L i) (hb : ∀ j, j < i → ¬ 64 < dpI L j) : dpF L = some (83, (i : Int)) := firstN_hit hi (by rw [if_pos h]) (fun j hj => if_neg (hb j hj))
theorem dpV_no {L : List Tp} (h : ∀ j, j < L.length → ¬ 64 < dpI L j) : dpF L = none := firstN_miss fun j hj => if_neg (h j hj)
/-- what the machine can hold of a list of types -/
structure LLim (L : List Tp) : Prop where
 len : L.length * 48 ≤ 140737488351232
 ty : ∀ t ∈ L, TLim t

set_option maxHeartbeats 4000000 in
theorem tdeep_spec (L : List Tp) (lv : Value) (V : Nat → Value) (w0 : World) (hT : TypR w0 L lv V) (hok : ∀ i (hi : i < L.length), tpOk L[i] (i : Int)) (hl : LLim L) : Ca Try.prog 33 #[lv] w0 (fun v w' => v = .agg #[.int .i64 (dpV L).1, .int .i64 (dpV L).2] ∧ Ext w0 w') := by
 have hlen := hl.len
 refine Ca.of Try.func33 Try.ntmps33 rfl rfl (W.seq (W.region (WL.c rfl (o_alB TI28 ?_))))
 intro wb hC2 hx hsb
 obtain ⟨c2, hc2⟩ : ∃ c, c = w0.heap.size := ⟨_, rfl⟩
 rw [← hc2] at hC2 ⊢
 replace hC2 : wb.heap[c2]? = some (.cells #[.int .i64 0, .int .i64 0] 28 (0, 0)) := hC2
 refine WL.nil (W.seq (W.region (WL.c rfl (o_mvh (by first | exact vS | exact rfl) (WL.c rfl (o_lenR TI31 rfl (hT.ext hx).row (WL.c rfl (o_mk2 TI79 TI3 (l := L.length) (n := L.length) rfl rfl (Nat.le_refl _) (by omega) (by omega) ?_))))))))
 have hro := own_made1 (w := wb) (el := 3) (l := L.length) (n := L.length) (z := .int .i64 0) rfl (Nat.le_refl _) (by omega)
 have hxm : Ext wb (wb.alloc (.cells (madeCells (Value.int .i64 0).cells (L.length * 1)) 3)) := Only.alloc wb _
 generalize wb.alloc (.cells (madeCells (Value.int .i64 0).cells (L.length * 1)) 3) = wt at hro hxm ⊢
 obtain ⟨B, hB⟩ : ∃ b, b = wb.heap.size := ⟨_, rfl⟩
 have hzB : w0.heap.size ≤ B := by rw [hB]; exact hx.size
 rw [← hB] at hro ⊢
 replace hro : wt.ownsRow B 3 1 (.slice (some ⟨B, 0, none⟩) L.length L.length) L.length (dps L.length (fun _ => 0)) := by rw [dps_zero]; exact hro
 replace hx := hx.tr hxm
 replace hC2 := hxm.blk hC2 (fun h => h)
 refine WL.c rfl (o_ash (by first | exact vS | exact rfl) (WL.nil (W.seq (W.seq (W.region (WL.c rfl (o_mvh (by first | exact vS | exact rfl) (WL.c rfl (o_lenR TI31 rfl (hT.ext hx).row (WL.c rfl (o_mvh vI (WL.nil (W.block (W.loop (fun e w => ∃ (i : Nat) (f : Nat → Nat), i ≤ L.length ∧ e 2 = .pointer (some ⟨c2, 0, none⟩) ∧ e 3 = (.slice (some ⟨B, 0, none⟩) L.length L.length) ∧ e 11 = lv ∧ e 12 = .int .i64 (L.length : Int) ∧ e 13 = .int .i64 (i : Int) ∧ w.ownsRow B 3 1 (.slice (some ⟨B, 0, none⟩) L.length L.length) L.length (dps L.length f) ∧ (∀ j, j < i → f j = dpI L j) ∧ (∀ j, j < i → ¬ 64 < dpI L j) ∧ (∀ j, i ≤ j → f j = 0) ∧ w.heap[c2]? = some (.cells #[.int .i64 0, .int .i64 0] 28 (0, 0)) ∧ Ext w0 w) (fun e w => L.length - (intOf (e 13)).toNat) ?_ ?_))))))))))))))
 ·exact ⟨0, fun _ => 0, Nat.zero_le _, rfl, rfl, rfl, rfl, rfl, hro, fun j hj => by omega, fun j hj => by omega, fun j hj => rfl, hC2, hx⟩
 rintro e w ⟨i, f, hi, h2, h3, h11, h12, h13, hro, hf, hd, hz, hC2, hx⟩
 have hm13 := h13
 refine W.seq (W.region (WL.c rfl (o_lt h13 h12 (WL.nil (W.seq (W.cond rfl (fun c14 => ?_) (fun c14 => ?_)))))))
 ·try simp only [cs8] at c14
  have hi1 : i < L.length := by omega
  obtain ⟨tb, to_, tc, hlv, htc, hty⟩ := (hT.ext hx).atk hi1
  rw [hlv] at h11
  have hoki := hok i hi1
  have hmx := mxD_le hi1 hoki hd
  have hdm := dpI_mx hi1 hoki
  have htl := (hl.ty _ (List.getElem_mem hi1)).len
  obtain ⟨t, ht⟩ : ∃ t, t = L[i] := ⟨_, rfl⟩
  rw [← ht] at htc hty hoki hmx hdm htl
  have hpt := fun q (hq : q < t.parts.length) => tp_part hoki hq
  refine W.skip (W.seq (W.block (W.seq (W.region (WL.c rfl (o_mvh h13 (WL.c rfl (o_ixB (i := i) TI31 TI50 h11 h13 (by omega) (WL.c rfl (o_ldA TI50 rfl rfl htc rfl (WL.c rfl (o_alB TI50 ?_))))))))))))
  intro wa hCa hxa hsa
  refine WL.c rfl (o_ash vI (WL.u (o_stA TI50 rfl (show _ = Value.agg (tcell t (V i)).toArray from rfl) rfl (List.all_eq_true.2 (tcell_all (sl_one1 hty))) hCa rfl ?_)))
  intro wb5 hC5 hob hsb
  have hxb := Ext.own hxa (Nat.le_refl _) hob
  obtain ⟨b5, hb5⟩ : ∃ b, b = w.heap.size := ⟨_, rfl⟩
  rw [← hb5] at hC5 ⊢
  clear hCa hxa hsa hob hsb
  replace hx := hx.tr hxb
  replace hro := own_ext hro hxb
  replace hC2 := hxb.blk hC2 (fun h => h)
  clear hxb
  refine WL.nil (W.seq (W.seq (W.region (WL.c rfl (o_fa 0 TI50 rfl TI3 rfl rfl (WL.c rfl (o_ld TI3 rfl rfl (cell_of hC5 rfl) (WL.nil (W.block (W.seq (W.seq ?_)))))))))))
  replace hty := fun w9 (h9 : Ext w0 w9) => (show Sl w9 3 (V i) t.parts.length (pas t.parts) from by have := (hT.ext h9).tys i hi1; rw [pasT_at hi1, ← ht] at this; exact this)
  refine W.region (WL.c rfl (o_eq rfl rfl (WL.c rfl (o_ash vB (WL.nil (W.cut (fun e1 w1 => e1 20 = .bool (decide (t.kind = 4 ∨ t.kind = 5 ∨ t.kind = 6)) ∧ e1 2 = .pointer (some ⟨c2, 0, none⟩) ∧ e1 3 = (.slice (some ⟨B, 0, none⟩) L.length L.length) ∧ e1 4 = .int .i64 (i : Int) ∧ e1 5 = .pointer (some ⟨b5, 0, none⟩) ∧ e1 11 = (.slice (some ⟨tb, to_, none⟩) L.length tc) ∧ e1 12 = .int .i64 (L.length : Int) ∧ e1 13 = .int .i64 (i : Int) ∧ w1.ownsRow B 3 1 (.slice (some ⟨B, 0, none⟩) L.length L.length) L.length (dps L.length f) ∧ w1.heap[c2]? = some (.cells #[.int .i64 0, .int .i64 0] 28 (0, 0)) ∧ w1.heap[b5]? = some (.cells (tcell t (V i)).toArray 50 (0, 0)) ∧ Ext w0 w1) ?_ ?_))))))
  ·-- both ways
   refine W.cond rfl (fun c20 => ?_) (fun c20 => ?_)
   ·try simp only [cs8] at c20
    try have hk4 : t.kind = 4 ∨ t.kind = 5 ∨ t.kind = 6 := c20
    try have hel := tp_elem hoki hk4
    try have hen : t.elem = ((t.elem.toNat : Nat) : Int) := by omega
    refine W.skip ?_
    exact ⟨congrArg Value.bool (by simp_all), h2, h3, rfl, rfl, h11, h12, h13, hro, hC2, hC5, hx⟩
   try simp only [cs8] at c20
   try have hk4 : ¬ (t.kind = 4 ∨ t.kind = 5 ∨ t.kind = 6) := c20
   refine W.seq (W.region (WL.c rfl (o_eq rfl rfl (WL.c rfl (o_ash vB (WL.nil (W.cond rfl (fun c20 => ?_) (fun c20 => ?_))))))))
   ·try simp only [cs8] at c20
    try have hk4 : t.kind = 4 ∨ t.kind = 5 ∨ t.kind = 6 := c20
    try have hel := tp_elem hoki hk4
    try have hen : t.elem = ((t.elem.toNat : Nat) : Int) := by omega
    refine W.skip ?_
    exact ⟨congrArg Value.bool (by simp_all), h2, h3, rfl, rfl, h11, h12, h13, hro, hC2, hC5, hx⟩
   try simp only [cs8] at c20
   try have hk4 : ¬ (t.kind = 4 ∨ t.kind = 5 ∨ t.kind = 6) := c20
   refine W.region (WL.c rfl (o_eq rfl rfl (WL.c rfl (o_ash vB (WL.nil ?_)))))
   exact ⟨congrArg Value.bool (by simp_all), h2, h3, rfl, rfl, h11, h12, h13, hro, hC2, hC5, hx⟩
  rintro e w ⟨h20, h2, h3, h4, h5, h11, h12, h13, hro, hC2, hC5, hx⟩
  refine W.cut (fun e1 w1 => ∃ f2 : Nat → Nat, e1 2 = .pointer (some ⟨c2, 0, none⟩) ∧ e1 3 = (.slice (some ⟨B, 0, none⟩) L.length L.length) ∧ e1 4 = .int .i64 (i : Int) ∧ e1 5 = .pointer (some ⟨b5, 0, none⟩) ∧ e1 11 = (.slice (some ⟨tb, to_, none⟩) L.length tc) ∧ e1 12 = .int .i64 (L.length : Int) ∧ e1 13 = .int .i64 (i : Int) ∧ w1.ownsRow B 3 1 (.slice (some ⟨B, 0, none⟩) L.length L.length) L.length (dps L.length f2) ∧ (∀ j, ¬ j = i → f2 j = f j) ∧ f2 i = bsD L t ∧ w1.heap[c2]? = some (.cells #[.int .i64 0, .int .i64 0] 28 (0, 0)) ∧ w1.heap[b5]? = some (.cells (tcell t (V i)).toArray 50 (0, 0)) ∧ Ext w0 w1) ?_ ?_
  ·-- both ways
   refine W.cond h20 (fun c20 => ?_) (fun c20 => ?_)
   ·try simp only [cs8] at c20
    try have hk4 : t.kind = 4 ∨ t.kind = 5 ∨ t.kind = 6 := c20
    try have hel := tp_elem hoki hk4
    try have hen : t.elem = ((t.elem.toNat : Nat) : Int) := by omega
    refine W.region (WL.c rfl (o_mvh h3 (WL.c rfl (o_mvh h4 (WL.c rfl (o_mvh h3 (WL.c rfl (o_fa 2 TI50 rfl TI3 rfl h5 (WL.c rfl (o_ld TI3 rfl rfl (cell_of hC5 rfl) (WL.c rfl (o_ixB (i := t.elem.toNat) TI79 TI3 (show _ = Value.slice (some ⟨B, 0, none⟩) L.length L.length from rfl) (show _ = Value.int .i64 ((t.elem.toNat : Nat) : Int) from by rw [← hen]; rfl) (by omega) (WL.c rfl (o_ld TI3 rfl rfl (show World.cell? _ ⟨B, 0 + t.elem.toNat * 1, none⟩ = some (iv (f (t.elem.toNat))) from by rw [Nat.zero_add, Nat.mul_one]; exact own_cell hro (dps_at (by omega))) (WL.c rfl (o_ixB (i := i) TI79 TI3 (show _ = Value.slice (some ⟨B, 0, none⟩) L.length L.length from rfl) (show _ = Value.int .i64 ((i : Nat) : Int) from rfl) (by omega) (WL.u (o_stRj TI3 rfl (show 0 + i * 1 = i by omega) (show _ = iv (f t.elem.toNat) from rfl) rfl hro (show Value.ownBlock (Value.slice (some ⟨B, 0, none⟩) L.length L.length) = some B from rfl) (by omega) ?_))))))))))))))))))
    intro w31 hr31 ho31 hs31
    rw [dps_set] at hr31
    replace hC2 := ho31.blk hC2 (fun h => own_off hro hC2 (by decide) h)
    try replace hC5 := ho31.blk hC5 (fun h => own_off hro hC5 (by decide) h)
    replace hx := hx.trans' ho31 (fun _ h => h) (fun b hb h => by have := (hro.lt b h).1; omega)
    replace hro := hr31
    refine WL.nil ?_
    first | exact ⟨updN f i (f t.elem.toNat), h2, h3, h4, h5, h11, h12, h13, hro, fun j hj => if_neg hj, by unfold updN bsD; rw [if_pos rfl, if_pos hk4, hf _ (by omega)], hC2, hC5, hx⟩ | exact ⟨f, h2, h3, h4, h5, h11, h12, h13, hro, fun j hj => rfl, by unfold bsD; rw [if_neg hk4]; exact hz i (Nat.le_refl _), hC2, hC5, hx⟩
   try simp only [cs8] at c20
   try have hk4 : ¬ (t.kind = 4 ∨ t.kind = 5 ∨ t.kind = 6) := c20
   refine W.skip ?_
   first | exact ⟨updN f i (f t.elem.toNat), h2, h3, h4, h5, h11, h12, h13, hro, fun j hj => if_neg hj, by unfold updN bsD; rw [if_pos rfl, if_pos hk4, hf _ (by omega)], hC2, hC5, hx⟩ | exact ⟨f, h2, h3, h4, h5, h11, h12, h13, hro, fun j hj => rfl, by unfold bsD; rw [if_neg hk4]; exact hz i (Nat.le_refl _), hC2, hC5, hx⟩
  rintro e w ⟨f2, h2, h3, h4, h5, h11, h12, h13, hro, hf2, hfi, hC2, hC5, hx⟩
  refine W.seq (W.seq (W.region (WL.c rfl (o_fa 3 TI50 rfl TI48 rfl h5 (WL.c rfl (o_ld TI48 rfl rfl (cell_of hC5 rfl) (WL.c rfl (o_lenR TI48 rfl (hty _ hx) (WL.c rfl (o_mvh vI (WL.nil (W.block (W.loop (fun e w => ∃ (q : Nat) (f : Nat → Nat), q ≤ t.parts.length ∧ e 2 = .pointer (some ⟨c2, 0, none⟩) ∧ e 3 = (.slice (some ⟨B, 0, none⟩) L.length L.length) ∧ e 4 = .int .i64 (i : Int) ∧ e 11 = (.slice (some ⟨tb, to_, none⟩) L.length tc) ∧ e 12 = .int .i64 (L.length : Int) ∧ e 13 = .int .i64 (i : Int) ∧ e 33 = V i ∧ e 34 = .int .i64 (t.parts.length : Int) ∧ e 35 = .int .i64 (q : Int) ∧ w.ownsRow B 3 1 (.slice (some ⟨B, 0, none⟩) L.length L.length) L.length (dps L.length f) ∧ (∀ j, j < i → f j = dpI L j) ∧ f i = mxD L t q ∧ (∀ j, i < j → f j = 0) ∧ w.heap[c2]? = some (.cells #[.int .i64 0, .int .i64 0] 28 (0, 0)) ∧ Ext w0 w) (fun e w => t.parts.length - (intOf (e 35)).toNat) ?_ ?_)))))))))))))
  ·exact ⟨0, f2, Nat.zero_le _, h2, h3, h4, h11, h12, h13, rfl, rfl, rfl, hro, fun j hj => by rw [hf2 j (by omega)]; exact hf j hj, by rw [mxD_zero]; exact hfi, fun j hj => by rw [hf2 j (by omega)]; exact hz j (by omega), hC2, hx⟩
  rintro e w ⟨q, f, hq, h2, h3, h4, h11, h12, h13, h33, h34, h35, hro, hf, hfi, hz, hC2, hx⟩
  have hm35 := h35
  refine W.seq (W.region (WL.c rfl (o_lt h35 h34 (WL.nil (W.seq (W.cond rfl (fun c36 => ?_) (fun c36 => ?_)))))))
  ·try simp only [cs8] at c36
   have hq1 : q < t.parts.length := by omega
   obtain ⟨ub, uo, uc, hV, huc⟩ := Sl.paq (hty _ hx) hq1
   rw [hV] at h33
   have hptq := hpt q hq1
   obtain ⟨p, hp⟩ : ∃ p, p = t.parts[q] := ⟨_, rfl⟩
   rw [← hp] at huc hptq
   have hen : p.ty = ((p.ty.toNat : Nat) : Int) := by omega
   refine W.skip (W.seq (W.block (W.seq (W.region (WL.c rfl (o_ixB (i := q) TI48 TI52 h33 h35 (by omega) (WL.c rfl (o_ldA TI52 rfl rfl huc rfl (WL.c rfl (o_alB TI52 ?_))))))))))
   intro wa hCa hxa hsa
   refine WL.u (o_stA TI52 rfl (show _ = Value.agg (paV p).toArray from rfl) rfl rfl hCa rfl ?_)
   intro wb7 hC7 hob hsb
   have hxb := Ext.own hxa (Nat.le_refl _) hob
   obtain ⟨b7, hb7⟩ : ∃ b, b = w.heap.size := ⟨_, rfl⟩
   rw [← hb7] at hC7 ⊢
   clear hCa hxa hsa hob hsb
   replace hx := hx.tr hxb
   replace hro := own_ext hro hxb
   replace hC2 := hxb.blk hC2 (fun h => h)
   clear hxb
   refine WL.nil ?_
   have hxd := Only.drew wb7
   replace hx := hx.tr hxd
   replace hro := own_ext hro hxd
   replace hC2 := hxd.blk hC2 (fun h => h)
   replace hC7 := hxd.blk hC7 (fun h => h)
   refine W.tail 13 rfl (by kernel_rfl) (WS.c rfl ((SO.o rfl (o_mvh h3 ⟨rfl, rfl⟩))) (WS.c rfl ((SO.o rfl (o_mvh h4 ⟨rfl, rfl⟩))) (WS.c rfl ((SO.o rfl (o_mvh h3 ⟨rfl, rfl⟩))) (WS.c rfl ((SO.o rfl (o_mvh h4 ⟨rfl, rfl⟩))) (WS.c rfl ((SO.o rfl (o_ixB (i := i) TI79 TI3 (show _ = Value.slice (some ⟨B, 0, none⟩) L.length L.length from rfl) (show _ = Value.int .i64 ((i : Nat) : Int) from rfl) (by omega) ⟨rfl, rfl⟩))) (WS.c rfl ((SO.o rfl (o_ld TI3 rfl rfl (show World.cell? _ ⟨B, 0 + i * 1, none⟩ = some (iv (f (i))) from by rw [Nat.zero_add, Nat.mul_one]; exact own_cell hro (dps_at (by omega))) ⟨rfl, rfl⟩))) (WS.c rfl ((SO.o rfl (o_mvh h3 ⟨rfl, rfl⟩))) (WS.c rfl ((SO.o rfl (o_fa 2 TI52 rfl TI3 rfl rfl ⟨rfl, rfl⟩))) (WS.c rfl ((SO.o rfl (o_ld TI3 rfl rfl (cell_of hC7 rfl) ⟨rfl, rfl⟩))) (WS.c rfl ((SO.o rfl (o_ixB (i := p.ty.toNat) TI79 TI3 (show _ = Value.slice (some ⟨B, 0, none⟩) L.length L.length from rfl) (show _ = Value.int .i64 ((p.ty.toNat : Nat) : Int) from by rw [← hen]; rfl) (by omega) ⟨rfl, rfl⟩))) (WS.c rfl ((SO.o rfl (o_ld TI3 rfl rfl (show World.cell? _ ⟨B, 0 + p.ty.toNat * 1, none⟩ = some (iv (f (p.ty.toNat))) from by rw [Nat.zero_add, Nat.mul_one]; exact own_cell hro (dps_at (by omega))) ⟨rfl, rfl⟩))) (WS.c rfl ((SO.r (r_max (a := f i) (b := f p.ty.toNat) rfl rfl))) (WS.c rfl ((SO.o rfl (o_ixB (i := i) TI79 TI3 (show _ = Value.slice (some ⟨B, 0, none⟩) L.length L.length from rfl) (show _ = Value.int .i64 ((i : Nat) : Int) from rfl) (by omega) ⟨rfl, rfl⟩))) (WS.nil (WL.u (o_stRj TI3 rfl (show 0 + i * 1 = i by omega) (show _ = iv (max (f i) (f p.ty.toNat)) from rfl) rfl hro (show Value.ownBlock (Value.slice (some ⟨B, 0, none⟩) L.length L.length) = some B from rfl) (by omega) ?_))))))))))))))))
   intro w51 hr51 ho51 hs51
   rw [dps_set] at hr51
   replace hC2 := ho51.blk hC2 (fun h => own_off hro hC2 (by decide) h)
   try replace hC5 := ho51.blk hC5 (fun h => own_off hro hC5 (by decide) h)
   replace hx := hx.trans' ho51 (fun _ h => h) (fun b hb h => by have := (hro.lt b h).1; omega)
   replace hro := hr51
   refine WL.nil (W.region (WL.c rfl (o_addi h35 rfl (by omega) (WL.c rfl (o_mvh vI (WL.nil (⟨⟨q + 1, updN f i (max (f i) (f p.ty.toNat)), by omega, h2, h3, h4, h11, h12, h13, h33.trans hV.symm, h34, rfl, hro, fun j hj => ?_, ?_, fun j hj => ?_, hC2, hx⟩, ?_⟩)))))))
   ·unfold updN; rw [if_neg (by omega)]; exact hf j hj
   ·unfold updN; rw [if_pos rfl, mxD_succ hq1, ← hp, hfi, hf _ (by omega)]
   ·unfold updN; rw [if_neg (by omega)]; exact hz j hj
   show t.parts.length - ((q : Int) + 1).toNat < _
   rw [hm35]; simp [intOf]; omega
  try simp only [cs8] at c36
  have hq1 : q = t.parts.length := by omega
  rw [hq1] at hfi
  rw [← hfi] at hdm
  have hdi : dpI L i = f i + 1 := hdm
  have hmi : f i ≤ 64 := by rw [hfi]; exact hmx _ (Nat.le_refl _)
  refine W.exit (W.seq (W.region (WL.c rfl (o_mvh h3 (WL.c rfl (o_mvh h4 (WL.c rfl (o_ixB (i := i) TI79 TI3 (show _ = Value.slice (some ⟨B, 0, none⟩) L.length L.length from rfl) (show _ = Value.int .i64 ((i : Nat) : Int) from rfl) (by omega) (WL.c rfl (o_ld TI3 rfl rfl (show World.cell? _ ⟨B, 0 + i * 1, none⟩ = some (iv (f (i))) from by rw [Nat.zero_add, Nat.mul_one]; exact own_cell hro (dps_at (by omega))) (WL.c rfl (o_addi (a := ((f i : Nat) : Int)) (b := 1) rfl rfl (by omega) (WL.c rfl (o_ixB (i := i) TI79 TI3 (show _ = Value.slice (some ⟨B, 0, none⟩) L.length L.length from rfl) (show _ = Value.int .i64 ((i : Nat) : Int) from rfl) (by omega) (WL.u (o_stRj TI3 rfl (show 0 + i * 1 = i by omega) (show _ = iv (f i + 1) from congrArg (Value.int .i64) (by simp)) rfl hro (show Value.ownBlock (Value.slice (some ⟨B, 0, none⟩) L.length L.length) = some B from rfl) (by omega) ?_))))))))))))))))
  intro w58 hr58 ho58 hs58
  rw [dps_set] at hr58
  replace hC2 := ho58.blk hC2 (fun h => own_off hro hC2 (by decide) h)
  try replace hC5 := ho58.blk hC5 (fun h => own_off hro hC5 (by decide) h)
  replace hx := hx.trans' ho58 (fun _ h => h) (fun b hb h => by have := (hro.lt b h).1; omega)
  replace hro := hr58
  refine WL.nil (W.seq (W.region (WL.c rfl (o_mvh h3 (WL.c rfl (o_mvh h4 (WL.c rfl (o_ixB (i := i) TI79 TI3 (show _ = Value.slice (some ⟨B, 0, none⟩) L.length L.length from rfl) (show _ = Value.int .i64 ((i : Nat) : Int) from rfl) (by omega) (WL.c rfl (o_ld TI3 rfl rfl (show World.cell? _ ⟨B, 0 + i * 1, none⟩ = some (iv (f i + 1)) from by rw [Nat.zero_add, Nat.mul_one]; exact (own_cell hro (dps_at (by omega))).trans (by unfold updN; rw [if_pos rfl])) (WL.c rfl (o_gt (a := ((f i + 1 : Nat) : Int)) (b := 64) rfl rfl (WL.nil (W.cond rfl (fun c63 => ?_) (fun c63 => ?_)))))))))))))))
  ·try simp only [cs8] at c63
   have hgt : 64 < dpI L i := by omega
   refine W.seq ?_
   skip
   skip
   refine W.region (WL.c rfl (o_mvh h4 (WL.c rfl (o_bldC (cs := [(.int .i64 83), _]) TI28 (Sizes.cons TI26 (Sizes.cons TI3 Sizes.nil)) rfl (lcp vI (lcp vI lnp)) rfl rfl (WL.u (o_stA TI28 h2 (show _ = Value.agg #[.int .i64 83, .int .i64 (i : Int)] from rfl) rfl rfl hC2 rfl ?_))))))
   intro wz hCz hoz hsz
   replace hx := hx.trans' hoz (fun _ h => h) (fun b hb he => by omega)
   refine WL.nil (W.ret (retC rfl TI28 rfl h2 (show Cells _ c2 0 [.int .i64 83, .int .i64 (i : Int)] from Cells.of hCz 0 _ (by simp)) rfl ?_))
   exact ⟨by unfold dpV; rw [dpV_hit hi1 hgt hd]; rfl, hx⟩
  try simp only [cs8] at c63
  have hle64 : ¬ 64 < f i + 1 := by omega
  refine W.skip (W.region (WL.c rfl (o_addi h13 rfl (by omega) (WL.c rfl (o_mvh vI (WL.nil (⟨⟨i + 1, updN f i (f i + 1), by omega, h2, h3, h11.trans hlv.symm, h12, rfl, hro, fun j hj => ?_, fun j hj => ?_, fun j hj => ?_, hC2, hx⟩, ?_⟩)))))))
  ·unfold updN
   by_cases e : j = i
   ·rw [if_pos e, e]; exact hdi.symm
   rw [if_neg e]; exact hf j (by omega)
  ·by_cases e : j = i
   ·rw [e, hdi]; exact hle64
   exact hd j (by omega)
  ·unfold updN
   rw [if_neg (by omega)]; exact hz j (by omega)
  show L.length - ((i : Int) + 1).toNat < _
  rw [hm13]; simp [intOf]; omega
 try simp only [cs8] at c14
 have hi1 : i = L.length := by omega
 rw [hi1] at hd
 refine W.exit (W.seq ?_)
 skip
 skip
 refine W.region (WL.c rfl (o_bldC (cs := [(.int .i64 0), (.int .i64 0)]) TI28 (Sizes.cons TI26 (Sizes.cons TI3 Sizes.nil)) rfl lnp rfl rfl (WL.u (o_stA TI28 h2 (show _ = Value.agg #[.int .i64 0, .int .i64 0] from rfl) rfl rfl hC2 rfl ?_))))
 intro wz hCz hoz hsz
 replace hx := hx.trans' hoz (fun _ h => h) (fun b hb he => by omega)
 refine WL.nil (W.ret (retC rfl TI28 rfl h2 (show Cells _ c2 0 [.int .i64 0, .int .i64 0] from Cells.of hCz 0 _ (by simp)) rfl ?_))
 exact ⟨by unfold dpV; rw [dpV_no hd]; rfl, hx⟩
end Go.Proofs.Ytpbflfgigfdohaa

namespace Go.Proofs.Ytpbflfgigfdohaa
open Go Go.Vc Go.RowKit Go.Proofs

noncomputable def scV (L : List Tp) (R : List Ro) : Int × Int := (scF L R).getD (0, 0)
theorem sc_tp {L : List Tp} {R : List Ro} {i : Nat} (hi : i < L.length) (h : ¬ tpOk L[i] (i : Int)) (hb : ∀ j (hj : j < L.length), j < i → tpOk L[j] (j : Int)) : scV L R = (92, (i : Int)) := by
 have h1 : tpF L = some (92, (i : Int)) := firstN_hit hi (by rw [tgetD_at hi, if_neg h]) (fun j hj => by rw [tgetD_at (by omega), if_pos (hb j (by omega) hj)])
 unfold scV scF
 rw [h1]; rfl
theorem sc_tpn {L : List Tp} (hb : ∀ j (hj : j < L.length), tpOk L[j] (j : Int)) : tpF L = none := firstN_miss fun j hj => by rw [tgetD_at hj, if_pos (hb j hj)]
theorem dp_nz {L : List Tp} {v : Int × Int} (h : dpF L = some v) : v.1 = 83 := by
 obtain ⟨i, hi, h1⟩ := firstN_some h
 split at h1
 ·cases h1; rfl
 cases h1
theorem dpV_iff {L : List Tp} : (dpV L).1 = 0 ↔ dpF L = none := by
 unfold dpV
 cases h : dpF L with
 | none => simp
 | some v => have := dp_nz h; simp [this]
theorem sc_dp {L : List Tp} {R : List Ro} (hb : tpF L = none) (h : ¬ (dpV L).1 = 0) : scV L R = dpV L := by
 unfold scV scF
 rw [hb, Option.none_or]
 unfold dpV at h ⊢
 cases hd : dpF L with
 | none => rw [hd] at h; simp at h
 | some v => rfl
theorem rgetD_at8 {R : List Ro} {k : Nat} (hk : k < R.length) : R.getD k ro0 = R[k] := by simp [List.getD_eq_getElem?_getD, hk]
theorem sc_ro {L : List Tp} {R : List Ro} (h1 : tpF L = none) (h2 : dpF L = none) {q : Nat} (hq : q < R.length) (h : ¬ roOk L.length R q) (hb : ∀ j, j < q → roOk L.length R j) : scV L R = (92, (L.length : Int) + (q : Int)) := by
 have h3 : roF L.length R = some (92, (L.length : Int) + (q : Int)) := firstN_hit hq (by rw [if_neg h]) (fun j hj => by rw [if_pos (hb j hj)])
 unfold scV scF
 rw [h1, h2, h3]; rfl
theorem sc_ok {L : List Tp} {R : List Ro} (h1 : tpF L = none) (h2 : dpF L = none) (hb : ∀ j, j < R.length → roOk L.length R j) : scV L R = (0, 0) := by
 have h3 : roF L.length R = none := firstN_miss fun j hj => by rw [if_pos (hb j hj)]
 unfold scV scF
 rw [h1, h2, h3]; rfl
def mN (R : List Ro) (q : Nat) (gl : List UInt8 → Option Int) (nm : List UInt8) : Nat := if (gl nm).isSome = true then q else q + 1
theorem mN_iff {R : List Ro} {q : Nat} {gl : List UInt8 → Option Int} (hq : q < R.length) (hg : ∀ s, (gl s).isSome = (R.take q).any (fun z => decide (z.name = s))) : mN R q gl R[q].name = q + 1 ↔ ∀ j, j < q → (R.getD j ro0).name ≠ (R.getD q ro0).name := by
 have hb : (gl R[q].name).isSome = true ↔ ∃ j, ∃ hj : j < q, (R[j]'(by omega)).name = R[q].name := by
  rw [hg, any_take (by omega)]; simp
 unfold mN
 rw [rgetD_at8 hq]
 by_cases hc : (gl R[q].name).isSome = true
 ·rw [if_pos hc]
  refine ⟨fun e => by omega, fun hh => ?_⟩
  obtain ⟨j, hj, e⟩ := hb.1 hc
  exact absurd (by rw [rgetD_at8 (by omega)]; exact e) (hh j hj)
 rw [if_neg hc]
 exact ⟨fun _ j hj e => hc (hb.2 ⟨j, hj, by rw [rgetD_at8 (by omega)] at e; exact e⟩), fun _ => rfl⟩
theorem ro_iff {n q : Nat} {R : List Ro} {gl : List UInt8 → Option Int} (hq : q < R.length) (hg : ∀ s, (gl s).isSome = (R.take q).any (fun z => decide (z.name = s))) :
  roOk n R q ↔ q < 256 ∧ nameB R[q].name = true ∧ 0 ≤ R[q].ty ∧ R[q].ty < (n : Int) ∧ mN R q gl R[q].name = q + 1 := by
 rw [mN_iff hq hg, roOk, rgetD_at8 hq]
theorem gl_step {R : List Ro} {q : Nat} {gl : List UInt8 → Option Int} (hq : q < R.length) (hg : ∀ s, (gl s).isSome = (R.take q).any (fun z => decide (z.name = s))) (v : Int) : ∀ s, ((fun c => if c = R[q].name then some v else gl c) s : Option Int).isSome = (R.take (q + 1)).any (fun z => decide (z.name = s)) := fun s => by
 rw [any_snoc hq, ← hg s]
 by_cases e : s = R[q].name
 ·simp [e]
 have e2 : ¬ R[q].name = s := fun h => e h.symm
 simp [e, e2]
/-- what the machine can hold of a list of roots -/
structure RLim (R : List Ro) : Prop where
 len : R.length * 24 ≤ 140737488351232
 nm : ∀ r ∈ R, r.name.length ≤ 9223372036854775807

set_option maxHeartbeats 4000000 in
theorem tcheck_spec (L : List Tp) (R : List Ro) (tv rv : Value) (V : Nat → Value) (w0 : World) (hS : SchR w0 L R tv rv V) (hlL : LLim L) (hlR : RLim R) : Ca Try.prog 9 #[.agg #[tv, rv]] w0 (fun v w' => v = .agg #[.int .i64 (scV L R).1, .int .i64 (scV L R).2] ∧ Ext w0 w') := by
 have hlen := hlL.len
 have hlr := hlR.len
 have hT := hS.ty
 have hR0 := hS.ro
 refine Ca.of Try.func9 Try.ntmps9 rfl rfl (W.seq (W.region (WL.c rfl (o_boxB rfl ?_))))
 intro w1 hC1 hx1 hs1
 obtain ⟨b1, hb1⟩ : ∃ b, b = w0.heap.size := ⟨_, rfl⟩
 rw [← hb1] at hC1 ⊢
 replace hC1 : w1.heap[b1]? = some (.cells ([tv, rv]).toArray 34 (0, 0)) := hC1
 have hx := hx1
 refine WL.c rfl (o_alB TI28 ?_)
 intro wb hC2 hxb hsb
 have hq1 := (Array.getElem?_eq_some_iff.1 hC1).1
 have hqx := hx.size
 replace hx := hx.tr hxb
 replace hC1 := hxb.blk hC1 (fun h => h)
 obtain ⟨c2, hc2⟩ : ∃ c, c = w1.heap.size := ⟨_, rfl⟩
 rw [← hc2] at hC2 ⊢
 have hz2 : w0.heap.size ≤ c2 := by rw [hc2]; exact hqx
 replace hC2 : wb.heap[c2]? = some (.cells #[.int .i64 0, .int .i64 0] 28 (0, 0)) := hC2
 clear hxb hq1
 refine WL.nil (W.seq (W.seq (W.region (WL.c rfl (o_fa 0 TI34 rfl TI31 rfl rfl (WL.c rfl (o_ld TI31 rfl rfl (cell_of hC1 rfl) (WL.c rfl (o_lenR TI31 rfl (hT.ext hx).row (WL.c rfl (o_mvh vI (WL.nil (W.block (W.loop (fun e w => ∃ i : Nat, i ≤ L.length ∧ e 1 = .pointer (some ⟨b1, 0, none⟩) ∧ e 2 = .pointer (some ⟨c2, 0, none⟩) ∧ e 10 = tv ∧ e 11 = .int .i64 (L.length : Int) ∧ e 12 = .int .i64 (i : Int) ∧ (∀ j (hj : j < L.length), j < i → tpOk L[j] (j : Int)) ∧ w.heap[b1]? = some (.cells #[tv, rv] 34 (0, 0)) ∧ w.heap[c2]? = some (.cells #[.int .i64 0, .int .i64 0] 28 (0, 0)) ∧ Ext w0 w) (fun e w => L.length - (intOf (e 12)).toNat) ?_ ?_))))))))))))))
 ·exact ⟨0, Nat.zero_le _, rfl, rfl, rfl, rfl, rfl, fun j hj h => by omega, hC1, hC2, hx⟩
 rintro e w ⟨i, hi, h1, h2, h10, h11, h12, hok, hC1, hC2, hx⟩
 have hm12 := h12
 refine W.seq (W.region (WL.c rfl (o_lt h12 h11 (WL.nil (W.seq (W.cond rfl (fun c13 => ?_) (fun c13 => ?_)))))))
 ·try simp only [cs8] at c13
  have hi1 : i < L.length := by omega
  obtain ⟨tb, to_, tc, hlv, htc, hty⟩ := (hT.ext hx).atk hi1
  rw [hlv] at h10
  have htl := hlL.ty _ (List.getElem_mem hi1)
  obtain ⟨t, ht⟩ : ∃ t, t = L[i] := ⟨_, rfl⟩
  rw [← ht] at htc hty htl
  refine W.skip (W.seq (W.block (W.seq (W.region (WL.c rfl (o_mvh h12 (WL.c rfl (o_ixB (i := i) TI31 TI50 h10 h12 (by omega) (WL.c rfl (o_ldA TI50 rfl rfl htc rfl (WL.c rfl (o_alB TI50 ?_))))))))))))
  intro wa hCa hxa hsa
  refine WL.c rfl (o_ash vI (WL.u (o_stA TI50 rfl (show _ = Value.agg (tcell t (V i)).toArray from rfl) rfl (List.all_eq_true.2 (tcell_all (sl_one1 hty))) hCa rfl ?_)))
  intro wb4 hC4 hob hsb
  have hxb := Ext.own hxa (Nat.le_refl _) hob
  obtain ⟨b4, hb4⟩ : ∃ b, b = w.heap.size := ⟨_, rfl⟩
  rw [← hb4] at hC4 ⊢
  clear hCa hxa hsa hob hsb
  replace hx := hx.tr hxb
  replace hC1 := hxb.blk hC1 (fun h => h)
  replace hC2 := hxb.blk hC2 (fun h => h)
  replace hty := hty.ext hxb
  clear hxb
  refine WL.nil (W.seq (W.region (WL.c rfl (o_ldA TI50 rfl rfl (show Cells _ b4 0 (tcell t (V i)) from Cells.of hC4 0 _ (by simp)) rfl (WL.c rfl (o_mvh vI (WL.c rfl (o_call Try.call32 (lc rfl (lc rfl ln)) ((tright_spec t (V i) (i : Int) _ hty htl).mono ?_)))))))))
  rintro v19 w19 ⟨rfl, hx19⟩
  replace hx := hx.tr hx19
  replace hC1 := hx19.blk hC1 (fun h => h)
  replace hC2 := hx19.blk hC2 (fun h => h)
  refine WL.c rfl (o_not' rfl (WL.nil (W.cond rfl (fun c20 => ?_) (fun c20 => ?_))))
  ·try simp only [cs8] at c20
   have hti : ¬ tpOk t (i : Int) := by rw [← tpB_iff]; simpa using c20
   refine W.seq ?_
   skip
   skip
   refine W.region (WL.c rfl (o_mvh vI (WL.c rfl (o_bldC (cs := [(.int .i64 92), _]) TI28 (Sizes.cons TI26 (Sizes.cons TI3 Sizes.nil)) rfl (lcp vI (lcp vI lnp)) rfl rfl (WL.u (o_stA TI28 h2 (show _ = Value.agg #[.int .i64 92, .int .i64 (i : Int)] from rfl) rfl rfl hC2 rfl ?_))))))
   intro wz hCz hoz hsz
   replace hx := hx.trans' hoz (fun _ h => h) (fun b hb he => by omega)
   refine WL.nil (W.ret (retC rfl TI28 rfl h2 (show Cells _ c2 0 [.int .i64 92, .int .i64 (i : Int)] from Cells.of hCz 0 _ (by simp)) rfl ?_))
   exact ⟨by rw [sc_tp hi1 (ht ▸ hti) hok], hx⟩
  try simp only [cs8] at c20
  have hti : tpOk t (i : Int) := by rw [← tpB_iff]; simpa using c20
  refine W.skip (W.region (WL.c rfl (o_addi h12 rfl (by omega) (WL.c rfl (o_mvh vI (WL.nil (⟨⟨i + 1, by omega, h1, h2, h10.trans hlv.symm, h11, rfl, fun j hj h => ?_, hC1, hC2, hx⟩, ?_⟩)))))))
  ·rcases Nat.lt_or_ge j i with h5 | h5
   ·exact hok j hj h5
   have e : j = i := by omega
   subst e; exact ht ▸ hti
  show L.length - ((i : Int) + 1).toNat < _
  rw [hm12]; simp [intOf]; omega
 try simp only [cs8] at c13
 have hi1 : i = L.length := by omega
 have hok2 : ∀ j (hj : j < L.length), tpOk L[j] (j : Int) := fun j hj => hok j hj (by omega)
 have htn := sc_tpn hok2
 refine W.exit (W.seq (W.seq (W.region (WL.c rfl (o_fa 0 TI34 rfl TI31 rfl h1 (WL.c rfl (o_ld TI31 rfl rfl (cell_of hC1 rfl) (WL.c rfl (o_call Try.call33 (lc rfl ln) ((tdeep_spec L tv V _ (hT.ext hx) hok2 hlL).mono ?_))))))))))
 rintro v26 w26 ⟨rfl, hx26⟩
 replace hx := hx.tr hx26
 replace hC1 := hx26.blk hC1 (fun h => h)
 replace hC2 := hx26.blk hC2 (fun h => h)
 refine WL.c rfl (o_alB TI28 ?_)
 intro wa hCa hxa hsa
 refine WL.u (o_stA TI28 rfl (show _ = Value.agg ([.int .i64 (dpV L).1, .int .i64 (dpV L).2]).toArray from rfl) rfl rfl hCa rfl ?_)
 intro wb5 hC5 hob hsb
 have hxb := Ext.own hxa (Nat.le_refl _) hob
 obtain ⟨b5, hb5⟩ : ∃ b, b = w26.heap.size := ⟨_, rfl⟩
 rw [← hb5] at hC5 ⊢
 clear hCa hxa hsa hob hsb
 replace hx := hx.tr hxb
 replace hC1 := hxb.blk hC1 (fun h => h)
 replace hC2 := hxb.blk hC2 (fun h => h)
 clear hxb
 refine WL.nil (W.seq (W.region (WL.c rfl (o_fa 0 TI28 rfl TI26 rfl rfl (WL.c rfl (o_ld TI26 rfl rfl (cell_of hC5 rfl) (WL.c rfl (o_ne rfl rfl (WL.nil (W.cond rfl (fun c29 => ?_) (fun c29 => ?_)))))))))))
 ·try simp only [cs8] at c29
  have hdv : ¬ (dpV L).1 = 0 := by simpa using c29
  refine W.seq ?_
  skip
  skip
  refine W.region (WL.c rfl (o_ldA TI28 rfl rfl (show Cells _ b5 0 [.int .i64 (dpV L).1, .int .i64 (dpV L).2] from Cells.of hC5 0 _ (by simp)) rfl (WL.u (o_stA TI28 h2 (show _ = Value.agg #[.int .i64 (dpV L).1, .int .i64 (dpV L).2] from rfl) rfl rfl hC2 rfl ?_))))
  intro wz hCz hoz hsz
  replace hx := hx.trans' hoz (fun _ h => h) (fun b hb he => by omega)
  refine WL.nil (W.ret (retC rfl TI28 rfl h2 (show Cells _ c2 0 [.int .i64 (dpV L).1, .int .i64 (dpV L).2] from Cells.of hCz 0 _ (by simp)) rfl ?_))
  exact ⟨by rw [sc_dp htn hdv], hx⟩
 try simp only [cs8] at c29
 have hdn : dpF L = none := dpV_iff.1 (by simpa using c29)
 refine W.skip (W.seq (W.region (WL.c rfl (o_mkM ?_))))
 have hML := MapN.made Try.prog 9 3 enS wb5
 have hxm : Ext wb5 (wb5.alloc (.map #[] 0)) := Only.alloc wb5 _
 obtain ⟨lb, hlb⟩ : ∃ b, b = wb5.heap.size := ⟨_, rfl⟩
 have hzlb : w0.heap.size ≤ lb := by rw [hlb]; exact hx.size
 rw [← hlb] at hML ⊢
 generalize wb5.alloc (.map #[] 0) = wm at hML hxm ⊢
 replace hx := hx.tr hxm
 replace hC1 := hxm.blk hC1 (fun h => h)
 replace hC2 := hxm.blk hC2 (fun h => h)
 refine WL.c rfl (o_as (WL.nil (W.seq (W.seq (W.region (WL.c rfl (o_fa 1 TI34 rfl TI32 rfl h1 (WL.c rfl (o_ld TI32 rfl rfl (cell_of hC1 rfl) (WL.c rfl (o_lenR TI32 rfl (hR0.ext hx) (WL.c rfl (o_mvh vI (WL.nil (W.block (W.loop (fun e w => ∃ (q : Nat) (gl : List UInt8 → Option Int), q ≤ R.length ∧ e 1 = .pointer (some ⟨b1, 0, none⟩) ∧ e 2 = .pointer (some ⟨c2, 0, none⟩) ∧ e 6 = .map (some lb) ∧ e 33 = rv ∧ e 34 = .int .i64 (R.length : Int) ∧ e 35 = .int .i64 (q : Int) ∧ (∀ j, j < q → roOk L.length R j) ∧ MapN Try.prog 9 3 enS w lb q gl ∧ (∀ s, (gl s).isSome = (R.take q).any (fun z => decide (z.name = s))) ∧ w.heap[b1]? = some (.cells #[tv, rv] 34 (0, 0)) ∧ w.heap[c2]? = some (.cells #[.int .i64 0, .int .i64 0] 28 (0, 0)) ∧ Ext w0 w) (fun e w => R.length - (intOf (e 35)).toNat) ?_ ?_))))))))))))))))
 ·exact ⟨0, fun _ => none, Nat.zero_le _, h1, h2, rfl, rfl, rfl, rfl, fun j hj => by omega, hML, fun s => rfl, hC1, hC2, hx⟩
 rintro e w ⟨q, gl, hq, h1, h2, h6, h33, h34, h35, hno, hML, hgl, hC1, hC2, hx⟩
 have hm35 := h35
 refine W.seq (W.region (WL.c rfl (o_lt h35 h34 (WL.nil (W.seq (W.cond rfl (fun c36 => ?_) (fun c36 => ?_)))))))
 ·try simp only [cs8] at c36
  have hq1 : q < R.length := by omega
  obtain ⟨ub, uo, uc, hrv, huc⟩ := Sl.roq (hR0.ext hx) hq1
  rw [hrv] at h33
  have hgl2 := gl_step hq1 hgl (q : Int)
  have hnl : R[q].name.length ≤ 9223372036854775807 := hlR.nm _ (List.getElem_mem hq1)
  obtain ⟨r, hr⟩ : ∃ r, r = R[q] := ⟨_, rfl⟩
  rw [← hr] at huc hgl2 hnl
  refine W.skip (W.seq (W.block (W.seq (W.region (WL.c rfl (o_mvh h35 (WL.c rfl (o_ixB (i := q) TI32 TI47 h33 h35 (by omega) (WL.c rfl (o_ldA TI47 rfl rfl huc rfl (WL.c rfl (o_alB TI47 ?_))))))))))))
  intro wa hCa hxa hsa
  refine WL.c rfl (o_ash vI (WL.u (o_stA TI47 rfl (show _ = Value.agg (roV r).toArray from rfl) rfl rfl hCa rfl ?_)))
  intro wb8 hC8 hob hsb
  have hxb := Ext.own hxa (Nat.le_refl _) hob
  obtain ⟨b8, hb8⟩ : ∃ b, b = w.heap.size := ⟨_, rfl⟩
  rw [← hb8] at hC8 ⊢
  clear hCa hxa hsa hob hsb
  replace hx := hx.tr hxb
  replace hC1 := hxb.blk hC1 (fun h => h)
  replace hC2 := hxb.blk hC2 (fun h => h)
  replace hML := hML.ext hxb
  clear hxb
  refine WL.nil (W.seq (W.region (WL.c rfl (o_mvh h6 (WL.c rfl (o_fa 0 TI47 rfl TI9 rfl rfl (WL.c rfl (o_ld TI9 rfl rfl (cell_of hC8 rfl) (WL.c rfl (o_mvh vI (WL.u (o_muN enS_inj MT88 rfl hML rfl (keyS Try.underlying9 (by rw [maxLen_eq]; omega)) rfl (wf_i64 (by omega)) (by rw [maxLen_eq]; omega) ?_))))))))))))
  intro wq hMq hoq hsq
  replace hC1 := hoq.blk hC1 (map_blk_ne hML.is hC1)
  replace hC2 := hoq.blk hC2 (map_blk_ne hML.is hC2)
  replace hC8 := hoq.blk hC8 (map_blk_ne hML.is hC8)
  replace hx := hx.trans' hoq (fun _ h => h) (fun b hb e => by omega)
  replace hML : MapN Try.prog 9 3 enS wq lb (mN R q gl r.name) _ := hMq
  refine WL.nil (W.seq ?_)
  by_cases hN : nameB r.name = true
  by_cases hD : mN R q gl r.name = q + 1
  by_cases hB : 0 ≤ r.ty
  by_cases hC : r.ty < (L.length : Int)
  by_cases hE : q < 256
  ·skip
   refine W.region (WL.c rfl (o_fa 0 TI47 rfl TI9 rfl rfl (WL.c rfl (o_ld TI9 rfl rfl (cell_of hC8 rfl) (WL.c rfl (o_call Try.call34 (lc rfl ln) ((name_spec r.name _ hnl).mono ?_)))))))
   rintro v46 w46 ⟨rfl, rfl⟩
   refine WL.c rfl (o_not' rfl (WL.c rfl (o_mvh vB (WL.g rfl (by simp [hN]) rfl (o_mvh h6 (WL.g rfl (by simp [hN]) rfl (o_lenM Try.underlying88 rfl hML (WL.g rfl (by simp [hN]) rfl (o_mvh vI (WL.g rfl (by simp [hN]) rfl (o_addi rfl rfl (by omega) (WL.g rfl (by simp [hN]) rfl (o_ne rfl rfl (WL.c rfl (o_pickO rfl rfl (WL.c rfl (o_mvh vB (WL.g rfl (by simp [hN, hD]) rfl (o_fa 1 TI47 rfl TI3 rfl rfl (WL.g rfl (by simp [hN, hD]) rfl (o_ld TI3 rfl rfl (cell_of hC8 rfl) (WL.g rfl (by simp [hN, hD]) rfl (o_lt rfl rfl (WL.c rfl (o_pickO rfl rfl (WL.c rfl (o_mvh vB (WL.g rfl (by simp [hN, hD, hB]) rfl (o_fa 1 TI47 rfl TI3 rfl rfl (WL.g rfl (by simp [hN, hD, hB]) rfl (o_ld TI3 rfl rfl (cell_of hC8 rfl) (WL.g rfl (by simp [hN, hD, hB]) rfl (o_fa 0 TI34 rfl TI31 rfl h1 (WL.g rfl (by simp [hN, hD, hB]) rfl (o_ld TI31 rfl rfl (cell_of hC1 rfl) (WL.g rfl (by simp [hN, hD, hB]) rfl (o_lenR TI31 rfl (hT.ext hx).row (WL.g rfl (by simp [hN, hD, hB]) rfl (o_ge rfl rfl (WL.c rfl (o_pickO rfl rfl (WL.c rfl (o_mvh vB (WL.g rfl (by simp [hN, hD, hB, hC]) rfl (o_mvh vI (WL.g rfl (by simp [hN, hD, hB, hC]) rfl (o_ge rfl rfl (WL.c rfl (o_pickO rfl rfl (WL.nil (W.condF' rfl (by simp [hN, hD, hB, hC]; omega) (W.skip (W.region (WL.c rfl (o_addi h35 rfl (by omega) (WL.c rfl (o_mvh vI (WL.nil (⟨⟨q + 1, _, by omega, h1, h2, h6, h33.trans hrv.symm, h34, rfl, fun j hj => ?_, (by rw [hD] at hML; exact hML), hgl2, hC1, hC2, hx⟩, ?_⟩)))))))))))))))))))))))))))))))))))))))))))))))))))))))))))
   ·rcases Nat.lt_or_ge j q with h | h
    ·exact hno j h
    rw [show j = q by omega]
    exact (ro_iff hq1 hgl).2 ⟨hE, hr ▸ hN, hr ▸ hB, hr ▸ hC, hr ▸ hD⟩
   show R.length - ((q : Int) + 1).toNat < _
   rw [hm35]; simp [intOf]; omega
  ·skip
   have hbad : ¬ roOk L.length R q := fun hh => by
    have h4 := ((ro_iff hq1 hgl).1 hh).1
    exact hE h4
   refine W.region (WL.c rfl (o_fa 0 TI47 rfl TI9 rfl rfl (WL.c rfl (o_ld TI9 rfl rfl (cell_of hC8 rfl) (WL.c rfl (o_call Try.call34 (lc rfl ln) ((name_spec r.name _ hnl).mono ?_)))))))
   rintro v46 w46 ⟨rfl, rfl⟩
   refine WL.c rfl (o_not' rfl (WL.c rfl (o_mvh vB (WL.g rfl (by simp [hN]) rfl (o_mvh h6 (WL.g rfl (by simp [hN]) rfl (o_lenM Try.underlying88 rfl hML (WL.g rfl (by simp [hN]) rfl (o_mvh vI (WL.g rfl (by simp [hN]) rfl (o_addi rfl rfl (by omega) (WL.g rfl (by simp [hN]) rfl (o_ne rfl rfl (WL.c rfl (o_pickO rfl rfl (WL.c rfl (o_mvh vB (WL.g rfl (by simp [hN, hD]) rfl (o_fa 1 TI47 rfl TI3 rfl rfl (WL.g rfl (by simp [hN, hD]) rfl (o_ld TI3 rfl rfl (cell_of hC8 rfl) (WL.g rfl (by simp [hN, hD]) rfl (o_lt rfl rfl (WL.c rfl (o_pickO rfl rfl (WL.c rfl (o_mvh vB (WL.g rfl (by simp [hN, hD, hB]) rfl (o_fa 1 TI47 rfl TI3 rfl rfl (WL.g rfl (by simp [hN, hD, hB]) rfl (o_ld TI3 rfl rfl (cell_of hC8 rfl) (WL.g rfl (by simp [hN, hD, hB]) rfl (o_fa 0 TI34 rfl TI31 rfl h1 (WL.g rfl (by simp [hN, hD, hB]) rfl (o_ld TI31 rfl rfl (cell_of hC1 rfl) (WL.g rfl (by simp [hN, hD, hB]) rfl (o_lenR TI31 rfl (hT.ext hx).row (WL.g rfl (by simp [hN, hD, hB]) rfl (o_ge rfl rfl (WL.c rfl (o_pickO rfl rfl (WL.c rfl (o_mvh vB (WL.g rfl (by simp [hN, hD, hB, hC]) rfl (o_mvh vI (WL.g rfl (by simp [hN, hD, hB, hC]) rfl (o_ge rfl rfl (WL.c rfl (o_pickO rfl rfl (WL.nil (W.condT' rfl (by rw [decide_eq_true (show (256 : Int) ≤ (q : Int) by omega)]; simp) (W.seq ?_))))))))))))))))))))))))))))))))))))))))))))))))))))
   skip
   skip
   refine W.region (WL.c rfl (o_fa 0 TI34 rfl TI31 rfl h1 (WL.c rfl (o_ld TI31 rfl rfl (cell_of hC1 rfl) (WL.c rfl (o_lenR TI31 rfl (hT.ext hx).row (WL.c rfl (o_mvh vI (WL.c rfl (o_addi rfl rfl (by omega) (WL.c rfl (o_bldC (cs := [(.int .i64 92), _]) TI28 (Sizes.cons TI26 (Sizes.cons TI3 Sizes.nil)) rfl (lcp vI (lcp vI lnp)) rfl rfl (WL.u (o_stA TI28 h2 (show _ = Value.agg #[.int .i64 92, .int .i64 ((L.length : Int) + (q : Int))] from rfl) rfl rfl hC2 rfl ?_))))))))))))))
   intro wz hCz hoz hsz
   replace hx := hx.trans' hoz (fun _ h => h) (fun b hb he => by omega)
   refine WL.nil (W.ret (retC rfl TI28 rfl h2 (show Cells _ c2 0 [.int .i64 92, .int .i64 ((L.length : Int) + (q : Int))] from Cells.of hCz 0 _ (by simp)) rfl ?_))
   exact ⟨by rw [sc_ro htn hdn hq1 hbad hno], hx⟩
  ·skip
   have hbad : ¬ roOk L.length R q := fun hh => by
    have h4 := ((ro_iff hq1 hgl).1 hh).2.2.2.1
    rw [← hr] at h4
    exact hC h4
   refine W.region (WL.c rfl (o_fa 0 TI47 rfl TI9 rfl rfl (WL.c rfl (o_ld TI9 rfl rfl (cell_of hC8 rfl) (WL.c rfl (o_call Try.call34 (lc rfl ln) ((name_spec r.name _ hnl).mono ?_)))))))
   rintro v46 w46 ⟨rfl, rfl⟩
   refine WL.c rfl (o_not' rfl (WL.c rfl (o_mvh vB (WL.g rfl (by simp [hN]) rfl (o_mvh h6 (WL.g rfl (by simp [hN]) rfl (o_lenM Try.underlying88 rfl hML (WL.g rfl (by simp [hN]) rfl (o_mvh vI (WL.g rfl (by simp [hN]) rfl (o_addi rfl rfl (by omega) (WL.g rfl (by simp [hN]) rfl (o_ne rfl rfl (WL.c rfl (o_pickO rfl rfl (WL.c rfl (o_mvh vB (WL.g rfl (by simp [hN, hD]) rfl (o_fa 1 TI47 rfl TI3 rfl rfl (WL.g rfl (by simp [hN, hD]) rfl (o_ld TI3 rfl rfl (cell_of hC8 rfl) (WL.g rfl (by simp [hN, hD]) rfl (o_lt rfl rfl (WL.c rfl (o_pickO rfl rfl (WL.c rfl (o_mvh vB (WL.g rfl (by simp [hN, hD, hB]) rfl (o_fa 1 TI47 rfl TI3 rfl rfl (WL.g rfl (by simp [hN, hD, hB]) rfl (o_ld TI3 rfl rfl (cell_of hC8 rfl) (WL.g rfl (by simp [hN, hD, hB]) rfl (o_fa 0 TI34 rfl TI31 rfl h1 (WL.g rfl (by simp [hN, hD, hB]) rfl (o_ld TI31 rfl rfl (cell_of hC1 rfl) (WL.g rfl (by simp [hN, hD, hB]) rfl (o_lenR TI31 rfl (hT.ext hx).row (WL.g rfl (by simp [hN, hD, hB]) rfl (o_ge rfl rfl (WL.c rfl (o_pickO rfl rfl (WL.c rfl (o_mvh vB (WL.s rfl (by rw [decide_eq_true (show (L.length : Int) ≤ r.ty by omega)]; simp) rfl (WL.s rfl (by rw [decide_eq_true (show (L.length : Int) ≤ r.ty by omega)]; simp) rfl (WL.c rfl (o_pickT rfl (by rw [decide_eq_true (show (L.length : Int) ≤ r.ty by omega)]; simp) (WL.nil (W.condT' rfl (rfl) (W.seq ?_))))))))))))))))))))))))))))))))))))))))))))))))))
   skip
   skip
   refine W.region (WL.c rfl (o_fa 0 TI34 rfl TI31 rfl h1 (WL.c rfl (o_ld TI31 rfl rfl (cell_of hC1 rfl) (WL.c rfl (o_lenR TI31 rfl (hT.ext hx).row (WL.c rfl (o_mvh vI (WL.c rfl (o_addi rfl rfl (by omega) (WL.c rfl (o_bldC (cs := [(.int .i64 92), _]) TI28 (Sizes.cons TI26 (Sizes.cons TI3 Sizes.nil)) rfl (lcp vI (lcp vI lnp)) rfl rfl (WL.u (o_stA TI28 h2 (show _ = Value.agg #[.int .i64 92, .int .i64 ((L.length : Int) + (q : Int))] from rfl) rfl rfl hC2 rfl ?_))))))))))))))
   intro wz hCz hoz hsz
   replace hx := hx.trans' hoz (fun _ h => h) (fun b hb he => by omega)
   refine WL.nil (W.ret (retC rfl TI28 rfl h2 (show Cells _ c2 0 [.int .i64 92, .int .i64 ((L.length : Int) + (q : Int))] from Cells.of hCz 0 _ (by simp)) rfl ?_))
   exact ⟨by rw [sc_ro htn hdn hq1 hbad hno], hx⟩
  ·skip
   have hbad : ¬ roOk L.length R q := fun hh => by
    have h4 := ((ro_iff hq1 hgl).1 hh).2.2.1
    rw [← hr] at h4
    exact hB h4
   refine W.region (WL.c rfl (o_fa 0 TI47 rfl TI9 rfl rfl (WL.c rfl (o_ld TI9 rfl rfl (cell_of hC8 rfl) (WL.c rfl (o_call Try.call34 (lc rfl ln) ((name_spec r.name _ hnl).mono ?_)))))))
   rintro v46 w46 ⟨rfl, rfl⟩
   refine WL.c rfl (o_not' rfl (WL.c rfl (o_mvh vB (WL.g rfl (by simp [hN]) rfl (o_mvh h6 (WL.g rfl (by simp [hN]) rfl (o_lenM Try.underlying88 rfl hML (WL.g rfl (by simp [hN]) rfl (o_mvh vI (WL.g rfl (by simp [hN]) rfl (o_addi rfl rfl (by omega) (WL.g rfl (by simp [hN]) rfl (o_ne rfl rfl (WL.c rfl (o_pickO rfl rfl (WL.c rfl (o_mvh vB (WL.g rfl (by simp [hN, hD]) rfl (o_fa 1 TI47 rfl TI3 rfl rfl (WL.g rfl (by simp [hN, hD]) rfl (o_ld TI3 rfl rfl (cell_of hC8 rfl) (WL.g rfl (by simp [hN, hD]) rfl (o_lt rfl rfl (WL.c rfl (o_pickO rfl rfl (WL.c rfl (o_mvh vB (WL.s rfl (by rw [decide_eq_true (show r.ty < 0 by omega)]; simp) rfl (WL.s rfl (by rw [decide_eq_true (show r.ty < 0 by omega)]; simp) rfl (WL.s rfl (by rw [decide_eq_true (show r.ty < 0 by omega)]; simp) rfl (WL.s rfl (by rw [decide_eq_true (show r.ty < 0 by omega)]; simp) rfl (WL.s rfl (by rw [decide_eq_true (show r.ty < 0 by omega)]; simp) rfl (WL.s rfl (by rw [decide_eq_true (show r.ty < 0 by omega)]; simp) rfl (WL.c rfl (o_pickT rfl (by rw [decide_eq_true (show r.ty < 0 by omega)]; simp) (WL.c rfl (o_mvh vB (WL.s rfl (rfl) rfl (WL.s rfl (rfl) rfl (WL.c rfl (o_pickT rfl (rfl) (WL.nil (W.condT' rfl (rfl) (W.seq ?_))))))))))))))))))))))))))))))))))))))))))))
   skip
   skip
   refine W.region (WL.c rfl (o_fa 0 TI34 rfl TI31 rfl h1 (WL.c rfl (o_ld TI31 rfl rfl (cell_of hC1 rfl) (WL.c rfl (o_lenR TI31 rfl (hT.ext hx).row (WL.c rfl (o_mvh vI (WL.c rfl (o_addi rfl rfl (by omega) (WL.c rfl (o_bldC (cs := [(.int .i64 92), _]) TI28 (Sizes.cons TI26 (Sizes.cons TI3 Sizes.nil)) rfl (lcp vI (lcp vI lnp)) rfl rfl (WL.u (o_stA TI28 h2 (show _ = Value.agg #[.int .i64 92, .int .i64 ((L.length : Int) + (q : Int))] from rfl) rfl rfl hC2 rfl ?_))))))))))))))
   intro wz hCz hoz hsz
   replace hx := hx.trans' hoz (fun _ h => h) (fun b hb he => by omega)
   refine WL.nil (W.ret (retC rfl TI28 rfl h2 (show Cells _ c2 0 [.int .i64 92, .int .i64 ((L.length : Int) + (q : Int))] from Cells.of hCz 0 _ (by simp)) rfl ?_))
   exact ⟨by rw [sc_ro htn hdn hq1 hbad hno], hx⟩
  ·skip
   have hbad : ¬ roOk L.length R q := fun hh => by
    have h4 := ((ro_iff hq1 hgl).1 hh).2.2.2.2
    rw [← hr] at h4
    exact hD h4
   refine W.region (WL.c rfl (o_fa 0 TI47 rfl TI9 rfl rfl (WL.c rfl (o_ld TI9 rfl rfl (cell_of hC8 rfl) (WL.c rfl (o_call Try.call34 (lc rfl ln) ((name_spec r.name _ hnl).mono ?_)))))))
   rintro v46 w46 ⟨rfl, rfl⟩
   refine WL.c rfl (o_not' rfl (WL.c rfl (o_mvh vB (WL.g rfl (by simp [hN]) rfl (o_mvh h6 (WL.g rfl (by simp [hN]) rfl (o_lenM Try.underlying88 rfl hML (WL.g rfl (by simp [hN]) rfl (o_mvh vI (WL.g rfl (by simp [hN]) rfl (o_addi rfl rfl (by omega) (WL.g rfl (by simp [hN]) rfl (o_ne rfl rfl (WL.c rfl (o_pickO rfl rfl (WL.c rfl (o_mvh vB (WL.s rfl (by rw [decide_eq_false (show ¬ ((mN R q gl r.name : Nat) : Int) = (q : Int) + 1 by omega)]; simp) rfl (WL.s rfl (by rw [decide_eq_false (show ¬ ((mN R q gl r.name : Nat) : Int) = (q : Int) + 1 by omega)]; simp) rfl (WL.s rfl (by rw [decide_eq_false (show ¬ ((mN R q gl r.name : Nat) : Int) = (q : Int) + 1 by omega)]; simp) rfl (WL.c rfl (o_pickT rfl (by rw [decide_eq_false (show ¬ ((mN R q gl r.name : Nat) : Int) = (q : Int) + 1 by omega)]; simp) (WL.c rfl (o_mvh vB (WL.s rfl (rfl) rfl (WL.s rfl (rfl) rfl (WL.s rfl (rfl) rfl (WL.s rfl (rfl) rfl (WL.s rfl (rfl) rfl (WL.s rfl (rfl) rfl (WL.c rfl (o_pickT rfl (rfl) (WL.c rfl (o_mvh vB (WL.s rfl (rfl) rfl (WL.s rfl (rfl) rfl (WL.c rfl (o_pickT rfl (rfl) (WL.nil (W.condT' rfl (rfl) (W.seq ?_)))))))))))))))))))))))))))))))))))))))))
   skip
   skip
   refine W.region (WL.c rfl (o_fa 0 TI34 rfl TI31 rfl h1 (WL.c rfl (o_ld TI31 rfl rfl (cell_of hC1 rfl) (WL.c rfl (o_lenR TI31 rfl (hT.ext hx).row (WL.c rfl (o_mvh vI (WL.c rfl (o_addi rfl rfl (by omega) (WL.c rfl (o_bldC (cs := [(.int .i64 92), _]) TI28 (Sizes.cons TI26 (Sizes.cons TI3 Sizes.nil)) rfl (lcp vI (lcp vI lnp)) rfl rfl (WL.u (o_stA TI28 h2 (show _ = Value.agg #[.int .i64 92, .int .i64 ((L.length : Int) + (q : Int))] from rfl) rfl rfl hC2 rfl ?_))))))))))))))
   intro wz hCz hoz hsz
   replace hx := hx.trans' hoz (fun _ h => h) (fun b hb he => by omega)
   refine WL.nil (W.ret (retC rfl TI28 rfl h2 (show Cells _ c2 0 [.int .i64 92, .int .i64 ((L.length : Int) + (q : Int))] from Cells.of hCz 0 _ (by simp)) rfl ?_))
   exact ⟨by rw [sc_ro htn hdn hq1 hbad hno], hx⟩
  skip
  have hbad : ¬ roOk L.length R q := fun hh => by
   have h4 := ((ro_iff hq1 hgl).1 hh).2.1
   rw [← hr] at h4
   exact hN h4
  refine W.region (WL.c rfl (o_fa 0 TI47 rfl TI9 rfl rfl (WL.c rfl (o_ld TI9 rfl rfl (cell_of hC8 rfl) (WL.c rfl (o_call Try.call34 (lc rfl ln) ((name_spec r.name _ hnl).mono ?_)))))))
  rintro v46 w46 ⟨rfl, rfl⟩
  refine WL.c rfl (o_not' rfl (WL.c rfl (o_mvh vB (WL.s rfl (by simpa using hN) rfl (WL.s rfl (by simpa using hN) rfl (WL.s rfl (by simpa using hN) rfl (WL.s rfl (by simpa using hN) rfl (WL.s rfl (by simpa using hN) rfl (WL.c rfl (o_pickT rfl (by simpa using hN) (WL.c rfl (o_mvh vB (WL.s rfl (rfl) rfl (WL.s rfl (rfl) rfl (WL.s rfl (rfl) rfl (WL.c rfl (o_pickT rfl (rfl) (WL.c rfl (o_mvh vB (WL.s rfl (rfl) rfl (WL.s rfl (rfl) rfl (WL.s rfl (rfl) rfl (WL.s rfl (rfl) rfl (WL.s rfl (rfl) rfl (WL.s rfl (rfl) rfl (WL.c rfl (o_pickT rfl (rfl) (WL.c rfl (o_mvh vB (WL.s rfl (rfl) rfl (WL.s rfl (rfl) rfl (WL.c rfl (o_pickT rfl (rfl) (WL.nil (W.condT' rfl (rfl) (W.seq ?_))))))))))))))))))))))))))))))))))))
  skip
  skip
  refine W.region (WL.c rfl (o_fa 0 TI34 rfl TI31 rfl h1 (WL.c rfl (o_ld TI31 rfl rfl (cell_of hC1 rfl) (WL.c rfl (o_lenR TI31 rfl (hT.ext hx).row (WL.c rfl (o_mvh vI (WL.c rfl (o_addi rfl rfl (by omega) (WL.c rfl (o_bldC (cs := [(.int .i64 92), _]) TI28 (Sizes.cons TI26 (Sizes.cons TI3 Sizes.nil)) rfl (lcp vI (lcp vI lnp)) rfl rfl (WL.u (o_stA TI28 h2 (show _ = Value.agg #[.int .i64 92, .int .i64 ((L.length : Int) + (q : Int))] from rfl) rfl rfl hC2 rfl ?_))))))))))))))
  intro wz hCz hoz hsz
  replace hx := hx.trans' hoz (fun _ h => h) (fun b hb he => by omega)
  refine WL.nil (W.ret (retC rfl TI28 rfl h2 (show Cells _ c2 0 [.int .i64 92, .int .i64 ((L.length : Int) + (q : Int))] from Cells.of hCz 0 _ (by simp)) rfl ?_))
  exact ⟨by rw [sc_ro htn hdn hq1 hbad hno], hx⟩
 try simp only [cs8] at c36
 have hq1 : q = R.length := by omega
 rw [hq1] at hno
 refine W.exit (W.seq ?_)
 skip
 skip
 refine W.region (WL.c rfl (o_bldC (cs := [(.int .i64 0), (.int .i64 0)]) TI28 (Sizes.cons TI26 (Sizes.cons TI3 Sizes.nil)) rfl lnp rfl rfl (WL.u (o_stA TI28 h2 (show _ = Value.agg #[.int .i64 0, .int .i64 0] from rfl) rfl rfl hC2 rfl ?_))))
 intro wz hCz hoz hsz
 replace hx := hx.trans' hoz (fun _ h => h) (fun b hb he => by omega)
 refine WL.nil (W.ret (retC rfl TI28 rfl h2 (show Cells _ c2 0 [.int .i64 0, .int .i64 0] from Cells.of hCz 0 _ (by simp)) rfl ?_))
 exact ⟨by rw [sc_ok htn hdn hno], hx⟩
end Go.Proofs.Ytpbflfgigfdohaa

namespace Go.Proofs.Ytpbflfgigfdohaa
open Go Go.Vc Go.RowKit Go.Proofs

def DA9 : List Df := [⟨[97], 0, [⟨5, 3, [], [], 0, 1, 0⟩, ⟨1, 2, [], [], 0, 0, 0⟩]⟩]
def TA9 : Nat → Tr := fun _ => .node ⟨5, 3, [], [], 0, 1, 0⟩ (.cons (.node ⟨1, 2, [], [], 0, 0, 0⟩ .nil) .nil)
theorem ckA9 : (chkS DA9).2.2 = 0 := by decide +kernel
theorem trdA9 : Trd DA9 TA9 := by
 refine ⟨by decide, fun i hi => ⟨by decide, by decide, by decide, by decide, ⟨by decide, by decide, by decide, by decide, trivial⟩, trivial⟩, by decide +kernel, fun i hi => ?_⟩
 obtain rfl : i = 0 := by simp [DA9] at hi; omega
 rfl
theorem usesA9 (i : Nat) : usesD DA9 i = [] := by
 match i with
 | 0 => decide +kernel
 | n + 1 => rfl
theorem acA9 : ∀ i, ¬ Relation.TransGen (Us (usesD DA9)) i i := rank_no (fun _ => 0) (fun i j hj => by rw [usesA9] at hj; cases hj)
theorem fAA9 : fA DA9 = none := by
 rw [fA_of ckA9 trdA9, show resF DA9 TA9 = none by decide +kernel, ring_none (fun j _ => acA9 j), show deepF DA9 TA9 = none by decide +kernel]
 rfl
theorem bnA9 : bndF DA9 = none := by decide +kernel
theorem bfA9 : bldF DA9 = none := bldF_none.2 ⟨ckA9, fAA9, bnA9⟩
theorem orA9 : ordN DA9 = [0] := by decide +kernel
theorem tdA9 : TD DA9 0 = TA9 0 := (trd_of ckA9).uniq trdA9 0 (by decide)
def LA9 : List Tp := [⟨1, 2, 0, []⟩, ⟨5, 3, 0, []⟩]
def RA9 : List Ro := [⟨[97], 1⟩]
theorem moA9 : mkO (whD DA9) (TD DA9) (ordN DA9) (fun _ => 0) [] = (upI (fun _ => 0) 0 1, LA9) := by
 rw [orA9, mkO, mkO, tdA9]
 simp [TA9, mkT, mkK, many7, LA9]
theorem scA9 : bldT DA9 = LA9 ∧ bldR DA9 = RA9 := by
 unfold bldT bldR
 rw [if_pos bfA9, if_pos bfA9]
 unfold schT schR
 rw [moA9]
 exact ⟨rfl, rfl⟩
theorem limA9 : DOk DA9 := ⟨by decide, fun d hd => by simp [DA9] at hd; subst hd; decide, fun d hd => by simp [DA9] at hd; subst hd; decide, fun d hd => by simp [DA9] at hd; subst hd; (intro x hx; simp at hx; rcases hx with rfl | rfl <;> decide)⟩
theorem build_A9 (dv : Value) (V : Nat → Value) (w0 : World) (hD : DefR w0 DA9 dv V) : Ca Try.prog 8 #[.agg #[dv]] w0 (fun v w' => ∃ tv rv U, v = .tuple #[.agg #[tv, rv], .agg #[.int .i64 0, .int .i64 0]] ∧ Schs w' w0.heap.size LA9 RA9 tv rv U ∧ Ext w0 w') := by
 refine (build_spec DA9 dv V w0 hD limA9 (fun d hd => by simp [DA9] at hd; subst hd; decide)).mono ?_
 rintro v w' ⟨tv, rv, U, rfl, h1, h2⟩
 rw [scA9.1, scA9.2] at h1
 exact ⟨tv, rv, U, by rw [(bldV_no bfA9).1, (bldV_no bfA9).2], h1, h2⟩
theorem okA9 : SOk LA9 RA9 := ⟨by decide, by simp [LA9], by decide, by simp [LA9], by simp [RA9]⟩
theorem find_A9 (tv rv : Value) (w0 : World) (hR : Sl w0 2 rv RA9.length (ros RA9)) (h1v : tv.oneCell' = true) : Ca Try.prog 10 #[.agg #[tv, rv], st [98]] w0 (fun v w' => v = .tuple #[.int .i64 0, .int .i64 93] ∧ Ext w0 w') :=
 (tfind_spec RA9 tv rv [98] w0 hR (by decide) h1v).mono fun v w' h => ⟨h.1, h.2⟩
theorem same_A9 (L1 : List Tp) (R1 : List Ro) (tv1 rv1 : Value) (V1 : Nat → Value) (L2 : List Tp) (R2 : List Ro) (tv2 rv2 : Value) (V2 : Nat → Value) (w0 : World) (hA : SchR w0 L1 R1 tv1 rv1 V1) (hB : SchR w0 L2 R2 tv2 rv2 V2) (hk1 : SOk L1 R1) (hk2 : SOk L2 R2) (he : L1 = L2 ∧ R1 = R2) : Ca Try.prog 13 #[.agg #[tv1, rv1], .agg #[tv2, rv2]] w0 (fun v w' => v = .bool true ∧ Ext w0 w') :=
 (tsame_spec L1 R1 tv1 rv1 V1 L2 R2 tv2 rv2 V2 w0 hA hB hk1 hk2).mono fun v w' h => ⟨by rw [h.1, decide_eq_true he], h.2⟩
theorem scv_A9 : scV [⟨0, 0, 0, []⟩] [] = (92, 0) := sc_tp (L := [⟨0, 0, 0, []⟩]) (i := 0) (by decide) (by simp [tpOk, numOk]) (fun j hj h => by omega)
theorem check_A9 (tv : Value) (w0 : World) (hT : TypR w0 [⟨0, 0, 0, []⟩] tv (fun _ => .slice none 0 0)) : Ca Try.prog 9 #[.agg #[tv, .slice none 0 0]] w0 (fun v w' => v = .agg #[.int .i64 92, .int .i64 0] ∧ Ext w0 w') := by
 refine (tcheck_spec [⟨0, 0, 0, []⟩] [] tv (.slice none 0 0) (fun _ => .slice none 0 0) w0 ⟨hT, Sl.nil _ _⟩ ⟨by decide, fun t ht => by simp at ht; subst ht; exact ⟨by decide, by simp, by simp⟩⟩ ⟨by decide, by simp⟩).mono ?_
 rintro v w' ⟨rfl, hx⟩
 rw [scv_A9]
 exact ⟨rfl, hx⟩

set_option maxHeartbeats 4000000 in
theorem awake9_spec (w0 : World) : Ca Try.prog 6 #[] w0 (fun v w' => v = .bool true ∧ Ext w0 w') := by
 have hx : Ext w0 w0 := Only.refl _ _
 refine Ca.of Try.func6 Try.ntmps6 rfl rfl (W.seq (W.region (WL.c rfl (o_ash vB (WL.nil (W.seq (W.region (WL.c rfl (o_bldC (cs := [(.int .i64 5), (.int .i64 3), (.string ⟨#[]⟩), (.string ⟨#[]⟩), (.int .i64 0), (.int .i64 1), (.int .i64 0)]) TI41 (Sizes.cons TI3 (Sizes.cons TI3 (Sizes.cons TI9 (Sizes.cons TI9 (Sizes.cons TI3 (Sizes.cons TI3 (Sizes.cons TI3 Sizes.nil))))))) rfl (lcp vI (lcp vI (lcp vI lnp))) rfl rfl (WL.c rfl (o_bldC (cs := [(.int .i64 1), (.int .i64 2), (.string ⟨#[]⟩), (.string ⟨#[]⟩), (.int .i64 0), (.int .i64 0), (.int .i64 0)]) TI41 (Sizes.cons TI3 (Sizes.cons TI3 (Sizes.cons TI9 (Sizes.cons TI9 (Sizes.cons TI3 (Sizes.cons TI3 (Sizes.cons TI3 Sizes.nil))))))) rfl (lcp vI (lcp vI lnp)) rfl rfl (WL.c rfl (o_bsA (xs := [(.tmp 6), (.tmp 7)]) (cs := exs [⟨5, 3, [], [], 0, 1, 0⟩, ⟨1, 2, [], [], 0, 0, 0⟩]) TI37 TI41 rfl (lc (show _ = Value.agg (exV ⟨5, 3, [], [], 0, 1, 0⟩).toArray from rfl) (lc (show _ = Value.agg (exV ⟨1, 2, [], [], 0, 0, 0⟩).toArray from rfl) ln)) rfl rfl (by decide) (by decide) rfl ?_)))))))))))))
 have hT8 : Sl (w0.alloc (.cells (exs [⟨5, 3, [], [], 0, 1, 0⟩, ⟨1, 2, [], [], 0, 0, 0⟩]).toArray 41)) 7 (.slice (some ⟨w0.heap.size, 0, none⟩) 2 2) 2 (exs [⟨5, 3, [], [], 0, 1, 0⟩, ⟨1, 2, [], [], 0, 0, 0⟩]) := Sl.ofRow rfl
 have hxr : Ext w0 (w0.alloc (.cells (exs [⟨5, 3, [], [], 0, 1, 0⟩, ⟨1, 2, [], [], 0, 0, 0⟩]).toArray 41)) := Only.alloc w0 _
 obtain ⟨g8, hg8⟩ : ∃ g, g = w0.heap.size := ⟨_, rfl⟩
 rw [← hg8] at hT8 ⊢
 generalize w0.alloc (.cells (exs [⟨5, 3, [], [], 0, 1, 0⟩, ⟨1, 2, [], [], 0, 0, 0⟩]).toArray 41) = w8 at hT8 hxr ⊢
 replace hx := hx.tr hxr
 clear hxr
 refine WL.c rfl (o_bldC (cs := [(st [97]), (.int .i64 0), _]) TI39 (Sizes.cons TI9 (Sizes.cons TI3 (Sizes.cons TI37 Sizes.nil))) rfl (lcp (show _ = Value.string _ from rfl) (lcp (show _ = Value.slice (some ⟨g8, 0, none⟩) 2 2 from rfl) lnp)) rfl rfl (WL.c rfl (o_bs1 TI23 TI39 (show _ = (Value.agg #[st [97], .int .i64 0, .slice (some ⟨g8, 0, none⟩) 2 2]) from rfl) (by decide) (by decide) rfl ?_)))
 have hT10 : Sl (w8.alloc (.cells (Value.agg #[st [97], .int .i64 0, .slice (some ⟨g8, 0, none⟩) 2 2]).cells 39)) 3 (.slice (some ⟨w8.heap.size, 0, none⟩) 1 1) 1 (drows DA9 (fun _ => .slice (some ⟨g8, 0, none⟩) 2 2)) := Sl.one rfl
 have hxr : Ext w8 (w8.alloc (.cells (Value.agg #[st [97], .int .i64 0, .slice (some ⟨g8, 0, none⟩) 2 2]).cells 39)) := Only.alloc w8 _
 obtain ⟨g10, hg10⟩ : ∃ g, g = w8.heap.size := ⟨_, rfl⟩
 rw [← hg10] at hT10 ⊢
 generalize w8.alloc (.cells (Value.agg #[st [97], .int .i64 0, .slice (some ⟨g8, 0, none⟩) 2 2]).cells 39) = w10 at hT10 hxr ⊢
 replace hx := hx.tr hxr
 replace hT8 := hT8.ext hxr
 clear hxr
 have hD : DefR w10 DA9 (.slice (some ⟨g10, 0, none⟩) 1 1) (fun _ => .slice (some ⟨g8, 0, none⟩) 2 2) := ⟨hT10, fun j hj => by
  obtain rfl : j = 0 := by simp [DA9] at hj; omega
  exact hT8⟩
 refine WL.c rfl (o_bldC (cs := [_]) TI25 (Sizes.cons TI23 Sizes.nil) rfl (lcp (show _ = Value.slice (some ⟨g10, 0, none⟩) 1 1 from rfl) lnp) rfl rfl (WL.c rfl (o_call Try.call8 (lc rfl ln) ((build_A9 _ _ _ hD).mono ?_))))
 rintro v12 w12 ⟨tv, rv, U, rfl, hSc, hx12⟩
 replace hx := hx.tr hx12
 have hE : Ext w12 w12 := Only.refl _ _
 refine WL.c rfl (o_mvh (by first | exact (show _ = Value.tuple _ from rfl) | exact rfl) (WL.c rfl (o_ext rfl rfl (WL.c rfl (o_ext rfl rfl (WL.c rfl (o_alB TI34 ?_)))))))
 intro wa hC1 hxa hsa
 obtain ⟨b1, hb1⟩ : ∃ b, b = w12.heap.size := ⟨_, rfl⟩
 rw [← hb1] at hC1 ⊢
 replace hC1 : wa.heap[b1]? = some (.cells #[.slice none 0 0, .slice none 0 0] 34 (0, 0)) := hC1
 replace hE := hE.tr hxa
 refine WL.c rfl (o_alB TI28 ?_)
 intro wb hC2 hxb hsb
 have hsE := hE.size
 obtain ⟨b2, hb2⟩ : ∃ b, b = wa.heap.size := ⟨_, rfl⟩
 rw [← hb2] at hC2 ⊢
 replace hC2 : wb.heap[b2]? = some (.cells #[.int .i64 0, .int .i64 0] 28 (0, 0)) := hC2
 replace hE := hE.tr hxb
 replace hC1 := hxb.blk hC1 (fun h => h)
 refine WL.u (o_stA TI34 rfl (show _ = Value.agg #[tv, rv] from rfl) rfl (by simp [own_one hSc.ro, own_one hSc.ty.row]) hC1 rfl ?_)
 intro wc hC1n ho hs
 replace hC2 := ho.blk hC2 (blk_ne3 hC2 hC1 (by decide))
 replace hE := hE.trans' ho (fun _ h => h) (fun b hb e => by omega)
 replace hC1 := hC1n
 refine WL.u (o_stA TI28 rfl (show _ = Value.agg #[.int .i64 0, .int .i64 0] from rfl) rfl rfl hC2 rfl ?_)
 intro wd hC2n ho hs
 replace hC1 := ho.blk hC1 (blk_ne3 hC1 hC2 (by decide))
 replace hE := hE.trans' ho (fun _ h => h) (fun b hb e => by omega)
 replace hC2 := hC2n
 replace hSc := hSc.ext hE
 replace hx := hx.tr hE
 clear hE
 refine WL.nil (W.seq (W.seq (W.region (WL.c rfl (o_ldA TI28 rfl rfl (show Cells _ b2 0 [.int .i64 0, .int .i64 0] from Cells.of hC2 0 _ (by simp)) rfl (WL.c rfl (o_bldC (cs := [(.int .i64 0), (.int .i64 0)]) TI28 (Sizes.cons TI26 (Sizes.cons TI3 Sizes.nil)) rfl lnp rfl rfl (WL.c rfl (o_neR TI28 (by kernel_rfl) (by kernel_rfl) rfl rfl (.int TI26 (by decide) rfl rfl (.int TI3 (by decide) rfl rfl .nil)) (WL.c rfl (o_mvh vB (WL.g rfl (by simp) rfl (o_ldA TI34 rfl rfl (show Cells _ b1 0 [tv, rv] from Cells.of hC1 0 _ (by simp)) rfl (WL.g rfl (by simp) rfl (o_bldC (cs := [(.int .i64 1), (.int .i64 2), (.int .i64 0), (.slice none 0 0)]) TI50 (Sizes.cons TI3 (Sizes.cons TI3 (Sizes.cons TI3 (Sizes.cons TI48 Sizes.nil)))) rfl (lcp vI (lcp vI lnp)) rfl rfl (WL.g rfl (by simp) rfl (o_bldC (cs := [(.int .i64 5), (.int .i64 3), (.int .i64 0), (.slice none 0 0)]) TI50 (Sizes.cons TI3 (Sizes.cons TI3 (Sizes.cons TI3 (Sizes.cons TI48 Sizes.nil)))) rfl (lcp vI (lcp vI lnp)) rfl rfl (WL.g rfl (by simp) rfl (o_bsA (xs := [(.tmp 20), (.tmp 21)]) (cs := trows LA9 (fun _ => .slice none 0 0)) TI31 TI50 rfl (lc (show _ = Value.agg (tcell ⟨1, 2, 0, []⟩ (.slice none 0 0)).toArray from rfl) (lc (show _ = Value.agg (tcell ⟨5, 3, 0, []⟩ (.slice none 0 0)).toArray from rfl) ln)) rfl rfl (by decide) (by decide) rfl ?_)))))))))))))))))))
 have hT22 : Sl (wd.alloc (.cells (trows LA9 (fun _ => .slice none 0 0)).toArray 50)) 4 (.slice (some ⟨wd.heap.size, 0, none⟩) 2 2) 2 (trows LA9 (fun _ => .slice none 0 0)) := Sl.ofRow rfl
 have hxr : Ext wd (wd.alloc (.cells (trows LA9 (fun _ => .slice none 0 0)).toArray 50)) := Only.alloc wd _
 obtain ⟨g22, hg22⟩ : ∃ g, g = wd.heap.size := ⟨_, rfl⟩
 rw [← hg22] at hT22 ⊢
 generalize wd.alloc (.cells (trows LA9 (fun _ => .slice none 0 0)).toArray 50) = w22 at hT22 hxr ⊢
 replace hx := hx.tr hxr
 replace hSc := hSc.ext hxr
 replace hC1 := hxr.blk hC1 (fun h => h)
 clear hxr
 refine WL.g rfl (by simp) rfl (o_bldC (cs := [(st [97]), (.int .i64 1)]) TI47 (Sizes.cons TI9 (Sizes.cons TI3 Sizes.nil)) rfl (lcp (show _ = Value.string _ from rfl) (lcp vI lnp)) rfl rfl (WL.g rfl (by simp) rfl (o_bs1 TI32 TI47 (show _ = Value.agg (roV ⟨[97], 1⟩).toArray from rfl) (by decide) (by decide) rfl ?_)))
 have hT24 : Sl (w22.alloc (.cells (Value.agg (roV ⟨[97], 1⟩).toArray).cells 47)) 2 (.slice (some ⟨w22.heap.size, 0, none⟩) 1 1) 1 (ros RA9) := Sl.one rfl
 have hxr : Ext w22 (w22.alloc (.cells (Value.agg (roV ⟨[97], 1⟩).toArray).cells 47)) := Only.alloc w22 _
 obtain ⟨g24, hg24⟩ : ∃ g, g = w22.heap.size := ⟨_, rfl⟩
 rw [← hg24] at hT24 ⊢
 generalize w22.alloc (.cells (Value.agg (roV ⟨[97], 1⟩).toArray).cells 47) = w24 at hT24 hxr ⊢
 replace hx := hx.tr hxr
 replace hSc := hSc.ext hxr
 replace hT22 := hT22.ext hxr
 replace hC1 := hxr.blk hC1 (fun h => h)
 have hB : SchR w24 LA9 RA9 (.slice (some ⟨g22, 0, none⟩) 2 2) (.slice (some ⟨g24, 0, none⟩) 1 1) (fun _ => .slice none 0 0) := ⟨⟨hT22, fun j hj => by
  have hj2 : j = 0 ∨ j = 1 := by simp [LA9] at hj; omega
  rcases hj2 with rfl | rfl <;> exact Sl.nil _ _⟩, hT24⟩
 clear hxr
 refine WL.g rfl (by simp) rfl (o_bldC (cs := [_, _]) TI34 (Sizes.cons TI31 (Sizes.cons TI32 Sizes.nil)) rfl (lcp (show _ = Value.slice (some ⟨g22, 0, none⟩) 2 2 from rfl) (lcp (show _ = Value.slice (some ⟨g24, 0, none⟩) 1 1 from rfl) lnp)) rfl rfl (WL.g rfl (by simp) rfl (o_call Try.call13 (lc rfl (lc rfl ln)) ((same_A9 LA9 RA9 tv rv U LA9 RA9 _ _ _ _ hSc.rd hB okA9 okA9 ⟨rfl, rfl⟩).mono ?_))))
 rintro v26 w26 ⟨rfl, hx26⟩
 replace hx := hx.tr hx26
 replace hSc := hSc.ext hx26
 replace hC1 := hx26.blk hC1 (fun h => h)
 refine WL.g rfl (by simp) rfl (o_not' rfl (WL.c rfl (o_pickO rfl rfl (WL.nil (W.condF' rfl (by simp) (W.skip (W.seq (W.region (WL.c rfl (o_ldA TI34 rfl rfl (show Cells _ b1 0 [tv, rv] from Cells.of hC1 0 _ (by simp)) rfl (WL.c rfl (o_call Try.call10 (lc rfl (lc rfl ln)) ((find_A9 tv rv _ (Sl.own hSc.ro) (own_one hSc.ty.row)).mono ?_)))))))))))))
 rintro v31 w31 ⟨rfl, hx31⟩
 replace hx := hx.tr hx31
 refine WL.c rfl (o_mvh (by first | exact (show _ = Value.tuple _ from rfl) | exact rfl) (WL.c rfl (o_ext rfl rfl (WL.c rfl (o_ext rfl rfl (WL.c rfl (o_ash vI (WL.c rfl (o_ash vI (WL.nil (W.seq (W.region (WL.c rfl (o_mvh vI (WL.c rfl (o_eq rfl rfl (WL.c rfl (o_mvh vB (WL.g rfl (by simp) rfl (o_mvh vI (WL.g rfl (by simp) rfl (o_eq rfl rfl (WL.c rfl (o_pickA rfl rfl (WL.c rfl (o_mvh vB (WL.g rfl (by simp) rfl (o_bldC (cs := [(.int .i64 0), (.int .i64 0), (.int .i64 0), (.slice none 0 0)]) TI50 (Sizes.cons TI3 (Sizes.cons TI3 (Sizes.cons TI3 (Sizes.cons TI48 Sizes.nil)))) rfl lnp rfl rfl (WL.g rfl (by simp) rfl (o_bs1 TI31 TI50 (show _ = Value.agg (tcell ⟨0, 0, 0, []⟩ (.slice none 0 0)).toArray from rfl) (by decide) (by decide) rfl ?_))))))))))))))))))))))))))))))
 have hT42 : Sl (w31.alloc (.cells (Value.agg (tcell ⟨0, 0, 0, []⟩ (.slice none 0 0)).toArray).cells 50)) 4 (.slice (some ⟨w31.heap.size, 0, none⟩) 1 1) 1 (trows [⟨0, 0, 0, []⟩] (fun _ => .slice none 0 0)) := Sl.one rfl
 have hxr : Ext w31 (w31.alloc (.cells (Value.agg (tcell ⟨0, 0, 0, []⟩ (.slice none 0 0)).toArray).cells 50)) := Only.alloc w31 _
 obtain ⟨g42, hg42⟩ : ∃ g, g = w31.heap.size := ⟨_, rfl⟩
 rw [← hg42] at hT42 ⊢
 generalize w31.alloc (.cells (Value.agg (tcell ⟨0, 0, 0, []⟩ (.slice none 0 0)).toArray).cells 50) = w42 at hT42 hxr ⊢
 replace hx := hx.tr hxr
 clear hxr
 refine WL.g rfl (by simp) rfl (o_bldC (cs := [_, (.slice none 0 0)]) TI34 (Sizes.cons TI31 (Sizes.cons TI32 Sizes.nil)) rfl (lcp (show _ = Value.slice (some ⟨g42, 0, none⟩) 1 1 from rfl) lnp) rfl rfl (WL.g rfl (by simp) rfl (o_call Try.call9 (lc rfl ln) ((check_A9 _ _ ⟨hT42, fun j hj => by obtain rfl : j = 0 := (by simp at hj; omega); exact Sl.nil _ _⟩).mono ?_))))
 rintro v44 w44 ⟨rfl, hx44⟩
 replace hx := hx.tr hx44
 refine WL.g rfl (by simp) rfl (o_fldT TI28 rfl rfl rfl TI26 rfl rfl rfl (WL.g rfl (by simp) rfl (o_eq rfl rfl (WL.c rfl (o_pickA rfl rfl (WL.c rfl (o_ash vB (WL.nil (W.ret (ret1v rfl vB ?_))))))))))
 exact ⟨rfl, hx⟩
end Go.Proofs.Ytpbflfgigfdohaa

namespace Go.Proofs.Ytpbflfgigfdohaa
open Go Go.Vc Go.RowKit Go.Proofs

theorem nameB_len {l : List UInt8} (h : nameB l = true) : l.length ≤ 32 := by
 simp only [nameB, Bool.and_eq_true, decide_eq_true_eq] at h; exact h.1.1.1.2
theorem tp_lim {t : Tp} {at_ : Int} (h : tpOk t at_) : TLim t := by
 have hp : t.parts = [] ∨ partsOk t at_ := by
  obtain ⟨-, h2⟩ := h
  split at h2
  ·exact .inl h2.2
  split at h2
  ·exact .inl h2.2.2
  exact .inr h2.2.2
 rcases hp with hp | ⟨-, h2, h3⟩
 ·exact ⟨by rw [hp]; decide, fun p hp' => (by rw [hp] at hp'; cases hp'), fun p hp' => (by rw [hp] at hp'; cases hp')⟩
 refine ⟨by omega, fun p hp => ?_, fun p hp => ?_⟩
 ·obtain ⟨k, hk, rfl⟩ := List.getElem_of_mem hp
  obtain ⟨_, h4, -⟩ := h3 k hk
  split at h4
  ·have := nameB_len h4.1; omega
  rw [h4.1]; decide
 obtain ⟨k, hk, rfl⟩ := List.getElem_of_mem hp
 obtain ⟨_, h4, -⟩ := h3 k hk
 split at h4
 ·rw [h4.2]; decide
 omega
theorem sum_le {l : List Nat} {f : Nat → Nat} {B : Nat} (h : ∀ i ∈ l, f i ≤ B) : (l.map f).sum ≤ l.length * B := by
 induction l with
 | nil => simp
 | cons a l ih =>
  have h1 := h a (List.mem_cons_self ..)
  have h2 := ih (fun i hi => h i (List.mem_cons_of_mem _ hi))
  rw [List.map_cons, List.sum_cons, List.length_cons, Nat.succ_mul]
  omega
theorem bld_lim {D : List Df} (hlim : DOk D) (hnb : ∀ d ∈ D, d.ty.length ≤ 11453246122) : LLim (bldT D) ∧ RLim (bldR D) := by
 by_cases hb : bldF D = none
 ·obtain ⟨hck, hfn, hbn⟩ := bldF_none.1 hb
  have hG := good_of hfn
  have hT : bldT D = schT D := if_pos hb
  have hR : bldR D = schR D := if_pos hb
  have hok := bld_ok hG hbn
  have h256 := hG.trd.n
  rw [hT, hR]
  refine ⟨⟨?_, fun t ht => ?_⟩, ⟨by rw [schR_len]; omega, fun r hr => ?_⟩⟩
  ·have h1 := bld_len hG hbn
   have h2 : ((List.range D.length).map fun i => cntN (tyD D i)).sum ≤ (List.range D.length).length * 11453246122 := sum_le fun i hi => by
    have hi := List.mem_range.1 hi
    have h3 : cntN (tyD D i) ≤ (tyD D i).length := List.length_filter_le _ _
    rw [tyD_at hi] at h3 ⊢
    have := hnb _ (List.getElem_mem hi)
    omega
   rw [List.length_range] at h2
   omega
  ·obtain ⟨i, hi, rfl⟩ := List.getElem_of_mem ht
   exact tp_lim (hok.ok i hi)
  obtain ⟨i, hi, rfl⟩ := List.getElem_of_mem hr
  have hi' : i < D.length := by rw [schR_len] at hi; exact hi
  have h3 := (schR_at hG hbn hi').1
  rw [List.getD_eq_getElem?_getD, List.getElem?_eq_getElem hi, getD_at hi'] at h3
  simp only [Option.getD_some] at h3
  rw [h3]
  exact hlim.nm _ (List.getElem_mem hi')
 have hT : bldT D = [] := if_neg hb
 have hR : bldR D = [] := if_neg hb
 rw [hT, hR]
 exact ⟨⟨by decide, fun t ht => (by cases ht)⟩, ⟨by decide, fun r hr => (by cases hr)⟩⟩
theorem SchR.only9 {w w' : World} {L : List Tp} {R : List Ro} {tv rv : Value} {U : Nat → Value} {F : Nat → Prop} (h : SchR w L R tv rv U) (ho : Only F w w') (h1 : ∀ k, DF tv U L.length k → ¬ F k) (h2 : ∀ k, rv.ownBlock = some k → ¬ F k) : SchR w' L R tv rv U :=
 ⟨h.ty.only ho h1, h.ro.only ho h2⟩
end Go.Proofs.Ytpbflfgigfdohaa

namespace Go.Proofs.Ytpbflfgigfdohaa
open Go Go.Vc Go.RowKit Go.Proofs

theorem parse_len (xs : List UInt8) : ∀ d ∈ (parseA xs).1, d.ty.length ≤ 65536 := by
 rcases parse_cases xs with ⟨-, h⟩ | ⟨-, D, hp, h⟩
 ·rw [h]; intro d hd; cases hd
 have hc := cutA_len xs
 have hT : ∀ i, (tkA (cutA xs).1 i).text.length ≤ 65536 := fun i => by
  by_cases hi : i < (cutA xs).1.length
  ·rw [tkA_lt hi]; exact hc.2 _ (List.getElem_mem hi)
  rw [tkA_ge (by omega)]; exact Nat.zero_le _
 have hl := pd_lim hT hp
 rw [h]
 intro d hd
 obtain ⟨d0, h0, rfl⟩ := List.mem_map.1 hd
 have := (hl d0 h0).2.1
 show (d0.ty.map _).length ≤ _
 rw [List.length_map]; omega
theorem bld_nz {D : List Df} {v : Int × Int} (h : bldF D = some v) : ¬ v.1 = 0 := by
 unfold bldF at h
 split at h
 ·cases hf : fA D with
  | some u =>
   rw [hf] at h
   have e : u = v := by simpa using h
   have := fA_nz hf
   rw [← e]; omega
  | none =>
   rw [hf, Option.none_or] at h
   have := bnd_nz h
   omega
 rename_i hc
 have e : v = (((chkS D).2.2 : Int), 0) := by simpa using h.symm
 rw [e]
 show ¬ (((chkS D).2.2 : Nat) : Int) = 0
 omega
theorem bldV_iff {D : List Df} : (bldV D).1 = 0 ↔ bldF D = none := by
 unfold bldV
 cases h : bldF D with
 | none => simp
 | some v => have := bld_nz h; simp [this]
def cntD (D : List Df) (i : Nat) : Nat := ((List.range i).map fun j => cntN (tyD D j)).sum
theorem cntD_succ (D : List Df) (i : Nat) : cntD D (i + 1) = cntD D i + cntN (tyD D i) := by
 unfold cntD
 rw [List.range_succ, List.map_append, List.sum_append]; simp
theorem cntN_take {l : List Ex} {k : Nat} (hk : k < l.length) : cntN (l.take (k + 1)) = cntN (l.take k) + (if l[k].kind = 9 then 0 else 1) := by
 rw [List.take_succ_eq_append_getElem hk, cntN_app]
 congr 1
 unfold cntN
 by_cases h : l[k].kind = 9 <;> simp [h]
theorem sc_zero {D : List Df} (hG : Good D) (hb : bndF D = none) : scV (schT D) (schR D) = (0, 0) := by unfold scV; rw [sc_none hG hb]; rfl
def us (n : Nat) (u : Nat → Bool) : List Value := (List.range n).map fun j => Value.bool (u j)
theorem us_at {n k : Nat} {u : Nat → Bool} (hk : k < n) : (us n u)[k]? = some (.bool (u k)) := by
 unfold us
 rw [List.getElem?_map, List.getElem?_range hk]; rfl
def updB (u : Nat → Bool) (i : Nat) : Nat → Bool := fun j => if j = i then true else u j
theorem us_set {n i : Nat} {u : Nat → Bool} : (us n u).set i (.bool true) = us n (updB u i) := by
 apply List.ext_getElem?
 intro j
 rw [List.getElem?_set]
 by_cases hj : j < n
 ·rw [us_at hj, us_at hj]
  unfold updB
  by_cases e : i = j
  ·subst e
   rw [if_pos rfl, if_pos (by simpa [us] using hj), if_pos rfl]
  rw [if_neg e, if_neg (fun h => e h.symm)]
 have h1 : (us n u)[j]? = none := List.getElem?_eq_none (by simp [us]; omega)
 have h2 : (us n (updB u i))[j]? = none := List.getElem?_eq_none (by simp [us]; omega)
 rw [h1, h2]
 by_cases e : i = j
 ·subst e
  rw [if_pos rfl, if_neg (by simpa [us] using hj)]
 rw [if_neg e]
theorem us_false (n : Nat) : us n (fun _ => false) = List.replicate n (.bool false) := by
 unfold us
 rw [List.eq_replicate_iff]
 refine ⟨by simp, fun b hb => ?_⟩
 obtain ⟨j, -, rfl⟩ := List.mem_map.1 hb
 rfl
theorem updB_up {u : Nat → Bool} {i j : Nat} (h : u j = true) : updB u i j = true := by unfold updB; split <;> first | rfl | exact h
theorem updB_at (u : Nat → Bool) (i : Nat) : updB u i i = true := if_pos rfl
/-- what a type uses is marked -/
def Mkd (u : Nat → Bool) (t : Tp) : Prop := (t.kind = 4 ∨ t.kind = 5 ∨ t.kind = 6 → u t.elem.toNat = true) ∧ ∀ p ∈ t.parts, u p.ty.toNat = true
theorem Mkd.up {u : Nat → Bool} {t : Tp} (h : Mkd u t) (i : Nat) : Mkd (updB u i) t := ⟨fun hk => updB_up (h.1 hk), fun p hp => updB_up (h.2 p hp)⟩
theorem find_x (R : List Ro) (tv rv : Value) (nm : List UInt8) (i : Nat) (w0 : World) (hR : Sl w0 2 rv R.length (ros R)) (hlr : R.length * 24 ≤ 140737488351232) (h1v : tv.oneCell' = true) (hw : whR R nm = some i) : Ca Try.prog 10 #[.agg #[tv, rv], st nm] w0 (fun v w' => v = .tuple #[.int .i64 (i : Int), .int .i64 0] ∧ Ext w0 w') := by
 have h := tfind_spec R tv rv nm w0 hR hlr h1v
 rw [hw] at h
 exact h
theorem check_x (L : List Tp) (R : List Ro) (tv rv : Value) (V : Nat → Value) (w0 : World) (hS : SchR w0 L R tv rv V) (hlL : LLim L) (hlR : RLim R) (h : scV L R = (0, 0)) : Ca Try.prog 9 #[.agg #[tv, rv]] w0 (fun v w' => v = .agg #[.int .i64 0, .int .i64 0] ∧ Ext w0 w') := by
 have h1 := tcheck_spec L R tv rv V w0 hS hlL hlR
 rw [h] at h1
 exact h1
theorem schR_name {D : List Df} (hG : Good D) (hb : bndF D = none) {i : Nat} (hi : i < D.length) (hi2 : i < (schR D).length) : (schR D)[i].name = D[i].name ∧ 0 ≤ (schR D)[i].ty ∧ (schR D)[i].ty < ((schT D).length : Int) := by
 have h := schR_at hG hb hi
 rw [List.getD_eq_getElem?_getD, List.getElem?_eq_getElem hi2, getD_at hi] at h
 exact h
theorem all_used {D : List Df} (hG : Good D) (hb : bndF D = none) {u : Nat → Bool} (h1 : ∀ i (hi : i < (schR D).length), u (schR D)[i].ty.toNat = true) (h2 : ∀ i (hi : i < (schT D).length), Mkd u (schT D)[i]) {j : Nat} (hj : j < (schT D).length) : u j = true := by
 rcases bld_used hG hb hj with ⟨i, hi, he⟩ | ⟨i, hi, h⟩
 ·have hi2 : i < (schR D).length := by rw [schR_len]; exact hi
  rw [List.getD_eq_getElem?_getD, List.getElem?_eq_getElem hi2] at he
  have h3 := h1 i hi2
  have e : (schR D)[i].ty.toNat = j := by simp only [Option.getD_some] at he; omega
  rw [e] at h3; exact h3
 rcases h with ⟨hk, he⟩ | ⟨p, hp, he⟩
 ·have h3 := (h2 i hi).1 hk
  rw [show (schT D)[i].elem.toNat = j by omega] at h3; exact h3
 have h3 := (h2 i hi).2 p hp
 rw [show p.ty.toNat = j by omega] at h3; exact h3


theorem cnt_le {D : List Df} (hnb : ∀ d ∈ D, d.ty.length ≤ 11453246122) (hn : D.length ≤ 256) {i : Nat} (hi : i < D.length) (q : Nat) : cntD D i + cntN (D[i].ty.take q) ≤ 2932031007402 := by
 have h1 : cntD D i ≤ i * 11453246122 := by
  have h := sum_le (l := List.range i) (f := fun j => cntN (tyD D j)) (B := 11453246122) (fun j hj => by
   have hj := List.mem_range.1 hj
   have h3 : cntN (tyD D j) ≤ (tyD D j).length := List.length_filter_le _ _
   rw [tyD_at (by omega)] at h3 ⊢
   have := hnb D[j] (List.getElem_mem (by omega))
   omega)
  rw [List.length_range] at h
  exact h
 have h2 : cntN (D[i].ty.take q) ≤ (D[i].ty.take q).length := List.length_filter_le _ _
 rw [List.length_take] at h2
 have h3 := hnb D[i] (List.getElem_mem hi)
 omega

set_option maxHeartbeats 8000000 in
theorem tright_walk (w0 : World) (s : ByteArray) (hs : s.size ≤ maxLen) : Ca Try.prog 3 #[.string s] w0 (fun v w' => v = .bool true ∧ Ext w0 w') := by
 have hx : Ext w0 w0 := Only.refl _ _
 have hxs : s.data.toList.length ≤ 9223372036854775807 := size_list hs
 rw [st_data s]
 obtain ⟨D, hDe⟩ : ∃ x, x = (parseA s.data.toList).1 := ⟨_, rfl⟩
 obtain ⟨pe, hpe⟩ : ∃ x, x = (parseA s.data.toList).2.1 := ⟨_, rfl⟩
 obtain ⟨pa, hpa⟩ : ∃ x, x = (parseA s.data.toList).2.2 := ⟨_, rfl⟩
 have hlim : DOk D := by rw [hDe]; exact parse_ok _
 have hnb : ∀ d ∈ D, d.ty.length ≤ 11453246122 := fun d hd => by have := parse_len s.data.toList d (by rw [← hDe]; exact hd); omega
 obtain ⟨hlL, hlR⟩ := bld_lim hlim hnb
 have hDn := hlim.len
 refine Ca.of Try.func3 Try.ntmps3 rfl rfl (W.seq (W.region (WL.c rfl (o_ash vB (WL.nil (W.seq (W.seq (W.region (WL.c rfl (o_call Try.call6 ln ((awake9_spec _).mono ?_)))))))))))
 rintro v17 w17 ⟨rfl, hx17⟩
 replace hx := hx.tr hx17
 refine WL.c rfl (o_not' rfl (WL.nil (W.condF' rfl (by simp) (W.skip (W.seq (W.region (WL.c rfl (o_mvh (show _ = Value.string _ from rfl) (WL.c rfl (o_call Try.call7 (lc rfl ln) ((parse_spec s.data.toList _ hxs).mono ?_)))))))))))
 rintro v21 w21 ⟨dv, V, rfl, hIn0, hx21⟩
 rw [← hDe] at hIn0
 rw [← hpe, ← hpa]
 replace hx := hx.tr hx21
 have h1dv := own_one hIn0.row
 have hI0 := hIn0.rd
 clear hIn0
 have hxI : Ext w21 w21 := Only.refl _ _
 refine WL.c rfl (o_mvh (by first | exact (show _ = Value.tuple _ from rfl) | exact rfl) (WL.c rfl (o_ext rfl rfl (WL.c rfl (o_ext rfl rfl (WL.c rfl (o_alB TI25 ?_)))))))
 intro wa hC3 hxa hsa
 obtain ⟨b3, hb3⟩ : ∃ b, b = w21.heap.size := ⟨_, rfl⟩
 rw [← hb3] at hC3 ⊢
 replace hC3 : wa.heap[b3]? = some (.cells #[.slice none 0 0] 25 (0, 0)) := hC3
 replace hxI := hxI.tr hxa
 refine WL.c rfl (o_alB TI28 ?_)
 intro wb hC4 hxb hsb
 have hsE := hxI.size
 obtain ⟨b4, hb4⟩ : ∃ b, b = wa.heap.size := ⟨_, rfl⟩
 rw [← hb4] at hC4 ⊢
 replace hC4 : wb.heap[b4]? = some (.cells #[.int .i64 0, .int .i64 0] 28 (0, 0)) := hC4
 replace hxI := hxI.tr hxb
 replace hC3 := hxb.blk hC3 (fun h => h)
 refine WL.u (o_stA TI25 rfl (show _ = Value.agg #[dv] from rfl) rfl (by simp [h1dv]) hC3 rfl ?_)
 intro wc hC3n ho hs
 replace hC4 := ho.blk hC4 (blk_ne3 hC4 hC3 (by decide))
 replace hxI := hxI.trans' ho (fun _ h => h) (fun b hb e => by omega)
 replace hC3 := hC3n
 refine WL.u (o_stA TI28 rfl (show _ = Value.agg #[.int .i64 (pe : Int), .int .i64 (pa : Int)] from rfl) rfl rfl hC4 rfl ?_)
 intro wd hC4n ho hs
 replace hC3 := ho.blk hC3 (blk_ne3 hC3 hC4 (by decide))
 replace hxI := hxI.trans' ho (fun _ h => h) (fun b hb e => by omega)
 replace hC4 := hC4n
 refine WL.nil (W.seq (W.seq (W.region (WL.c rfl (o_fa 0 TI28 rfl TI26 rfl rfl (WL.c rfl (o_ld TI26 rfl rfl (cell_of hC4 rfl) (WL.c rfl (o_ne rfl rfl (WL.nil (W.cond rfl (fun c26 => ?_) (fun c26 => ?_))))))))))))
 ·try simp only [cs8] at c26
  refine W.seq (W.region (WL.c rfl (o_ash vB (WL.nil (W.ret (ret1v rfl vB ?_))))))
  exact ⟨rfl, hx.tr hxI⟩
 try simp only [cs8] at c26
 refine W.skip (W.seq ?_)
 skip
 skip
 refine W.region (WL.c rfl (o_ldA TI25 rfl rfl (show Cells _ b3 0 [dv] from Cells.of hC3 0 _ (by simp)) rfl (WL.c rfl (o_call Try.call8 (lc rfl ln) ((build_spec D dv V _ (hI0.ext hxI) hlim hnb).mono ?_)))))
 rintro v29 w29 ⟨tv, rv, U, rfl, hA0, hx29⟩
 have hl4 := blk_lt3 hC4
 have hA4 : ∀ b, DF tv U (bldT D).length b → ¬ b = b4 := fun b hb e => by have := (hA0.ty.lt b hb).1; omega
 have hA5 : ∀ b, rv.ownBlock = some b → ¬ b = b4 := fun b hb e => by have := (hA0.ro.lt b hb).1; omega
 replace hC3 := hx29.blk hC3 (fun h => h)
 replace hC4 := hx29.blk hC4 (fun h => h)
 replace hxI := hxI.tr hx29
 have h1t := own_one hA0.ty.row
 have h1r := own_one hA0.ro
 have hA := hA0.rd
 clear hA0
 have hb4w : w21.heap.size ≤ b4 := by omega
 refine WL.c rfl (o_mvh (by first | exact (show _ = Value.tuple _ from rfl) | exact rfl) (WL.c rfl (o_ext rfl rfl (WL.c rfl (o_ext rfl rfl (WL.c rfl (o_alB TI34 ?_)))))))
 intro we hC5 hxe hse
 obtain ⟨b5, hb5⟩ : ∃ b, b = w29.heap.size := ⟨_, rfl⟩
 rw [← hb5] at hC5 ⊢
 replace hC5 : we.heap[b5]? = some (.cells #[.slice none 0 0, .slice none 0 0] 34 (0, 0)) := hC5
 have hsI := hxI.size
 have hxw : Ext w29 we := hxe
 replace hC3 := hxe.blk hC3 (fun h => h)
 replace hC4 := hxe.blk hC4 (fun h => h)
 replace hxI := hxI.tr hxe
 refine WL.u (o_stA TI34 rfl (show _ = Value.agg #[tv, rv] from rfl) rfl (by simp [h1t, h1r]) hC5 rfl ?_)
 intro wf hC5n ho hs
 replace hC3 := ho.blk hC3 (blk_ne3 hC3 hC5 (by decide))
 replace hC4 := ho.blk hC4 (blk_ne3 hC4 hC5 (by decide))
 replace hxI := hxI.trans' ho (fun _ h => h) (fun b hb e => by omega)
 replace hxw := hxw.trans' ho (fun _ h => h) (fun b hb e => by omega)
 replace hA := hA.ext hxw
 replace hC5 := hC5n
 refine WL.u (o_stA TI28 rfl (show _ = Value.agg #[.int .i64 (bldV D).1, .int .i64 (bldV D).2] from rfl) rfl rfl hC4 rfl ?_)
 intro wg hC4n ho hs
 replace hC3 := ho.blk hC3 (blk_ne3 hC3 hC4 (by decide))
 replace hC5 := ho.blk hC5 (blk_ne3 hC5 hC4 (by decide))
 replace hxI := hxI.trans' ho (fun _ h => h) (fun b hb e => by omega)
 replace hA := hA.only9 ho hA4 hA5
 replace hC4 : wg.heap[b4]? = some (.cells #[.int .i64 (bldV D).1, .int .i64 (bldV D).2] 28 (0, 0)) := hC4n
 have hxA : Ext wg wg := Only.refl _ _
 refine WL.nil (W.seq (W.seq (W.region (WL.c rfl (o_fa 0 TI28 rfl TI26 rfl rfl (WL.c rfl (o_ld TI26 rfl rfl (cell_of hC4 rfl) (WL.c rfl (o_ne rfl rfl (WL.nil (W.cond rfl (fun c34 => ?_) (fun c34 => ?_))))))))))))
 ·try simp only [cs8] at c34
  have hne : ¬ (bldV D).1 = 0 := by simpa using c34
  have hbad : bldT D = [] ∧ bldR D = [] := by
   have hn : ¬ bldF D = none := fun h => hne (bldV_iff.2 h)
   exact ⟨if_neg hn, if_neg hn⟩
  refine W.seq (W.region (WL.c rfl (o_fa 0 TI34 rfl TI31 rfl rfl (WL.c rfl (o_ld TI31 rfl rfl (cell_of hC5 rfl) (WL.c rfl (o_lenR TI31 rfl hA.ty.row (WL.c rfl (o_eq (a := (((bldT D).length : Nat) : Int)) (b := 0) rfl rfl (WL.c rfl (o_mvh vB (WL.g rfl (by simp [hbad.1]) rfl (o_fa 1 TI34 rfl TI32 rfl rfl (WL.g rfl (by simp [hbad.1]) rfl (o_ld TI32 rfl rfl (cell_of hC5 rfl) (WL.g rfl (by simp [hbad.1]) rfl (o_lenR TI32 rfl hA.ro (WL.g rfl (by simp [hbad.1]) rfl (o_eq (a := (((bldR D).length : Nat) : Int)) (b := 0) rfl rfl (WL.c rfl (o_pickA rfl rfl (WL.c rfl (o_ash vB (WL.nil (W.ret (ret1v rfl vB ?_))))))))))))))))))))))))))
  exact ⟨congrArg Value.bool (by simp [hbad.1, hbad.2]), hx.tr hxI⟩
 try simp only [cs8] at c34
 have hbl : bldF D = none := bldV_iff.1 (by simpa using c34)
 obtain ⟨hck, hfn, hbn⟩ := bldF_none.1 hbl
 have hG := good_of hfn
 have eT : bldT D = schT D := if_pos hbl
 have eR : bldR D = schR D := if_pos hbl
 rw [eT] at hlL hA
 rw [eR] at hlR hA
 have hsz := sc_zero hG hbn
 have hln := bld_len hG hbn
 have hrl := schR_len D
 have hall := fun (u : Nat → Bool) h1 h2 (j : Nat) hj => all_used hG hbn (u := u) h1 h2 (j := j) hj
 have hrn := fun i (hi : i < D.length) hi2 => schR_name hG hbn hi hi2
 have hfd := fun i (hi : i < D.length) => bld_find hG hi
 have hokT := (bld_ok hG hbn).ok
 obtain ⟨L, hL⟩ : ∃ x, x = schT D := ⟨_, rfl⟩
 obtain ⟨R, hR⟩ : ∃ x, x = schR D := ⟨_, rfl⟩
 rw [← hL] at hlL hA hsz hln hall hrn hokT
 rw [← hR] at hlR hA hsz hrl hall hrn hfd
 have hLn := hlL.len
 have hRn := hlR.len
 clear hA4 hA5 hlim eT eR
 have hnb0 := hnb
 have hcb0 : ∀ (i q : Nat) (hi : i < D.length), cntD D i + cntN (D[i].ty.take q) ≤ 2932031007402 := fun i q hi => cnt_le hnb0 hG.trd.n hi q
 refine W.skip (W.seq (W.region (WL.c rfl (o_ash vI (WL.nil (W.seq (W.seq (W.region (WL.c rfl (o_ash vI (WL.nil (W.block (W.loop (fun e w => ∃ i : Nat, i ≤ D.length ∧ e 3 = .pointer (some ⟨b3, 0, none⟩) ∧ e 5 = .pointer (some ⟨b5, 0, none⟩) ∧ e 6 = .int .i64 ((cntD D i : Nat) : Int) ∧ e 7 = .int .i64 (i : Int) ∧ w.heap[b3]? = some (.cells #[dv] 25 (0, 0)) ∧ w.heap[b5]? = some (.cells #[tv, rv] 34 (0, 0)) ∧ Ext w21 w ∧ Ext wg w) (fun e w => D.length - (intOf (e 7)).toNat) ?_ ?_)))))))))))))
 ·exact ⟨0, Nat.zero_le _, rfl, rfl, rfl, rfl, hC3, hC5, hxI, hxA⟩
 rintro e w ⟨i, hi, h3, h5, h6, h7, hC3, hC5, hxI, hxA⟩
 have hm7 := h7
 refine W.seq (W.seq (W.region (WL.c rfl (o_mvh h7 (WL.c rfl (o_fa 0 TI25 rfl TI23 rfl h3 (WL.c rfl (o_ld TI23 rfl rfl (cell_of hC3 rfl) (WL.c rfl (o_lenR TI23 rfl (hI0.ext hxI).row (WL.c rfl (o_lt rfl rfl (WL.nil (W.cond rfl (fun c49 => ?_) (fun c49 => ?_)))))))))))))))
 ·try simp only [cs8] at c49
  have hi1 : i < D.length := by omega
  have htyl := hnb0 _ (List.getElem_mem hi1)
  obtain ⟨tb, to_, tc, hdv, htc, hty⟩ := hI0.atk hi1
  have hC3s := hC3
  rw [hdv] at hC3s
  refine W.skip (W.seq (W.block (W.seq (W.region (WL.c rfl (o_ash vI (WL.nil (W.block (W.loop (fun e w => ∃ q : Nat, q ≤ D[i].ty.length ∧ e 3 = .pointer (some ⟨b3, 0, none⟩) ∧ e 5 = .pointer (some ⟨b5, 0, none⟩) ∧ e 6 = .int .i64 ((cntD D i + cntN (D[i].ty.take q) : Nat) : Int) ∧ e 7 = .int .i64 (i : Int) ∧ e 8 = .int .i64 (q : Int) ∧ w.heap[b3]? = some (.cells #[dv] 25 (0, 0)) ∧ w.heap[b5]? = some (.cells #[tv, rv] 34 (0, 0)) ∧ Ext w21 w ∧ Ext wg w) (fun e w => D[i].ty.length - (intOf (e 8)).toNat) ?_ ?_)))))))))
  ·exact ⟨0, Nat.zero_le _, h3, h5, h6, h7, rfl, hC3, hC5, hxI, hxA⟩
  rintro e w ⟨q, hq, h3, h5, h6, h7, h8, hC3, hC5, hxI, hxA⟩
  have hm8 := h8
  have hC3s := hC3
  rw [hdv] at hC3s
  refine W.seq (W.seq (W.region (WL.c rfl (o_mvh h8 (WL.c rfl (o_fa 0 TI25 rfl TI23 rfl h3 (WL.c rfl (o_ld TI23 rfl rfl (cell_of hC3s rfl) (WL.c rfl (o_mvh h7 (WL.c rfl (o_ixB (i := i) TI23 TI39 (show _ = Value.slice (some ⟨tb, to_, none⟩) D.length tc from rfl) (show _ = Value.int .i64 (i : Int) from rfl) (by omega) (WL.c rfl (o_fa 2 TI39 rfl TI37 rfl rfl (WL.c rfl (o_ld TI37 rfl rfl (Cells.only htc hxI (fun h => h) 2 _ rfl) (WL.c rfl (o_lenR TI37 (show _ = V i from rfl) (hty.ext hxI) (WL.c rfl (o_lt rfl rfl (WL.nil (W.cond rfl (fun c60 => ?_) (fun c60 => ?_)))))))))))))))))))))))
  ·try simp only [cs8] at c60
   have hq1 : q < D[i].ty.length := by omega
   obtain ⟨ub, uo, uc, hV, huc⟩ := Sl.exq hty hq1
   have hct := cntN_take hq1
   refine W.skip (W.seq (W.block (W.seq (W.region (WL.c rfl (o_fa 0 TI25 rfl TI23 rfl h3 (WL.c rfl (o_ld TI23 rfl rfl (cell_of hC3s rfl) (WL.c rfl (o_mvh h7 (WL.c rfl (o_ixB (i := i) TI23 TI39 (show _ = Value.slice (some ⟨tb, to_, none⟩) D.length tc from rfl) (show _ = Value.int .i64 (i : Int) from rfl) (by omega) (WL.c rfl (o_fa 2 TI39 rfl TI37 rfl rfl (WL.c rfl (o_ld TI37 rfl rfl (Cells.only htc hxI (fun h => h) 2 _ rfl) (WL.c rfl (o_mvh h8 (WL.c rfl (o_ixB (i := q) TI37 TI41 (show _ = Value.slice (some ⟨ub, uo, none⟩) D[i].ty.length uc from hV) (show _ = Value.int .i64 (q : Int) from rfl) (by omega) (WL.c rfl (o_fa 0 TI41 rfl TI3 rfl rfl (WL.c rfl (o_ld TI3 rfl rfl (Cells.only huc hxI (fun h => h) 0 _ rfl) (WL.c rfl (o_ne rfl rfl (WL.nil (W.cut (fun e1 w1 => e1 3 = .pointer (some ⟨b3, 0, none⟩) ∧ e1 5 = .pointer (some ⟨b5, 0, none⟩) ∧ e1 6 = .int .i64 ((cntD D i + cntN (D[i].ty.take (q + 1)) : Nat) : Int) ∧ e1 7 = .int .i64 (i : Int) ∧ e1 8 = .int .i64 (q : Int) ∧ w1.heap[b3]? = some (.cells #[dv] 25 (0, 0)) ∧ w1.heap[b5]? = some (.cells #[tv, rv] 34 (0, 0)) ∧ Ext w21 w1 ∧ Ext wg w1) ?_ ?_))))))))))))))))))))))))))))
   ·-- both ways
    refine W.cond rfl (fun c73 => ?_) (fun c73 => ?_)
    ·try simp only [cs8] at c73
     have hcb := hcb0
     refine W.region (WL.c rfl (o_mvh h6 (WL.c rfl (o_addi (a := ((cntD D i + cntN (D[i].ty.take q) : Nat) : Int)) (b := 1) rfl rfl (by have := hcb i q hi1; omega) (WL.c rfl (o_ash vI (WL.nil ?_)))))))
     first | exact ⟨h3, h5, congrArg (Value.int .i64) (by rw [hct, if_neg c73]; simp; omega), h7, h8, hC3, hC5, hxI, hxA⟩ | exact ⟨h3, h5, h6.trans (congrArg (Value.int .i64) (by rw [hct, if_pos (by simpa using c73)]; simp)), h7, h8, hC3, hC5, hxI, hxA⟩
    try simp only [cs8] at c73
    refine W.skip ?_
    first | exact ⟨h3, h5, congrArg (Value.int .i64) (by rw [hct, if_neg c73]; simp; omega), h7, h8, hC3, hC5, hxI, hxA⟩ | exact ⟨h3, h5, h6.trans (congrArg (Value.int .i64) (by rw [hct, if_pos (by simpa using c73)]; simp)), h7, h8, hC3, hC5, hxI, hxA⟩
   rintro e w ⟨h3, h5, h6, h7, h8, hC3, hC5, hxI, hxA⟩
   refine W.region (WL.c rfl (o_mvh h8 (WL.c rfl (o_addi rfl rfl (by omega) (WL.c rfl (o_ash vI (WL.nil (⟨⟨q + 1, by omega, h3, h5, h6, h7, rfl, hC3, hC5, hxI, hxA⟩, ?_⟩))))))))
   show D[i].ty.length - ((q : Int) + 1).toNat < _
   rw [hm8]; simp [intOf]; omega
  try simp only [cs8] at c60
  have hq1 : q = D[i].ty.length := by omega
  refine W.exit (W.region (WL.c rfl (o_mvh h7 (WL.c rfl (o_addi rfl rfl (by omega) (WL.c rfl (o_ash vI (WL.nil (⟨⟨i + 1, by omega, h3, h5, ?_, rfl, hC3, hC5, hxI, hxA⟩, ?_⟩)))))))))
  ·rw [cntD_succ, tyD_at hi1]
   show e 6 = _
   rw [h6, hq1, List.take_length]
  show D.length - ((i : Int) + 1).toNat < _
  rw [hm7]; simp [intOf]; omega
 try simp only [cs8] at c49
 have hi1 : i = D.length := by omega
 rw [hi1] at h6
 refine W.exit (W.seq (W.seq ?_))
 have hln2 : L.length = cntD D D.length := hln
 refine W.region (WL.c rfl (o_ldA TI34 rfl h5 (show Cells _ b5 0 [tv, rv] from Cells.of hC5 0 _ (by simp)) rfl (WL.c rfl (o_call Try.call9 (lc rfl ln) ((check_x L R tv rv U _ (hA.ext hxA) hlL hlR hsz).mono ?_)))))
 rintro v77 w77 ⟨rfl, hx77⟩
 replace hC3 := hx77.blk hC3 (fun h => h)
 replace hC5 := hx77.blk hC5 (fun h => h)
 replace hxI := hxI.tr hx77
 replace hxA := hxA.tr hx77
 refine WL.c rfl (o_bldC (cs := [(.int .i64 0), (.int .i64 0)]) TI28 (Sizes.cons TI26 (Sizes.cons TI3 Sizes.nil)) rfl lnp rfl rfl (WL.c rfl (o_neR TI28 (by kernel_rfl) (by kernel_rfl) rfl rfl (.int TI26 (by decide) rfl rfl (.int TI3 (by decide) rfl rfl .nil)) (WL.c rfl (o_mvh vB (WL.g rfl (by simp) rfl (o_fa 0 TI34 rfl TI31 rfl h5 (WL.g rfl (by simp) rfl (o_ld TI31 rfl rfl (cell_of hC5 rfl) (WL.g rfl (by simp) rfl (o_lenR TI31 rfl ((hA.ext hxA).ty.row) (WL.g rfl (by simp) rfl (o_mvh (show _ = Value.int .i64 ((cntD D D.length : Nat) : Int) from h6) (WL.g rfl (by simp) rfl (o_ne rfl rfl (WL.c rfl (o_pickO rfl rfl (WL.c rfl (o_mvh vB (WL.g rfl (by simp [hln2]) rfl (o_fa 1 TI34 rfl TI32 rfl h5 (WL.g rfl (by simp [hln2]) rfl (o_ld TI32 rfl rfl (cell_of hC5 rfl) (WL.g rfl (by simp [hln2]) rfl (o_lenR TI32 rfl ((hA.ext hxA).ro) (WL.g rfl (by simp [hln2]) rfl (o_fa 0 TI25 rfl TI23 rfl h3 (WL.g rfl (by simp [hln2]) rfl (o_ld TI23 rfl rfl (cell_of hC3 rfl) (WL.g rfl (by simp [hln2]) rfl (o_lenR TI23 rfl (hI0.ext hxI).row (WL.g rfl (by simp [hln2]) rfl (o_ne rfl rfl (WL.c rfl (o_pickO rfl rfl (WL.nil (W.condF' rfl (by simp [hln2, hrl]) (W.skip (W.seq (W.region (WL.c rfl (o_fa 0 TI34 rfl TI31 rfl h5 (WL.c rfl (o_ld TI31 rfl rfl (cell_of hC5 rfl) (WL.c rfl (o_lenR TI31 rfl ((hA.ext hxA).ty.row) (WL.c rfl (o_mk2 TI43 TI4 (l := L.length) (n := L.length) rfl rfl (Nat.le_refl _) (by omega) (by omega) ?_))))))))))))))))))))))))))))))))))))))))))))))))
 have hus := own_made1 (w := w77) (el := 4) (l := L.length) (n := L.length) (z := .bool false) rfl (Nat.le_refl _) (by omega)
 have hxm : Ext w77 (w77.alloc (.cells (madeCells (Value.bool false).cells (L.length * 1)) 4)) := Only.alloc w77 _
 generalize w77.alloc (.cells (madeCells (Value.bool false).cells (L.length * 1)) 4) = wt at hus hxm ⊢
 obtain ⟨B, hB⟩ : ∃ b, b = w77.heap.size := ⟨_, rfl⟩
 have hBA : wg.heap.size ≤ B := by rw [hB]; exact hxA.size
 have hBI : w21.heap.size ≤ B := by rw [hB]; exact hxI.size
 rw [← hB] at hus ⊢
 replace hus : wt.ownsRow B 4 1 (.slice (some ⟨B, 0, none⟩) L.length L.length) L.length (us L.length (fun _ => false)) := by rw [us_false]; exact hus
 replace hC3 := hxm.blk hC3 (fun h => h)
 replace hC5 := hxm.blk hC5 (fun h => h)
 replace hxI := hxI.tr hxm
 replace hxA := hxA.tr hxm
 refine WL.c rfl (o_ash (by first | exact vS | exact rfl) (WL.nil (W.seq (W.seq (W.region (WL.c rfl (o_ash vI (WL.nil (W.block (W.loop (fun e w => ∃ (i : Nat) (u : Nat → Bool), i ≤ R.length ∧ e 3 = .pointer (some ⟨b3, 0, none⟩) ∧ e 5 = .pointer (some ⟨b5, 0, none⟩) ∧ e 9 = (.slice (some ⟨B, 0, none⟩) L.length L.length) ∧ e 10 = .int .i64 (i : Int) ∧ w.ownsRow B 4 1 (.slice (some ⟨B, 0, none⟩) L.length L.length) L.length (us L.length u) ∧ (∀ j (hj : j < R.length), j < i → u R[j].ty.toNat = true) ∧ w.heap[b3]? = some (.cells #[dv] 25 (0, 0)) ∧ w.heap[b5]? = some (.cells #[tv, rv] 34 (0, 0)) ∧ Ext w21 w ∧ Ext wg w) (fun e w => R.length - (intOf (e 10)).toNat) ?_ ?_))))))))))
 ·exact ⟨0, fun _ => false, Nat.zero_le _, h3, h5, rfl, rfl, hus, fun j hj h => by omega, hC3, hC5, hxI, hxA⟩
 rintro e w ⟨i, u, hi, h3, h5, h9, h10, hus, hur, hC3, hC5, hxI, hxA⟩
 have hm10 := h10
 refine W.seq (W.seq (W.region (WL.c rfl (o_mvh h10 (WL.c rfl (o_fa 1 TI34 rfl TI32 rfl h5 (WL.c rfl (o_ld TI32 rfl rfl (cell_of hC5 rfl) (WL.c rfl (o_lenR TI32 rfl ((hA.ext hxA).ro) (WL.c rfl (o_lt rfl rfl (WL.nil (W.cond rfl (fun c104 => ?_) (fun c104 => ?_)))))))))))))))
 ·try simp only [cs8] at c104
  have hi1 : i < R.length := by omega
  have hi2 : i < D.length := by omega
  obtain ⟨hnm, hty0, hty1⟩ := hrn i hi2 hi1
  have hwh := hfd i hi2
  rw [getD_at hi2, ← hnm] at hwh
  obtain ⟨tb, to_, tc, hdv, htc, -⟩ := hI0.atk hi2
  obtain ⟨ub, uo, uc, hrv, huc⟩ := Sl.roq hA.ro hi1
  obtain ⟨r, hr⟩ : ∃ r, r = R[i] := ⟨_, rfl⟩
  rw [← hr] at huc hnm hty0 hty1 hwh
  have hen : r.ty = ((r.ty.toNat : Nat) : Int) := by omega
  refine W.skip (W.seq (W.block (W.seq ?_)))
  obtain ⟨wd, hwd⟩ : ∃ wd, wd = w.drew := ⟨_, rfl⟩
  have hxd : Ext w wd := hwd ▸ Only.drew w
  replace hC3 := hxd.blk hC3 (fun h => h)
  replace hC5 := hxd.blk hC5 (fun h => h)
  replace hxI := hxI.tr hxd
  replace hxA := hxA.tr hxd
  replace hus := own_ext hus hxd
  have hC5s := hC5
  rw [hrv] at hC5s
  have hruc := Cells.only huc hxA (fun h => h)
  refine W.draw (Ext) [(3, fun v _ => v = _), (5, fun v _ => v = _), (9, fun v _ => v = _), (10, fun v _ => v = _)] rfl (by kernel_rfl) (Only.refl No) (fun _ _ _ h k => h.trans k) ⟨Mono.eq, Mono.eq, Mono.eq, Mono.eq, trivial⟩ ⟨h3, h5, h9, h10, trivial⟩ (WD.p rfl (fun e w hR hh => by obtain ⟨h5, -⟩ := hh; rw [← hwd] at hR; exact SG.n (o_ldA TI34 rfl h5 (show Cells _ b5 0 [tv, rv] from Cells.of (hR.blk hC5 (fun h => h)) 0 _ (by simp)) rfl ⟨rfl, Only.refl No _⟩)) (WD.p rfl (fun e w hR hh => by obtain ⟨h5, -⟩ := hh; exact SG.n (o_fa 1 TI34 rfl TI32 rfl h5 ⟨rfl, Only.refl No _⟩)) (WD.p rfl (fun e w hR hh => by obtain ⟨h109, -⟩ := hh; rw [← hwd] at hR; exact SG.n (o_ld TI32 rfl h109 (cell_of (hR.blk hC5s (fun h => h)) rfl) ⟨rfl, Only.refl No _⟩)) (WD.p rfl (fun e w hR hh => by obtain ⟨h10, -⟩ := hh; exact SG.n (o_mvh h10 ⟨rfl, Only.refl No _⟩)) (WD.p rfl (fun e w hR hh => by obtain ⟨h111, h110, -⟩ := hh; exact SG.n (o_ixB (i := i) TI32 TI47 h110 h111 (by omega) ⟨rfl, Only.refl No _⟩)) (WD.p rfl (fun e w hR hh => by obtain ⟨h112, -⟩ := hh; exact SG.n (o_fa 0 TI47 rfl TI9 rfl h112 ⟨rfl, Only.refl No _⟩)) (WD.p rfl (fun e w hR hh => by obtain ⟨h113, -⟩ := hh; rw [← hwd] at hR; exact SG.n (o_ld TI9 rfl h113 (hR.cell (hruc 0 _ rfl) (fun h => h)) ⟨rfl, Only.refl No _⟩)) (WD.p rfl (fun e w hR hh => by obtain ⟨h114, h108, -⟩ := hh; rw [← hwd] at hR; exact SG.n (o_call Try.call10 (lc h108 (lc h114 ln)) ((find_x R tv rv r.name i _ ((hA.ext (hxA.tr hR)).ro) hRn h1t hwh).mono (fun v w' ⟨h1, h2⟩ => ⟨h1, h2⟩)))) (WD.p rfl (fun e w hR hh => by obtain ⟨h115, -⟩ := hh; exact SG.n (o_mvh h115 ⟨rfl, Only.refl No _⟩)) (WD.p rfl (fun e w hR hh => by obtain ⟨h107, -⟩ := hh; exact SG.n (o_ext h107 rfl ⟨rfl, Only.refl No _⟩)) (WD.p rfl (fun e w hR hh => by obtain ⟨h107, -⟩ := hh; exact SG.n (o_ext h107 rfl ⟨rfl, Only.refl No _⟩)) (WD.p rfl (fun e w hR hh => by obtain ⟨h116, -⟩ := hh; exact SG.n (o_ash h116 ⟨rfl, Only.refl No _⟩)) (WD.p rfl (fun e w hR hh => by obtain ⟨h117, -⟩ := hh; exact SG.n (o_ash h117 ⟨rfl, Only.refl No _⟩)) ?_)))))))))))))
  rintro e w hR ⟨h12, h11, h117, h116, h107, h115, h114, h113, h112, h111, h110, h109, h108, h3, h5, h9, h10, -⟩
  rw [← hwd] at hR
  replace hC3 := hR.blk hC3 (fun h => h)
  replace hC5 := hR.blk hC5 (fun h => h)
  replace hxI := hxI.tr hR
  replace hxA := hxA.tr hR
  replace hus := own_ext hus hR
  have hC3s := hC3
  rw [hdv] at hC3s
  replace hC5s := hC5
  rw [hrv] at hC5s
  refine W.seq (W.seq (W.quiet rfl (by kernel_rfl) (WQ.c rfl ((QO.o rfl fun _ => o_mvh h11 ⟨rfl, rfl⟩)) (WQ.c rfl ((QO.o rfl fun _ => o_mvh h10 ⟨rfl, rfl⟩)) (WQ.c rfl ((QO.o rfl fun _ => o_ne rfl rfl ⟨rfl, rfl⟩)) (WQ.c rfl ((QO.o rfl fun _ => o_mvh vB ⟨rfl, rfl⟩)) (WQ.g rfl (by simp) rfl ((QO.o rfl fun _ => o_mvh h12 ⟨rfl, rfl⟩)) (WQ.g rfl (by simp) rfl ((QO.o rfl fun _ => o_ne rfl rfl ⟨rfl, rfl⟩)) (WQ.c rfl ((QO.r fun _ => r_pickO rfl rfl)) (WQ.c rfl ((QO.o rfl fun _ => o_mvh vB ⟨rfl, rfl⟩)) (WQ.g rfl (by simp) rfl ((QO.o rfl fun _ => o_fa 1 TI34 rfl TI32 rfl h5 ⟨rfl, rfl⟩)) (WQ.g rfl (by simp) rfl ((QO.o rfl fun _ => o_ld TI32 rfl rfl (cell_of hC5s rfl) ⟨rfl, rfl⟩)) (WQ.g rfl (by simp) rfl ((QO.o rfl fun _ => o_mvh h10 ⟨rfl, rfl⟩)) (WQ.g rfl (by simp) rfl ((QO.o rfl fun _ => o_ixB (i := i) TI32 TI47 (show _ = Value.slice (some ⟨ub, uo, none⟩) R.length uc from rfl) (show _ = Value.int .i64 (i : Int) from by first | rfl | assumption) (by omega) ⟨rfl, rfl⟩)) (WQ.g rfl (by simp) rfl ((QO.o rfl fun _ => o_fa 0 TI47 rfl TI9 rfl rfl ⟨rfl, rfl⟩)) (WQ.g rfl (by simp) rfl ((QO.o rfl fun _ => o_ld TI9 rfl rfl (Cells.only huc hxA (fun h => h) 0 _ rfl) ⟨rfl, rfl⟩)) (WQ.g rfl (by simp) rfl ((QO.o rfl fun _ => o_fa 0 TI25 rfl TI23 rfl h3 ⟨rfl, rfl⟩)) (WQ.g rfl (by simp) rfl ((QO.o rfl fun _ => o_ld TI23 rfl rfl (cell_of hC3s rfl) ⟨rfl, rfl⟩)) (WQ.g rfl (by simp) rfl ((QO.o rfl fun _ => o_mvh h10 ⟨rfl, rfl⟩)) (WQ.g rfl (by simp) rfl ((QO.o rfl fun _ => o_ixB (i := i) TI23 TI39 (show _ = Value.slice (some ⟨tb, to_, none⟩) D.length tc from rfl) (show _ = Value.int .i64 (i : Int) from by first | rfl | assumption) (by omega) ⟨rfl, rfl⟩)) (WQ.g rfl (by simp) rfl ((QO.o rfl fun _ => o_fa 0 TI39 rfl TI9 rfl rfl ⟨rfl, rfl⟩)) (WQ.g rfl (by simp) rfl ((QO.o rfl fun _ => o_ld TI9 rfl rfl (Cells.only htc hxI (fun h => h) 0 _ rfl) ⟨rfl, rfl⟩)) (WQ.g rfl (by simp) rfl ((QO.o rfl fun _ => o_neT rfl rfl ⟨rfl, rfl⟩)) (WQ.c rfl ((QO.r fun _ => r_pickO rfl rfl)) (WQ.nil ?_)))))))))))))))))))))))))
  intro nq
  have hxq := Only.drewN w nq
  replace hC3 := hxq.blk hC3 (fun h => h)
  replace hC5 := hxq.blk hC5 (fun h => h)
  replace hxI := hxI.tr hxq
  replace hxA := hxA.tr hxq
  replace hus := own_ext hus hxq
  generalize w.drewN nq = wq at *
  replace hC5s := hC5
  rw [hrv] at hC5s
  refine W.condF' rfl (by simp [hnm]) (W.skip (W.region (WL.c rfl (o_mvh h9 (WL.c rfl (o_fa 1 TI34 rfl TI32 rfl h5 (WL.c rfl (o_ld TI32 rfl rfl (cell_of hC5s rfl) (WL.c rfl (o_mvh h10 (WL.c rfl (o_ixB (i := i) TI32 TI47 (show _ = Value.slice (some ⟨ub, uo, none⟩) R.length uc from rfl) (show _ = Value.int .i64 (i : Int) from by first | rfl | assumption) (by omega) (WL.c rfl (o_fa 1 TI47 rfl TI3 rfl rfl (WL.c rfl (o_ld TI3 rfl rfl (Cells.only huc hxA (fun h => h) 1 _ rfl) (WL.c rfl (o_ixB (i := r.ty.toNat) TI43 TI4 (show _ = Value.slice (some ⟨B, 0, none⟩) L.length L.length from by first | rfl | assumption) (show _ = Value.int .i64 ((r.ty.toNat : Nat) : Int) from by rw [← hen]; rfl) (by omega) (WL.u (o_stRj TI4 rfl (show 0 + r.ty.toNat * 1 = r.ty.toNat by omega) (show _ = Value.bool true from rfl) rfl hus (show Value.ownBlock (Value.slice (some ⟨B, 0, none⟩) L.length L.length) = some B from rfl) (by omega) ?_))))))))))))))))))))
  intro w147 hr147 ho147 hs147
  rw [us_set] at hr147
  have hBl : ∀ b, (Value.slice (some ⟨B, 0, none⟩) L.length L.length).ownBlock = some b → wg.heap.size ≤ b := fun b hb => by have := (hus.lt b hb).1; omega
  replace hC3 := ho147.blk hC3 (fun h => own_off hus hC3 (by decide) h)
  replace hC5 := ho147.blk hC5 (fun h => own_off hus hC5 (by decide) h)
  try replace hC14 := ho147.blk hC14 (fun h => own_off hus hC14 (by decide) h)
  replace hxA := hxA.trans' ho147 (fun _ h => h) (fun b hb h => by have := hBl b h; omega)
  replace hxI := hxI.trans' ho147 (fun _ h => h) (fun b hb h => by have := hBl b h; omega)
  replace hus := hr147
  rw [hr] at hus
  refine WL.nil (W.region (WL.c rfl (o_mvh h10 (WL.c rfl (o_addi rfl rfl (by omega) (WL.c rfl (o_ash vI (WL.nil (⟨⟨i + 1, updB u R[i].ty.toNat, by omega, h3, h5, h9, rfl, hus, fun j hj h => ?_, hC3, hC5, hxI, hxA⟩, ?_⟩)))))))))
  ·by_cases e : j = i
   ·subst e; exact updB_at _ _
   exact updB_up (hur j hj (by omega))
  show R.length - ((i : Int) + 1).toNat < _
  rw [hm10]; simp [intOf]; omega
 try simp only [cs8] at c104
 have hi1 : i = R.length := by omega
 replace hur : ∀ j (hj : j < R.length), u R[j].ty.toNat = true := fun j hj => hur j hj (by omega)
 refine W.exit (W.seq (W.seq (W.region (WL.c rfl (o_ash vI (WL.nil (W.block (W.loop (fun e w => ∃ (i : Nat) (u : Nat → Bool), i ≤ L.length ∧ e 3 = .pointer (some ⟨b3, 0, none⟩) ∧ e 5 = .pointer (some ⟨b5, 0, none⟩) ∧ e 9 = (.slice (some ⟨B, 0, none⟩) L.length L.length) ∧ e 13 = .int .i64 (i : Int) ∧ w.ownsRow B 4 1 (.slice (some ⟨B, 0, none⟩) L.length L.length) L.length (us L.length u) ∧ (∀ j (hj : j < R.length), u R[j].ty.toNat = true) ∧ (∀ j (hj : j < L.length), j < i → Mkd u L[j]) ∧ w.heap[b3]? = some (.cells #[dv] 25 (0, 0)) ∧ w.heap[b5]? = some (.cells #[tv, rv] 34 (0, 0)) ∧ Ext w21 w ∧ Ext wg w) (fun e w => L.length - (intOf (e 13)).toNat) ?_ ?_))))))))
 ·exact ⟨0, u, Nat.zero_le _, h3, h5, h9, rfl, hus, hur, fun j hj h => by omega, hC3, hC5, hxI, hxA⟩
 rintro e w ⟨i, u, hi, h3, h5, h9, h13, hus, hur, hum, hC3, hC5, hxI, hxA⟩
 have hm13 := h13
 refine W.seq (W.seq (W.region (WL.c rfl (o_mvh h13 (WL.c rfl (o_fa 0 TI34 rfl TI31 rfl h5 (WL.c rfl (o_ld TI31 rfl rfl (cell_of hC5 rfl) (WL.c rfl (o_lenR TI31 rfl ((hA.ext hxA).ty.row) (WL.c rfl (o_lt rfl rfl (WL.nil (W.cond rfl (fun c152 => ?_) (fun c152 => ?_)))))))))))))))
 ·try simp only [cs8] at c152
  have hi1 : i < L.length := by omega
  obtain ⟨tb, to_, tc, htv, htc, hty⟩ := hA.ty.atk hi1
  have hoki := hokT i hi1
  have htl := (hlL.ty _ (List.getElem_mem hi1)).len
  have hC5s := hC5
  rw [htv] at hC5s
  obtain ⟨t, ht⟩ : ∃ t, t = L[i] := ⟨_, rfl⟩
  rw [← ht] at htc hty hoki htl
  have hpt := fun q (hq : q < t.parts.length) => tp_part hoki hq
  have h1p := sl_one1 hty
  refine W.skip (W.seq (W.block (W.seq (W.region (WL.c rfl (o_fa 0 TI34 rfl TI31 rfl h5 (WL.c rfl (o_ld TI31 rfl rfl (cell_of hC5s rfl) (WL.c rfl (o_mvh h13 (WL.c rfl (o_ixB (i := i) TI31 TI50 (show _ = Value.slice (some ⟨tb, to_, none⟩) L.length tc from rfl) (show _ = Value.int .i64 (i : Int) from rfl) (by omega) (WL.c rfl (o_ldA TI50 rfl rfl (Cells.only htc hxA (fun h => h)) rfl (WL.c rfl (o_alB TI50 ?_))))))))))))))))
  intro wa hCa hxa hsa
  refine WL.u (o_stA TI50 rfl (show _ = Value.agg (tcell t (U i)).toArray from rfl) rfl (List.all_eq_true.2 (tcell_all h1p)) hCa rfl ?_)
  intro wb14 hC14 hob hsb
  have hxb := Ext.own hxa (Nat.le_refl _) hob
  obtain ⟨b14, hb14⟩ : ∃ b, b = w.heap.size := ⟨_, rfl⟩
  rw [← hb14] at hC14 ⊢
  clear hCa hxa hsa hob hsb
  replace hC3 := hxb.blk hC3 (fun h => h)
  replace hC5 := hxb.blk hC5 (fun h => h)
  replace hxI := hxI.tr hxb
  replace hxA := hxA.tr hxb
  replace hus := own_ext hus hxb
  clear hxb
  refine WL.nil (W.seq (W.seq (W.region (WL.cut (fun e1 w1 => e1 172 = .bool (decide (t.kind = 4 ∨ t.kind = 5 ∨ t.kind = 6)) ∧ e1 3 = .pointer (some ⟨b3, 0, none⟩) ∧ e1 5 = .pointer (some ⟨b5, 0, none⟩) ∧ e1 9 = (.slice (some ⟨B, 0, none⟩) L.length L.length) ∧ e1 13 = .int .i64 (i : Int) ∧ e1 14 = .pointer (some ⟨b14, 0, none⟩) ∧ w1 = wb14) ?_ ?_))))
  ·-- region 32
   refine WL.c rfl (o_fa 0 TI50 rfl TI3 rfl rfl (WL.c rfl (o_ld TI3 rfl rfl (cell_of hC14 rfl) (WL.c rfl (o_eq rfl rfl (WL.c rfl (o_mvh vB (WL.sp 3 rfl (fun g163 => ?_) (fun g163 => ?_)))))))))
   ·skip
    refine WL.s rfl (g163) rfl (WL.s rfl (g163) rfl (WL.s rfl (g163) rfl (WL.c rfl (o_pickT rfl (g163) (WL.c rfl (o_mvh vB (WL.s rfl (rfl) rfl (WL.s rfl (rfl) rfl (WL.s rfl (rfl) rfl (WL.c rfl (o_pickT rfl (rfl) ?_)))))))))))
    exact WL.nil (⟨congrArg Value.bool (by rw [Bool.eq_iff_iff]; simp_all), h3, h5, h9, h13, rfl, rfl⟩)
   skip
   refine WL.g rfl (g163) rfl (o_fa 0 TI50 rfl TI3 rfl rfl (WL.g rfl (g163) rfl (o_ld TI3 rfl rfl (cell_of hC14 rfl) (WL.g rfl (g163) rfl (o_eq rfl rfl (WL.c rfl (o_pickO rfl rfl (WL.c rfl (o_mvh vB (WL.sp 8 rfl (fun g168 => ?_) (fun g168 => ?_)))))))))))
   ·skip
    refine WL.s rfl (g168) rfl (WL.s rfl (g168) rfl (WL.s rfl (g168) rfl (WL.c rfl (o_pickT rfl (g168) ?_))))
    exact WL.nil (⟨congrArg Value.bool (by rw [Bool.eq_iff_iff]; simp_all), h3, h5, h9, h13, rfl, rfl⟩)
   skip
   refine WL.g rfl (g168) rfl (o_fa 0 TI50 rfl TI3 rfl rfl (WL.g rfl (g168) rfl (o_ld TI3 rfl rfl (cell_of hC14 rfl) (WL.g rfl (g168) rfl (o_eq rfl rfl (WL.c rfl (o_pickO rfl rfl ?_)))))))
   exact WL.nil (⟨congrArg Value.bool (by rw [Bool.eq_iff_iff]; simp_all), h3, h5, h9, h13, rfl, rfl⟩)
  rintro e w ⟨h172, h3, h5, h9, h13, h14, hw1⟩
  subst hw1
  refine W.cut (fun e1 w1 => ∃ u2 : Nat → Bool, (∀ j, u j = true → u2 j = true) ∧ (t.kind = 4 ∨ t.kind = 5 ∨ t.kind = 6 → u2 t.elem.toNat = true) ∧ e1 3 = .pointer (some ⟨b3, 0, none⟩) ∧ e1 5 = .pointer (some ⟨b5, 0, none⟩) ∧ e1 9 = (.slice (some ⟨B, 0, none⟩) L.length L.length) ∧ e1 13 = .int .i64 (i : Int) ∧ e1 14 = .pointer (some ⟨b14, 0, none⟩) ∧ w1.ownsRow B 4 1 (.slice (some ⟨B, 0, none⟩) L.length L.length) L.length (us L.length u2) ∧ w1.heap[b3]? = some (.cells #[dv] 25 (0, 0)) ∧ w1.heap[b5]? = some (.cells #[tv, rv] 34 (0, 0)) ∧ Ext w21 w1 ∧ Ext wg w1 ∧ w1.heap[b14]? = some (.cells (tcell t (U i)).toArray 50 (0, 0))) ?_ ?_
  ·-- both ways
   refine W.cond h172 (fun c172 => ?_) (fun c172 => ?_)
   ·try simp only [cs8] at c172
    have hel := tp_elem hoki c172
    have hen : t.elem = ((t.elem.toNat : Nat) : Int) := by omega
    refine W.region (WL.c rfl (o_mvh h9 (WL.c rfl (o_fa 2 TI50 rfl TI3 rfl h14 (WL.c rfl (o_ld TI3 rfl rfl (cell_of hC14 rfl) (WL.c rfl (o_ixB (i := t.elem.toNat) TI43 TI4 (show _ = Value.slice (some ⟨B, 0, none⟩) L.length L.length from by first | rfl | assumption) (show _ = Value.int .i64 ((t.elem.toNat : Nat) : Int) from by rw [← hen]; rfl) (by omega) (WL.u (o_stRj TI4 rfl (show 0 + t.elem.toNat * 1 = t.elem.toNat by omega) (show _ = Value.bool true from rfl) rfl hus (show Value.ownBlock (Value.slice (some ⟨B, 0, none⟩) L.length L.length) = some B from rfl) (by omega) ?_))))))))))
    intro w176 hr176 ho176 hs176
    rw [us_set] at hr176
    have hBl : ∀ b, (Value.slice (some ⟨B, 0, none⟩) L.length L.length).ownBlock = some b → wg.heap.size ≤ b := fun b hb => by have := (hus.lt b hb).1; omega
    replace hC3 := ho176.blk hC3 (fun h => own_off hus hC3 (by decide) h)
    replace hC5 := ho176.blk hC5 (fun h => own_off hus hC5 (by decide) h)
    try replace hC14 := ho176.blk hC14 (fun h => own_off hus hC14 (by decide) h)
    replace hxA := hxA.trans' ho176 (fun _ h => h) (fun b hb h => by have := hBl b h; omega)
    replace hxI := hxI.trans' ho176 (fun _ h => h) (fun b hb h => by have := hBl b h; omega)
    replace hus := hr176
    refine WL.nil ?_
    first | exact ⟨updB u t.elem.toNat, fun j h => updB_up h, fun _ => updB_at _ _, h3, h5, h9, h13, h14, hus, hC3, hC5, hxI, hxA, hC14⟩ | exact ⟨u, fun j h => h, fun h => absurd h c172, h3, h5, h9, h13, h14, hus, hC3, hC5, hxI, hxA, hC14⟩
   try simp only [cs8] at c172
   refine W.skip ?_
   first | exact ⟨updB u t.elem.toNat, fun j h => updB_up h, fun _ => updB_at _ _, h3, h5, h9, h13, h14, hus, hC3, hC5, hxI, hxA, hC14⟩ | exact ⟨u, fun j h => h, fun h => absurd h c172, h3, h5, h9, h13, h14, hus, hC3, hC5, hxI, hxA, hC14⟩
  rintro e w ⟨u2, hup, huk, h3, h5, h9, h13, h14, hus, hC3, hC5, hxI, hxA, hC14⟩
  refine W.seq (W.region (WL.c rfl (o_ash vI (WL.nil (W.block (W.loop (fun e w => ∃ (q : Nat) (u : Nat → Bool), q ≤ t.parts.length ∧ e 3 = .pointer (some ⟨b3, 0, none⟩) ∧ e 5 = .pointer (some ⟨b5, 0, none⟩) ∧ e 9 = (.slice (some ⟨B, 0, none⟩) L.length L.length) ∧ e 13 = .int .i64 (i : Int) ∧ e 14 = .pointer (some ⟨b14, 0, none⟩) ∧ e 15 = .int .i64 (q : Int) ∧ w.ownsRow B 4 1 (.slice (some ⟨B, 0, none⟩) L.length L.length) L.length (us L.length u) ∧ (∀ j (hj : j < R.length), u R[j].ty.toNat = true) ∧ (∀ j (hj : j < L.length), j < i → Mkd u L[j]) ∧ (t.kind = 4 ∨ t.kind = 5 ∨ t.kind = 6 → u t.elem.toNat = true) ∧ (∀ p ∈ t.parts.take q, u p.ty.toNat = true) ∧ w.heap[b3]? = some (.cells #[dv] 25 (0, 0)) ∧ w.heap[b5]? = some (.cells #[tv, rv] 34 (0, 0)) ∧ Ext w21 w ∧ Ext wg w ∧ w.heap[b14]? = some (.cells (tcell t (U i)).toArray 50 (0, 0))) (fun e w => t.parts.length - (intOf (e 15)).toNat) ?_ ?_))))))
  ·exact ⟨0, u2, Nat.zero_le _, h3, h5, h9, h13, h14, rfl, hus, fun j hj => hup _ (hur j hj), fun j hj h => ⟨fun hk => hup _ ((hum j hj h).1 hk), fun p hp => hup _ ((hum j hj h).2 p hp)⟩, huk, fun p hp => by simp at hp, hC3, hC5, hxI, hxA, hC14⟩
  rintro e w ⟨q, u, hq, h3, h5, h9, h13, h14, h15, hus, hur, hum, huk, huq, hC3, hC5, hxI, hxA, hC14⟩
  have hm15 := h15
  have hC14s := hC14
  refine W.seq (W.seq (W.region (WL.c rfl (o_mvh h15 (WL.c rfl (o_fa 3 TI50 rfl TI48 rfl h14 (WL.c rfl (o_ld TI48 rfl rfl (cell_of hC14 rfl) (WL.c rfl (o_lenR TI48 (show _ = U i from rfl) (hty.ext hxA) (WL.c rfl (o_lt rfl rfl (WL.nil (W.cond rfl (fun c181 => ?_) (fun c181 => ?_)))))))))))))))
  ·try simp only [cs8] at c181
   have hq1 : q < t.parts.length := by omega
   obtain ⟨vb, vo, vc, hpv, hvc⟩ := Sl.paq hty hq1
   rw [hpv] at hC14s
   have hptq := hpt q hq1
   obtain ⟨p, hp⟩ : ∃ p, p = t.parts[q] := ⟨_, rfl⟩
   rw [← hp] at hvc hptq
   have hen : p.ty = ((p.ty.toNat : Nat) : Int) := by omega
   refine W.skip (W.seq (W.block (W.region (WL.c rfl (o_mvh h9 (WL.c rfl (o_fa 3 TI50 rfl TI48 rfl h14 (WL.c rfl (o_ld TI48 rfl rfl (cell_of hC14s rfl) (WL.c rfl (o_mvh h15 (WL.c rfl (o_ixB (i := q) TI48 TI52 (show _ = Value.slice (some ⟨vb, vo, none⟩) t.parts.length vc from rfl) (show _ = Value.int .i64 (q : Int) from rfl) (by omega) (WL.c rfl (o_fa 2 TI52 rfl TI3 rfl rfl (WL.c rfl (o_ld TI3 rfl rfl (Cells.only hvc hxA (fun h => h) 2 _ rfl) (WL.c rfl (o_ixB (i := p.ty.toNat) TI43 TI4 (show _ = Value.slice (some ⟨B, 0, none⟩) L.length L.length from by first | rfl | assumption) (show _ = Value.int .i64 ((p.ty.toNat : Nat) : Int) from by rw [← hen]; rfl) (by omega) (WL.u (o_stRj TI4 rfl (show 0 + p.ty.toNat * 1 = p.ty.toNat by omega) (show _ = Value.bool true from rfl) rfl hus (show Value.ownBlock (Value.slice (some ⟨B, 0, none⟩) L.length L.length) = some B from rfl) (by omega) ?_)))))))))))))))))))))
   intro w191 hr191 ho191 hs191
   rw [us_set] at hr191
   have hBl : ∀ b, (Value.slice (some ⟨B, 0, none⟩) L.length L.length).ownBlock = some b → wg.heap.size ≤ b := fun b hb => by have := (hus.lt b hb).1; omega
   replace hC3 := ho191.blk hC3 (fun h => own_off hus hC3 (by decide) h)
   replace hC5 := ho191.blk hC5 (fun h => own_off hus hC5 (by decide) h)
   try replace hC14 := ho191.blk hC14 (fun h => own_off hus hC14 (by decide) h)
   replace hxA := hxA.trans' ho191 (fun _ h => h) (fun b hb h => by have := hBl b h; omega)
   replace hxI := hxI.trans' ho191 (fun _ h => h) (fun b hb h => by have := hBl b h; omega)
   replace hus := hr191
   refine WL.nil (W.region (WL.c rfl (o_mvh h15 (WL.c rfl (o_addi rfl rfl (by omega) (WL.c rfl (o_ash vI (WL.nil (⟨⟨q + 1, updB u p.ty.toNat, by omega, h3, h5, h9, h13, h14, rfl, hus, fun j hj => updB_up (hur j hj), fun j hj h => (hum j hj h).up _, fun hk => updB_up (huk hk), fun p' hp' => ?_, hC3, hC5, hxI, hxA, hC14⟩, ?_⟩)))))))))
   ·rw [List.take_succ_eq_append_getElem hq1, ← hp] at hp'
    rcases List.mem_append.1 hp' with h | h
    ·exact updB_up (huq p' h)
    rw [List.mem_singleton.1 h]; exact updB_at _ _
   show t.parts.length - ((q : Int) + 1).toNat < _
   rw [hm15]; simp [intOf]; omega
  try simp only [cs8] at c181
  have hq1 : q = t.parts.length := by omega
  refine W.exit (W.region (WL.c rfl (o_mvh h13 (WL.c rfl (o_addi rfl rfl (by omega) (WL.c rfl (o_ash vI (WL.nil (⟨⟨i + 1, u, by omega, h3, h5, h9, rfl, hus, hur, fun j hj h => ?_, hC3, hC5, hxI, hxA⟩, ?_⟩)))))))))
  ·by_cases e : j = i
   ·subst e; rw [← ht]; exact ⟨huk, fun p hp => huq p (by rw [hq1, List.take_length]; exact hp)⟩
   exact hum j hj (by omega)
  show L.length - ((i : Int) + 1).toNat < _
  rw [hm13]; simp [intOf]; omega
 try simp only [cs8] at c152
 have hi1 : i = L.length := by omega
 replace hum : ∀ j (hj : j < L.length), Mkd u L[j] := fun j hj => hum j hj (by omega)
 have hfin := fun j hj => hall u hur hum j hj
 refine W.exit (W.seq (W.seq (W.region (WL.c rfl (o_ash vI (WL.nil (W.block (W.loop (fun e w => ∃ i : Nat, i ≤ L.length ∧ e 9 = (.slice (some ⟨B, 0, none⟩) L.length L.length) ∧ e 16 = .int .i64 (i : Int) ∧ w.ownsRow B 4 1 (.slice (some ⟨B, 0, none⟩) L.length L.length) L.length (us L.length u) ∧ Ext w21 w) (fun e w => L.length - (intOf (e 16)).toNat) ?_ ?_))))))))
 ·exact ⟨0, Nat.zero_le _, h9, rfl, hus, hxI⟩
 rintro e w ⟨i, hi, h9, h16, hus, hxI⟩
 have hm16 := h16
 refine W.seq (W.seq (W.region (WL.c rfl (o_mvh h16 (WL.c rfl (o_mvh h9 (WL.c rfl (o_len (n := L.length) (c := L.length) TI43 (show _ = Value.slice (some ⟨B, 0, none⟩) L.length L.length from by first | rfl | assumption) (WL.c rfl (o_lt rfl rfl (WL.nil (W.cond rfl (fun c195 => ?_) (fun c195 => ?_)))))))))))))
 ·try simp only [cs8] at c195
  have hi1 : i < L.length := by omega
  refine W.skip (W.seq (W.block (W.seq (W.region (WL.c rfl (o_mvh h9 (WL.c rfl (o_mvh h16 (WL.c rfl (o_ixB (i := i) TI43 TI4 (show _ = Value.slice (some ⟨B, 0, none⟩) L.length L.length from by first | rfl | assumption) (show _ = Value.int .i64 (i : Int) from by first | rfl | assumption) (by omega) (WL.c rfl (o_ld TI4 rfl rfl (show World.cell? _ ⟨B, 0 + i * 1, none⟩ = some (.bool true) from by rw [Nat.zero_add, Nat.mul_one]; exact (own_cell hus (us_at hi1)).trans (by rw [hfin i hi1])) (WL.c rfl (o_not' rfl (WL.nil (W.condF' rfl (rfl) (W.skip (W.region (WL.c rfl (o_mvh h16 (WL.c rfl (o_addi rfl rfl (by omega) (WL.c rfl (o_ash vI (WL.nil (⟨⟨i + 1, by omega, h9, rfl, hus, hxI⟩, ?_⟩))))))))))))))))))))))))))
  show L.length - ((i : Int) + 1).toNat < _
  rw [hm16]; simp [intOf]; omega
 try simp only [cs8] at c195
 refine W.exit (W.seq (W.region (WL.c rfl (o_ash vB (WL.nil (W.ret (ret1v rfl vB ?_)))))))
 exact ⟨rfl, hx.tr hxI⟩
end Go.Proofs.Ytpbflfgigfdohaa
