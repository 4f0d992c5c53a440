/-
  Walks and lemmas. Written by program out of specs of mine.
-/
import Derived.WalkKit
import Derived.WalkSpells
import Derived.WalkLawsBesides
import Derived.Deep.Quiet
import Derived.StillTail
import Derived.StringKeys
import Derived.Laws.StructEq
import Derived.Laws.Externs
import Derived.Laws.Tables
import Derived.Scope
import Derived.Test.YtpbflfgigfdohaaProg
import Derived.Laws.AppendOwn
import Derived.Maps.AppendAt
import Derived.Recover
import Derived.Lib.Bytealg
import Derived.SizedLaws
import Derived.ChangeArms
import Derived.ChangeSlices
import Derived.Maps.OwnSet
import Derived.Test.YtpbflfgigfdohaaRows
import Derived.ProofKit
import Derived.OpenShut
import Derived.ShutString
import Derived.ChangeOld
import Derived.Below
import Derived.Test.YtpbflfgigfdohaaKc3
set_option linter.unusedSimpArgs false
set_option linter.unusedVariables false
set_option maxRecDepth 100000
set_option linter.unusedSimpArgs false
set_option linter.unusedVariables false
set_option maxRecDepth 100000
namespace Go.Proofs.Ytpbflfgigfdohaa
open Go Go.Vc Go.RowKit Go.Proofs

theorem depO_le {wh : List UInt8 → Nat} {T : Nat → Tr} {n B : Nat} (hT : ∀ i, i < n → (T i).flat.length ≤ B) : ∀ (l : List Nat) (f : Nat → Nat) (C : Nat), (∀ i ∈ l, i < n) → (∀ j, f j ≤ C) → ∀ j, depO wh T l f j ≤ C + l.length * B
  | [], f, C, _, hf, j => by have := hf j; unfold depO; omega
  | i :: l, f, C, hl, hf, j => by
    unfold depO
    have h1 := hT i (hl i (List.mem_cons_self ..))
    have h2 := dep_le (wh := wh) hf (T i)
    have h3 := depO_le (wh := wh) hT l (updN f i (depT wh f (T i))) (C + B) (fun j hj => hl j (List.mem_cons_of_mem _ hj)) (fun j => by
      unfold updN
      split
      · omega
      have := hf j; omega) j
    rw [List.length_cons, Nat.succ_mul]
    omega
/-- a source whose types are trees -/
structure Trd (D : List Df) (T : Nat → Tr) : Prop where
  n : D.length ≤ 256
  wf : ∀ i, i < D.length → (T i).wf 0 0
  nm : ∀ d ∈ D, nameB d.name = true
  fl : ∀ i, i < D.length → (T i).flat = tyD D i
def kn9 (D : List Df) : Prop := ∀ d ∈ D, ∀ x ∈ d.ty, x.kind = 9 → ∃ i, whereN D x.name = some i
theorem ord_told {D : List Df} (hk : kn9 D) (hac : ∀ i, i < D.length → ¬ Relation.TransGen (Us (usesD D)) i i) : Told D.length (usesD D) (ordN D) ∧ (ordN D).length = D.length :=
  orderF_told (fun i hi => uses_lt hk hi) hac _ [] Told.nil (by simp)
theorem depO_take {wh : List UInt8 → Nat} {T : Nat → Tr} {l : List Nat} {f : Nat → Nat} {k : Nat} (hk : k < l.length) : depO wh T (l.take (k + 1)) f = updN (depO wh T (l.take k) f) l[k] (depT wh (depO wh T (l.take k) f) (T l[k])) := by
  rw [List.take_succ_eq_append_getElem hk, depO_snoc]

set_option maxHeartbeats 2000000 in
theorem depths_spec (pb mb : Nat) (D : List Df) (T : Nat → Tr) (dv : Value) (V : Nat → Value) (w0 : World) (hB : Bk w0 pb mb D dv V) (hlim : DOk D) (hT : Trd D T) (hkn : kn9 D) (hac : ∀ i, i < D.length → ¬ Relation.TransGen (Us (usesD D)) i i) : Ca Try.prog 81 #[.pointer (some ⟨pb, 0, none⟩)] w0 (fun v w' => w'.ownsRow w0.heap.size 3 1 v D.length (dps D.length (depN D T)) ∧ Ext w0 w') := by
  have hx : Ext w0 w0 := Only.refl _ _
  have hlen := hlim.len
  have hB00 := hB
  obtain ⟨hto, htl⟩ := ord_told hkn hac
  have h256 := hT.n
  obtain ⟨BB, hBB⟩ : ∃ B, B = w0.heap.size := ⟨_, rfl⟩
  rw [← hBB]
  refine Ca.of Try.func81 Try.ntmps81 rfl rfl ?_
  refine W.seq ?_
  refine W.region ?_
  refine WL.c rfl (o_boxB rfl ?_)
  intro w1 hC1 hx1 hs1
  obtain ⟨b1, hb1⟩ : ∃ b, b = w0.heap.size := ⟨_, rfl⟩
  rw [← hb1] at hC1 ⊢
  replace hC1 : w1.heap[b1]? = some (.cells ([.pointer (some ⟨pb, 0, none⟩)]).toArray 115 (0, 0)) := hC1
  have hx := hx1
  replace hB := hB.ext hx1
  refine WL.c rfl (o_ash (by first | exact (show _ = Value.slice _ _ _ from rfl) | exact rfl) ?_)
  refine WL.nil ?_
  refine W.seq ?_
  refine W.region ?_
  refine WL.c rfl (o_ld TI115 rfl rfl (cell_of hC1 rfl) ?_)
  refine WL.c rfl (o_nil rfl ?_)
  refine WL.c rfl (o_fa 0 TI136 rfl TI23 rfl rfl ?_)
  refine WL.c rfl (o_ld TI23 rfl rfl (cell_of hB.cell rfl) ?_)
  refine WL.c rfl (o_lenR TI23 rfl hB.rd.row ?_)
  refine WL.c rfl (o_mk2 TI79 TI3 (l := D.length) (n := D.length) rfl rfl (Nat.le_refl _) (by omega) (by omega) ?_)
  have hrv := own_made1 (w := w1) (el := 3) (l := D.length) (n := D.length) (z := .int .i64 0) rfl (Nat.le_refl _) (by omega)
  have hxb : Ext w1 (w1.alloc (.cells (madeCells (Value.int .i64 0).cells (D.length * 1)) 3)) := Only.alloc w1 _
  generalize w1.alloc (.cells (madeCells (Value.int .i64 0).cells (D.length * 1)) 3) = wt at hrv hxb ⊢
  obtain ⟨ov, hov⟩ : ∃ o, o = Value.slice (some ⟨w1.heap.size, 0, none⟩) D.length D.length := ⟨_, rfl⟩
  rw [← hov] at hrv ⊢
  replace hrv : wt.ownsRow w1.heap.size 3 1 ov D.length (dps D.length (fun _ => 0)) := by rw [dps_zero]; exact hrv
  replace hrv := own_mono hrv (show BB ≤ w1.heap.size by rw [hBB]; exact hx.size)
  replace hx := hx.tr hxb
  replace hB := hB.ext hxb
  replace hC1 := hxb.blk hC1 (fun h => h)
  clear hxb hov
  refine WL.c rfl (o_alB TI79 ?_)
  have hxt := hx
  have hq1 := (Array.getElem?_eq_some_iff.1 hC1).1
  intro wb hCb hxb hsb
  replace hrv := own_ext hrv hxb
  replace hx := hx.tr hxb
  replace hB := hB.ext hxb
  replace hC1 := hxb.blk hC1 (fun h => h)
  obtain ⟨c3, hc3⟩ : ∃ c, c = wt.heap.size := ⟨_, rfl⟩
  rw [← hc3] at hCb ⊢
  have hzt : BB ≤ c3 := by rw [hc3, hBB]; exact hxt.size
  have hz1 : b1 ≠ c3 := by omega
  refine WL.u (o_stB TI79 rfl (show _ = ov from rfl) (own_one hrv) hCb (show 0 < 1 by decide) ?_)
  intro wc hC3 ho hsc
  replace hC3 : wc.heap[c3]? = some (.cells #[ov] 79 (0, 0)) := hC3
  replace hrv := own_only hrv ho (fun b hb he => by subst he; exact own_off hrv hCb (by decide) hb)
  replace hC1 := ho.blk hC1 hz1
  replace hx := hx.trans' ho (fun _ h => h) (fun b hb he => by omega)
  replace hB := hB00.ext hx
  clear hCb ho
  refine WL.nil ?_
  refine W.seq ?_
  refine W.seq ?_
  refine W.region ?_
  refine WL.c rfl (o_ld TI115 rfl rfl (cell_of hC1 rfl) ?_)
  refine WL.c rfl (o_call Try.call56 (lc rfl ln) ((order_spec pb mb D dv V _ hB hlim (fun i hi => uses_lt hkn hi) hac).mono ?_))
  rintro v15 w15 ⟨hro, hx15⟩
  have hvb : ∀ b, ov.ownBlock = some b → b < wc.heap.size := fun b hb => (hrv.lt b hb).2
  obtain ⟨B2, hB2⟩ : ∃ B, B = wc.heap.size := ⟨_, rfl⟩
  rw [← hB2] at hro hvb
  have hzB : BB ≤ B2 := by rw [hB2, hBB]; exact hx.size
  replace hx := hx.tr hx15
  replace hB := hB.ext hx15
  replace hC1 := hx15.blk hC1 (fun h => h)
  replace hC3 := hx15.blk hC3 (fun h => h)
  replace hrv := own_ext hrv hx15
  clear hx15
  refine WL.c rfl (o_lenR TI79 rfl (Sl.own hro) ?_)
  refine WL.c rfl (o_mvh (show _ = Value.int _ _ from rfl) ?_)
  refine WL.nil ?_
  refine W.block ?_
  refine W.loop (fun e w => ∃ (k : Nat), k ≤ (ordN D).length ∧ e 1 = .pointer (some ⟨b1, 0, none⟩) ∧ e 3 = .pointer (some ⟨c3, 0, none⟩) ∧ e 15 = v15 ∧ e 16 = .int .i64 ((ordN D).length : Int) ∧ e 17 = .int .i64 (k : Int) ∧ w.ownsRow B2 3 1 v15 (ordN D).length ((ordN D).map iv) ∧ w.ownsRow BB 3 1 ov D.length (dps D.length (depO (whD D) T ((ordN D).take k) (fun _ => 0))) ∧ w.heap[b1]? = some (.cells #[.pointer (some ⟨pb, 0, none⟩)] 115 (0, 0)) ∧ w.heap[c3]? = some (.cells #[ov] 79 (0, 0)) ∧ Bk w pb mb D dv V ∧ Ext w0 w) (fun e w => (ordN D).length - (intOf (e 17)).toNat) ?_ ?_
  · exact ⟨0, Nat.zero_le _, rfl, rfl, rfl, rfl, rfl, hro, hrv, hC1, hC3, hB, hx⟩
  rintro e w ⟨k, hk, h1, h3, h15, h16, h17, hro, hrv, hC1, hC3, hB, hx⟩
  have hm17 := h17
  refine W.seq ?_
  refine W.region ?_
  refine WL.c rfl (o_lt h17 h16 ?_)
  refine WL.nil ?_
  refine W.seq ?_
  refine W.cond rfl (fun c18 => ?_) (fun c18 => ?_)
  · try simp only [cs8] at c18
    have hk1 : k < (ordN D).length := by omega
    have hi : (ordN D)[k] < D.length := hto.lt _ (List.getElem_mem hk1)
    obtain ⟨ub, uo, uc, hV15, hcell⟩ := Sl.at1 (Sl.own hro) hk1 (u := iv (ordN D)[k]) (by rw [List.getElem?_map, List.getElem?_eq_getElem hk1]; rfl)
    rw [hV15] at h15
    obtain ⟨i, hie⟩ : ∃ i, i = (ordN D)[k] := ⟨_, rfl⟩
    rw [← hie] at hi hcell
    obtain ⟨gb, go, gc, hdv, hgc, hty⟩ := hB.rd.atk hi
    have hcl := hB.cell
    rw [hdv] at hcl
    obtain ⟨dp, hdp⟩ : ∃ f, f = depO (whD D) T ((ordN D).take k) (fun _ => 0) := ⟨_, rfl⟩
    rw [← hdp] at hrv
    have hdb : ∀ j, dp j ≤ 2305843009213693952 := fun j => by
      rw [hdp]
      refine Nat.le_trans (depO_le (n := D.length) (B := 1954687338212) (fun i hi => ?_) _ _ 0 (fun i hi => hto.lt i (List.mem_of_mem_take hi)) (fun _ => Nat.le_refl _) j) ?_
      · rw [hT.fl i hi, tyD_at hi]; have := hlim.ty _ (List.getElem_mem hi); omega
      rw [List.length_take]; have : min k (ordN D).length ≤ 256 := by omega
      omega
    refine W.skip ?_
    refine W.seq ?_
    refine W.block ?_
    refine W.seq ?_
    refine W.region ?_
    refine WL.c rfl (o_ixB (i := k) TI79 TI3 h15 h17 (by omega) ?_)
    refine WL.c rfl (o_ld TI3 rfl rfl hcell ?_)
    refine WL.c rfl (o_ash (show _ = Value.int _ _ from rfl) ?_)
    refine WL.nil ?_
    refine W.seq ?_
    refine W.region ?_
    refine WL.c rfl (o_ld TI115 rfl h1 (cell_of hC1 rfl) ?_)
    refine WL.c rfl (o_nil rfl ?_)
    refine WL.c rfl (o_fa 0 TI136 rfl TI23 rfl rfl ?_)
    refine WL.c rfl (o_ld TI23 rfl rfl (cell_of hcl rfl) ?_)
    refine WL.c rfl (o_mvh (show _ = Value.int _ _ from rfl) ?_)
    refine WL.c rfl (o_ixB (i := i) TI23 TI39 rfl (show _ = Value.int .i64 (i : Int) from rfl) (by omega) ?_)
    refine WL.c rfl (o_fa 2 TI39 rfl TI37 rfl rfl ?_)
    refine WL.c rfl (o_ld TI37 rfl rfl (hgc 2 _ rfl) ?_)
    refine WL.c rfl (o_alB TI37 ?_)
    have hx6 := hx
    have hC1w := hC1
    have hC3w := hC3
    intro wa hCa hxa hsa
    replace hx := hx.tr hxa
    replace hB := hB.ext hxa
    replace hC1 := hxa.blk hC1 (fun h => h)
    replace hC3 := hxa.blk hC3 (fun h => h)
    replace hro := own_ext hro hxa
    replace hrv := own_ext hrv hxa
    replace hty := hty.ext hxa
    obtain ⟨c6, hc6⟩ : ∃ c, c = w.heap.size := ⟨_, rfl⟩
    rw [← hc6] at hCa ⊢
    have hz6 : BB ≤ c6 := by rw [hc6, hBB]; exact hx6.size
    have hn1 := (Array.getElem?_eq_some_iff.1 hC1w).1
    have hn3 := (Array.getElem?_eq_some_iff.1 hC3w).1
    refine WL.u (o_stB TI37 rfl (show _ = V i from rfl) (sl_one1 hty) hCa (show 0 < 1 by decide) ?_)
    intro wd hC6 ho6 hs6
    replace hC6 : wd.heap[c6]? = some (.cells #[V i] 37 (0, 0)) := hC6
    have hxd : Ext w0 wd := hx.trans' ho6 (fun _ h => h) (fun b hb he => by omega)
    replace hC1 := ho6.blk hC1 (by omega)
    replace hC3 := ho6.blk hC3 (by omega)
    replace hro := own_only hro ho6 (fun b hb he => by subst he; exact own_off hro hCa (by decide) hb)
    replace hrv := own_only hrv ho6 (fun b hb he => by subst he; exact own_off hrv hCa (by decide) hb)
    replace hx := hxd
    replace hB := hB00.ext hx
    replace hty := (hB.rd.tys i hi)
    rw [tyD_at hi] at hty
    refine WL.nil ?_
    refine W.seq ?_
    refine W.region ?_
    refine WL.c rfl (o_alB TI155 ?_)
    have hx7 := hx
    have hC6w := hC6
    intro wf hCf hxf hsf
    replace hx := hx.tr hxf
    replace hB := hB.ext hxf
    replace hC1 := hxf.blk hC1 (fun h => h)
    replace hC3 := hxf.blk hC3 (fun h => h)
    replace hro := own_ext hro hxf
    replace hrv := own_ext hrv hxf
    replace hty := hty.ext hxf
    replace hC6 := hxf.blk hC6 (fun h => h)
    obtain ⟨c7, hc7⟩ : ∃ c, c = wd.heap.size := ⟨_, rfl⟩
    rw [← hc7] at hCf ⊢
    have hz7 : BB ≤ c7 := by rw [hc7, hBB]; exact hx7.size
    have hn6 := (Array.getElem?_eq_some_iff.1 hC6w).1
    have hs67 : w.heap.size < wd.heap.size := by omega
    refine WL.nil ?_
    refine W.seq ?_
    refine W.region ?_
    refine WL.c rfl (o_mkF (lc rfl (lc h3 (lc h1 (lc rfl ln)))) ?_)
    refine WL.u (o_stB TI155 rfl (show _ = (Value.func (.func 96) #[] #[.pointer (some ⟨c6, 0, none⟩), .pointer (some ⟨c3, 0, none⟩), .pointer (some ⟨b1, 0, none⟩), .pointer (some ⟨c7, 0, none⟩)]) from rfl) rfl hCf (show 0 < 1 by decide) ?_)
    intro wg hC7 ho7 hs7
    replace hC7 : wg.heap[c7]? = some (.cells #[(Value.func (.func 96) #[] #[.pointer (some ⟨c6, 0, none⟩), .pointer (some ⟨c3, 0, none⟩), .pointer (some ⟨b1, 0, none⟩), .pointer (some ⟨c7, 0, none⟩)])] 155 (0, 0)) := hC7
    have hxd : Ext w0 wg := hx.trans' ho7 (fun _ h => h) (fun b hb he => by omega)
    replace hC1 := ho7.blk hC1 (by omega)
    replace hC3 := ho7.blk hC3 (by omega)
    replace hC6 := ho7.blk hC6 (by omega)
    replace hro := own_only hro ho7 (fun b hb he => by subst he; exact own_off hro hCf (by decide) hb)
    replace hrv := own_only hrv ho7 (fun b hb he => by subst he; exact own_off hrv hCf (by decide) hb)
    replace hx := hxd
    replace hB := hB00.ext hx
    replace hty := (hB.rd.tys i hi)
    rw [tyD_at hi] at hty
    refine WL.nil ?_
    have hDC : DC wg c6 c3 b1 c7 pb mb (V i) ov D[i].ty dp D dv V := ⟨hC6, hty, hC3, Sl.own hrv, hC1, hC7, hB⟩
    have hfl := hT.fl i hi
    rw [tyD_at hi] at hfl
    have hcall := fun w9 (hR : Ext wg w9) => deep_all c6 c3 b1 c7 pb mb (V i) ov D[i].ty dp D dv V hlim (hlim.ty _ (List.getElem_mem hi)) (fun x hx => (hlim.ex _ (List.getElem_mem hi) x hx).1) hdb _ (T i) (Nat.le_refl _) 0 [] 0 0 w9 (hT.wf i hi) (by rw [hfl, List.append_nil]; rfl) (fun x hx h9 => hkn _ (List.getElem_mem hi) x (by rw [← hfl]; exact hx) h9) (hDC.ext hR)
    obtain ⟨tb, tc, htv, htb⟩ := own_some hrv (by omega)
    have hC3s := hC3
    rw [htv] at hC3s
    clear hDC hcl hgc
    refine W.states (fun kS e w => match kS with | 0 => e 1 = (.pointer (some ⟨b1, 0, none⟩)) ∧ e 3 = (.pointer (some ⟨c3, 0, none⟩)) ∧ e 5 = (.int .i64 (i : Int)) ∧ e 7 = (.pointer (some ⟨c7, 0, none⟩)) ∧ e 15 = (.slice (some ⟨ub, uo, none⟩) (ordN D).length uc) ∧ e 16 = (.int .i64 ((ordN D).length : Int)) ∧ e 17 = (.int .i64 (k : Int)) ∧ Ext wg w | 1 => e 1 = (.pointer (some ⟨b1, 0, none⟩)) ∧ e 3 = (.pointer (some ⟨c3, 0, none⟩)) ∧ e 5 = (.int .i64 (i : Int)) ∧ e 7 = (.pointer (some ⟨c7, 0, none⟩)) ∧ e 15 = (.slice (some ⟨ub, uo, none⟩) (ordN D).length uc) ∧ e 16 = (.int .i64 ((ordN D).length : Int)) ∧ e 17 = (.int .i64 (k : Int)) ∧ e 31 = (.slice (some ⟨tb, 0, none⟩) D.length tc) ∧ Ext wg w | 2 => e 1 = (.pointer (some ⟨b1, 0, none⟩)) ∧ e 3 = (.pointer (some ⟨c3, 0, none⟩)) ∧ e 5 = (.int .i64 (i : Int)) ∧ e 7 = (.pointer (some ⟨c7, 0, none⟩)) ∧ e 15 = (.slice (some ⟨ub, uo, none⟩) (ordN D).length uc) ∧ e 16 = (.int .i64 ((ordN D).length : Int)) ∧ e 17 = (.int .i64 (k : Int)) ∧ e 32 = (.int .i64 (i : Int)) ∧ Ext wg w | 3 => e 1 = (.pointer (some ⟨b1, 0, none⟩)) ∧ e 3 = (.pointer (some ⟨c3, 0, none⟩)) ∧ e 5 = (.int .i64 (i : Int)) ∧ e 7 = (.pointer (some ⟨c7, 0, none⟩)) ∧ e 15 = (.slice (some ⟨ub, uo, none⟩) (ordN D).length uc) ∧ e 16 = (.int .i64 ((ordN D).length : Int)) ∧ e 17 = (.int .i64 (k : Int)) ∧ e 33 = (Value.func (.func 96) #[] #[.pointer (some ⟨c6, 0, none⟩), .pointer (some ⟨c3, 0, none⟩), .pointer (some ⟨b1, 0, none⟩), .pointer (some ⟨c7, 0, none⟩)]) ∧ Ext wg w | 4 => e 1 = (.pointer (some ⟨b1, 0, none⟩)) ∧ e 3 = (.pointer (some ⟨c3, 0, none⟩)) ∧ e 5 = (.int .i64 (i : Int)) ∧ e 7 = (.pointer (some ⟨c7, 0, none⟩)) ∧ e 15 = (.slice (some ⟨ub, uo, none⟩) (ordN D).length uc) ∧ e 16 = (.int .i64 ((ordN D).length : Int)) ∧ e 17 = (.int .i64 (k : Int)) ∧ e 31 = (.slice (some ⟨tb, 0, none⟩) D.length tc) ∧ e 32 = (.int .i64 (i : Int)) ∧ Ext wg w | 5 => e 1 = (.pointer (some ⟨b1, 0, none⟩)) ∧ e 3 = (.pointer (some ⟨c3, 0, none⟩)) ∧ e 5 = (.int .i64 (i : Int)) ∧ e 7 = (.pointer (some ⟨c7, 0, none⟩)) ∧ e 15 = (.slice (some ⟨ub, uo, none⟩) (ordN D).length uc) ∧ e 16 = (.int .i64 ((ordN D).length : Int)) ∧ e 17 = (.int .i64 (k : Int)) ∧ e 31 = (.slice (some ⟨tb, 0, none⟩) D.length tc) ∧ e 33 = (Value.func (.func 96) #[] #[.pointer (some ⟨c6, 0, none⟩), .pointer (some ⟨c3, 0, none⟩), .pointer (some ⟨b1, 0, none⟩), .pointer (some ⟨c7, 0, none⟩)]) ∧ Ext wg w | 6 => e 1 = (.pointer (some ⟨b1, 0, none⟩)) ∧ e 3 = (.pointer (some ⟨c3, 0, none⟩)) ∧ e 5 = (.int .i64 (i : Int)) ∧ e 7 = (.pointer (some ⟨c7, 0, none⟩)) ∧ e 15 = (.slice (some ⟨ub, uo, none⟩) (ordN D).length uc) ∧ e 16 = (.int .i64 ((ordN D).length : Int)) ∧ e 17 = (.int .i64 (k : Int)) ∧ e 32 = (.int .i64 (i : Int)) ∧ e 33 = (Value.func (.func 96) #[] #[.pointer (some ⟨c6, 0, none⟩), .pointer (some ⟨c3, 0, none⟩), .pointer (some ⟨b1, 0, none⟩), .pointer (some ⟨c7, 0, none⟩)]) ∧ Ext wg w | 7 => e 1 = (.pointer (some ⟨b1, 0, none⟩)) ∧ e 3 = (.pointer (some ⟨c3, 0, none⟩)) ∧ e 5 = (.int .i64 (i : Int)) ∧ e 7 = (.pointer (some ⟨c7, 0, none⟩)) ∧ e 15 = (.slice (some ⟨ub, uo, none⟩) (ordN D).length uc) ∧ e 16 = (.int .i64 ((ordN D).length : Int)) ∧ e 17 = (.int .i64 (k : Int)) ∧ e 33 = (Value.func (.func 96) #[] #[.pointer (some ⟨c6, 0, none⟩), .pointer (some ⟨c3, 0, none⟩), .pointer (some ⟨b1, 0, none⟩), .pointer (some ⟨c7, 0, none⟩)]) ∧ e 34 = (.tuple #[iv (depT (whD D) dp (T i)), iv (0 + (T i).flat.length)]) ∧ Ext wg w | 8 => e 1 = (.pointer (some ⟨b1, 0, none⟩)) ∧ e 3 = (.pointer (some ⟨c3, 0, none⟩)) ∧ e 5 = (.int .i64 (i : Int)) ∧ e 7 = (.pointer (some ⟨c7, 0, none⟩)) ∧ e 15 = (.slice (some ⟨ub, uo, none⟩) (ordN D).length uc) ∧ e 16 = (.int .i64 ((ordN D).length : Int)) ∧ e 17 = (.int .i64 (k : Int)) ∧ e 31 = (.slice (some ⟨tb, 0, none⟩) D.length tc) ∧ e 32 = (.int .i64 (i : Int)) ∧ e 33 = (Value.func (.func 96) #[] #[.pointer (some ⟨c6, 0, none⟩), .pointer (some ⟨c3, 0, none⟩), .pointer (some ⟨b1, 0, none⟩), .pointer (some ⟨c7, 0, none⟩)]) ∧ Ext wg w | 9 => e 1 = (.pointer (some ⟨b1, 0, none⟩)) ∧ e 3 = (.pointer (some ⟨c3, 0, none⟩)) ∧ e 5 = (.int .i64 (i : Int)) ∧ e 7 = (.pointer (some ⟨c7, 0, none⟩)) ∧ e 15 = (.slice (some ⟨ub, uo, none⟩) (ordN D).length uc) ∧ e 16 = (.int .i64 ((ordN D).length : Int)) ∧ e 17 = (.int .i64 (k : Int)) ∧ e 31 = (.slice (some ⟨tb, 0, none⟩) D.length tc) ∧ e 33 = (Value.func (.func 96) #[] #[.pointer (some ⟨c6, 0, none⟩), .pointer (some ⟨c3, 0, none⟩), .pointer (some ⟨b1, 0, none⟩), .pointer (some ⟨c7, 0, none⟩)]) ∧ e 34 = (.tuple #[iv (depT (whD D) dp (T i)), iv (0 + (T i).flat.length)]) ∧ Ext wg w | 10 => e 1 = (.pointer (some ⟨b1, 0, none⟩)) ∧ e 3 = (.pointer (some ⟨c3, 0, none⟩)) ∧ e 5 = (.int .i64 (i : Int)) ∧ e 7 = (.pointer (some ⟨c7, 0, none⟩)) ∧ e 15 = (.slice (some ⟨ub, uo, none⟩) (ordN D).length uc) ∧ e 16 = (.int .i64 ((ordN D).length : Int)) ∧ e 17 = (.int .i64 (k : Int)) ∧ e 32 = (.int .i64 (i : Int)) ∧ e 33 = (Value.func (.func 96) #[] #[.pointer (some ⟨c6, 0, none⟩), .pointer (some ⟨c3, 0, none⟩), .pointer (some ⟨b1, 0, none⟩), .pointer (some ⟨c7, 0, none⟩)]) ∧ e 34 = (.tuple #[iv (depT (whD D) dp (T i)), iv (0 + (T i).flat.length)]) ∧ Ext wg w | 11 => e 1 = (.pointer (some ⟨b1, 0, none⟩)) ∧ e 3 = (.pointer (some ⟨c3, 0, none⟩)) ∧ e 5 = (.int .i64 (i : Int)) ∧ e 7 = (.pointer (some ⟨c7, 0, none⟩)) ∧ e 15 = (.slice (some ⟨ub, uo, none⟩) (ordN D).length uc) ∧ e 16 = (.int .i64 ((ordN D).length : Int)) ∧ e 17 = (.int .i64 (k : Int)) ∧ e 33 = (Value.func (.func 96) #[] #[.pointer (some ⟨c6, 0, none⟩), .pointer (some ⟨c3, 0, none⟩), .pointer (some ⟨b1, 0, none⟩), .pointer (some ⟨c7, 0, none⟩)]) ∧ e 34 = (.tuple #[iv (depT (whD D) dp (T i)), iv (0 + (T i).flat.length)]) ∧ e 30 = (.tuple #[iv (depT (whD D) dp (T i)), iv (0 + (T i).flat.length)]) ∧ Ext wg w | 12 => e 1 = (.pointer (some ⟨b1, 0, none⟩)) ∧ e 3 = (.pointer (some ⟨c3, 0, none⟩)) ∧ e 5 = (.int .i64 (i : Int)) ∧ e 7 = (.pointer (some ⟨c7, 0, none⟩)) ∧ e 15 = (.slice (some ⟨ub, uo, none⟩) (ordN D).length uc) ∧ e 16 = (.int .i64 ((ordN D).length : Int)) ∧ e 17 = (.int .i64 (k : Int)) ∧ e 31 = (.slice (some ⟨tb, 0, none⟩) D.length tc) ∧ e 32 = (.int .i64 (i : Int)) ∧ e 33 = (Value.func (.func 96) #[] #[.pointer (some ⟨c6, 0, none⟩), .pointer (some ⟨c3, 0, none⟩), .pointer (some ⟨b1, 0, none⟩), .pointer (some ⟨c7, 0, none⟩)]) ∧ e 34 = (.tuple #[iv (depT (whD D) dp (T i)), iv (0 + (T i).flat.length)]) ∧ Ext wg w | 13 => e 1 = (.pointer (some ⟨b1, 0, none⟩)) ∧ e 3 = (.pointer (some ⟨c3, 0, none⟩)) ∧ e 5 = (.int .i64 (i : Int)) ∧ e 7 = (.pointer (some ⟨c7, 0, none⟩)) ∧ e 15 = (.slice (some ⟨ub, uo, none⟩) (ordN D).length uc) ∧ e 16 = (.int .i64 ((ordN D).length : Int)) ∧ e 17 = (.int .i64 (k : Int)) ∧ e 31 = (.slice (some ⟨tb, 0, none⟩) D.length tc) ∧ e 33 = (Value.func (.func 96) #[] #[.pointer (some ⟨c6, 0, none⟩), .pointer (some ⟨c3, 0, none⟩), .pointer (some ⟨b1, 0, none⟩), .pointer (some ⟨c7, 0, none⟩)]) ∧ e 34 = (.tuple #[iv (depT (whD D) dp (T i)), iv (0 + (T i).flat.length)]) ∧ e 30 = (.tuple #[iv (depT (whD D) dp (T i)), iv (0 + (T i).flat.length)]) ∧ Ext wg w | 14 => e 1 = (.pointer (some ⟨b1, 0, none⟩)) ∧ e 3 = (.pointer (some ⟨c3, 0, none⟩)) ∧ e 5 = (.int .i64 (i : Int)) ∧ e 7 = (.pointer (some ⟨c7, 0, none⟩)) ∧ e 15 = (.slice (some ⟨ub, uo, none⟩) (ordN D).length uc) ∧ e 16 = (.int .i64 ((ordN D).length : Int)) ∧ e 17 = (.int .i64 (k : Int)) ∧ e 32 = (.int .i64 (i : Int)) ∧ e 33 = (Value.func (.func 96) #[] #[.pointer (some ⟨c6, 0, none⟩), .pointer (some ⟨c3, 0, none⟩), .pointer (some ⟨b1, 0, none⟩), .pointer (some ⟨c7, 0, none⟩)]) ∧ e 34 = (.tuple #[iv (depT (whD D) dp (T i)), iv (0 + (T i).flat.length)]) ∧ e 30 = (.tuple #[iv (depT (whD D) dp (T i)), iv (0 + (T i).flat.length)]) ∧ Ext wg w | 15 => e 1 = (.pointer (some ⟨b1, 0, none⟩)) ∧ e 3 = (.pointer (some ⟨c3, 0, none⟩)) ∧ e 5 = (.int .i64 (i : Int)) ∧ e 7 = (.pointer (some ⟨c7, 0, none⟩)) ∧ e 15 = (.slice (some ⟨ub, uo, none⟩) (ordN D).length uc) ∧ e 16 = (.int .i64 ((ordN D).length : Int)) ∧ e 17 = (.int .i64 (k : Int)) ∧ e 33 = (Value.func (.func 96) #[] #[.pointer (some ⟨c6, 0, none⟩), .pointer (some ⟨c3, 0, none⟩), .pointer (some ⟨b1, 0, none⟩), .pointer (some ⟨c7, 0, none⟩)]) ∧ e 34 = (.tuple #[iv (depT (whD D) dp (T i)), iv (0 + (T i).flat.length)]) ∧ e 30 = (.tuple #[iv (depT (whD D) dp (T i)), iv (0 + (T i).flat.length)]) ∧ e 35 = (iv (depT (whD D) dp (T i))) ∧ Ext wg w | 16 => e 1 = (.pointer (some ⟨b1, 0, none⟩)) ∧ e 3 = (.pointer (some ⟨c3, 0, none⟩)) ∧ e 5 = (.int .i64 (i : Int)) ∧ e 7 = (.pointer (some ⟨c7, 0, none⟩)) ∧ e 15 = (.slice (some ⟨ub, uo, none⟩) (ordN D).length uc) ∧ e 16 = (.int .i64 ((ordN D).length : Int)) ∧ e 17 = (.int .i64 (k : Int)) ∧ e 33 = (Value.func (.func 96) #[] #[.pointer (some ⟨c6, 0, none⟩), .pointer (some ⟨c3, 0, none⟩), .pointer (some ⟨b1, 0, none⟩), .pointer (some ⟨c7, 0, none⟩)]) ∧ e 34 = (.tuple #[iv (depT (whD D) dp (T i)), iv (0 + (T i).flat.length)]) ∧ e 30 = (.tuple #[iv (depT (whD D) dp (T i)), iv (0 + (T i).flat.length)]) ∧ e 36 = (iv (0 + (T i).flat.length)) ∧ Ext wg w | 17 => e 1 = (.pointer (some ⟨b1, 0, none⟩)) ∧ e 3 = (.pointer (some ⟨c3, 0, none⟩)) ∧ e 5 = (.int .i64 (i : Int)) ∧ e 7 = (.pointer (some ⟨c7, 0, none⟩)) ∧ e 15 = (.slice (some ⟨ub, uo, none⟩) (ordN D).length uc) ∧ e 16 = (.int .i64 ((ordN D).length : Int)) ∧ e 17 = (.int .i64 (k : Int)) ∧ e 31 = (.slice (some ⟨tb, 0, none⟩) D.length tc) ∧ e 32 = (.int .i64 (i : Int)) ∧ e 33 = (Value.func (.func 96) #[] #[.pointer (some ⟨c6, 0, none⟩), .pointer (some ⟨c3, 0, none⟩), .pointer (some ⟨b1, 0, none⟩), .pointer (some ⟨c7, 0, none⟩)]) ∧ e 34 = (.tuple #[iv (depT (whD D) dp (T i)), iv (0 + (T i).flat.length)]) ∧ e 30 = (.tuple #[iv (depT (whD D) dp (T i)), iv (0 + (T i).flat.length)]) ∧ Ext wg w | 18 => e 1 = (.pointer (some ⟨b1, 0, none⟩)) ∧ e 3 = (.pointer (some ⟨c3, 0, none⟩)) ∧ e 5 = (.int .i64 (i : Int)) ∧ e 7 = (.pointer (some ⟨c7, 0, none⟩)) ∧ e 15 = (.slice (some ⟨ub, uo, none⟩) (ordN D).length uc) ∧ e 16 = (.int .i64 ((ordN D).length : Int)) ∧ e 17 = (.int .i64 (k : Int)) ∧ e 31 = (.slice (some ⟨tb, 0, none⟩) D.length tc) ∧ e 33 = (Value.func (.func 96) #[] #[.pointer (some ⟨c6, 0, none⟩), .pointer (some ⟨c3, 0, none⟩), .pointer (some ⟨b1, 0, none⟩), .pointer (some ⟨c7, 0, none⟩)]) ∧ e 34 = (.tuple #[iv (depT (whD D) dp (T i)), iv (0 + (T i).flat.length)]) ∧ e 30 = (.tuple #[iv (depT (whD D) dp (T i)), iv (0 + (T i).flat.length)]) ∧ e 35 = (iv (depT (whD D) dp (T i))) ∧ Ext wg w | 19 => e 1 = (.pointer (some ⟨b1, 0, none⟩)) ∧ e 3 = (.pointer (some ⟨c3, 0, none⟩)) ∧ e 5 = (.int .i64 (i : Int)) ∧ e 7 = (.pointer (some ⟨c7, 0, none⟩)) ∧ e 15 = (.slice (some ⟨ub, uo, none⟩) (ordN D).length uc) ∧ e 16 = (.int .i64 ((ordN D).length : Int)) ∧ e 17 = (.int .i64 (k : Int)) ∧ e 31 = (.slice (some ⟨tb, 0, none⟩) D.length tc) ∧ e 33 = (Value.func (.func 96) #[] #[.pointer (some ⟨c6, 0, none⟩), .pointer (some ⟨c3, 0, none⟩), .pointer (some ⟨b1, 0, none⟩), .pointer (some ⟨c7, 0, none⟩)]) ∧ e 34 = (.tuple #[iv (depT (whD D) dp (T i)), iv (0 + (T i).flat.length)]) ∧ e 30 = (.tuple #[iv (depT (whD D) dp (T i)), iv (0 + (T i).flat.length)]) ∧ e 36 = (iv (0 + (T i).flat.length)) ∧ Ext wg w | 20 => e 1 = (.pointer (some ⟨b1, 0, none⟩)) ∧ e 3 = (.pointer (some ⟨c3, 0, none⟩)) ∧ e 5 = (.int .i64 (i : Int)) ∧ e 7 = (.pointer (some ⟨c7, 0, none⟩)) ∧ e 15 = (.slice (some ⟨ub, uo, none⟩) (ordN D).length uc) ∧ e 16 = (.int .i64 ((ordN D).length : Int)) ∧ e 17 = (.int .i64 (k : Int)) ∧ e 32 = (.int .i64 (i : Int)) ∧ e 33 = (Value.func (.func 96) #[] #[.pointer (some ⟨c6, 0, none⟩), .pointer (some ⟨c3, 0, none⟩), .pointer (some ⟨b1, 0, none⟩), .pointer (some ⟨c7, 0, none⟩)]) ∧ e 34 = (.tuple #[iv (depT (whD D) dp (T i)), iv (0 + (T i).flat.length)]) ∧ e 30 = (.tuple #[iv (depT (whD D) dp (T i)), iv (0 + (T i).flat.length)]) ∧ e 35 = (iv (depT (whD D) dp (T i))) ∧ Ext wg w | 21 => e 1 = (.pointer (some ⟨b1, 0, none⟩)) ∧ e 3 = (.pointer (some ⟨c3, 0, none⟩)) ∧ e 5 = (.int .i64 (i : Int)) ∧ e 7 = (.pointer (some ⟨c7, 0, none⟩)) ∧ e 15 = (.slice (some ⟨ub, uo, none⟩) (ordN D).length uc) ∧ e 16 = (.int .i64 ((ordN D).length : Int)) ∧ e 17 = (.int .i64 (k : Int)) ∧ e 32 = (.int .i64 (i : Int)) ∧ e 33 = (Value.func (.func 96) #[] #[.pointer (some ⟨c6, 0, none⟩), .pointer (some ⟨c3, 0, none⟩), .pointer (some ⟨b1, 0, none⟩), .pointer (some ⟨c7, 0, none⟩)]) ∧ e 34 = (.tuple #[iv (depT (whD D) dp (T i)), iv (0 + (T i).flat.length)]) ∧ e 30 = (.tuple #[iv (depT (whD D) dp (T i)), iv (0 + (T i).flat.length)]) ∧ e 36 = (iv (0 + (T i).flat.length)) ∧ Ext wg w | 22 => e 1 = (.pointer (some ⟨b1, 0, none⟩)) ∧ e 3 = (.pointer (some ⟨c3, 0, none⟩)) ∧ e 5 = (.int .i64 (i : Int)) ∧ e 7 = (.pointer (some ⟨c7, 0, none⟩)) ∧ e 15 = (.slice (some ⟨ub, uo, none⟩) (ordN D).length uc) ∧ e 16 = (.int .i64 ((ordN D).length : Int)) ∧ e 17 = (.int .i64 (k : Int)) ∧ e 33 = (Value.func (.func 96) #[] #[.pointer (some ⟨c6, 0, none⟩), .pointer (some ⟨c3, 0, none⟩), .pointer (some ⟨b1, 0, none⟩), .pointer (some ⟨c7, 0, none⟩)]) ∧ e 34 = (.tuple #[iv (depT (whD D) dp (T i)), iv (0 + (T i).flat.length)]) ∧ e 30 = (.tuple #[iv (depT (whD D) dp (T i)), iv (0 + (T i).flat.length)]) ∧ e 35 = (iv (depT (whD D) dp (T i))) ∧ e 36 = (iv (0 + (T i).flat.length)) ∧ Ext wg w | 23 => e 1 = (.pointer (some ⟨b1, 0, none⟩)) ∧ e 3 = (.pointer (some ⟨c3, 0, none⟩)) ∧ e 5 = (.int .i64 (i : Int)) ∧ e 7 = (.pointer (some ⟨c7, 0, none⟩)) ∧ e 15 = (.slice (some ⟨ub, uo, none⟩) (ordN D).length uc) ∧ e 16 = (.int .i64 ((ordN D).length : Int)) ∧ e 17 = (.int .i64 (k : Int)) ∧ e 31 = (.slice (some ⟨tb, 0, none⟩) D.length tc) ∧ e 32 = (.int .i64 (i : Int)) ∧ e 33 = (Value.func (.func 96) #[] #[.pointer (some ⟨c6, 0, none⟩), .pointer (some ⟨c3, 0, none⟩), .pointer (some ⟨b1, 0, none⟩), .pointer (some ⟨c7, 0, none⟩)]) ∧ e 34 = (.tuple #[iv (depT (whD D) dp (T i)), iv (0 + (T i).flat.length)]) ∧ e 30 = (.tuple #[iv (depT (whD D) dp (T i)), iv (0 + (T i).flat.length)]) ∧ e 35 = (iv (depT (whD D) dp (T i))) ∧ Ext wg w | 24 => e 1 = (.pointer (some ⟨b1, 0, none⟩)) ∧ e 3 = (.pointer (some ⟨c3, 0, none⟩)) ∧ e 5 = (.int .i64 (i : Int)) ∧ e 7 = (.pointer (some ⟨c7, 0, none⟩)) ∧ e 15 = (.slice (some ⟨ub, uo, none⟩) (ordN D).length uc) ∧ e 16 = (.int .i64 ((ordN D).length : Int)) ∧ e 17 = (.int .i64 (k : Int)) ∧ e 31 = (.slice (some ⟨tb, 0, none⟩) D.length tc) ∧ e 32 = (.int .i64 (i : Int)) ∧ e 33 = (Value.func (.func 96) #[] #[.pointer (some ⟨c6, 0, none⟩), .pointer (some ⟨c3, 0, none⟩), .pointer (some ⟨b1, 0, none⟩), .pointer (some ⟨c7, 0, none⟩)]) ∧ e 34 = (.tuple #[iv (depT (whD D) dp (T i)), iv (0 + (T i).flat.length)]) ∧ e 30 = (.tuple #[iv (depT (whD D) dp (T i)), iv (0 + (T i).flat.length)]) ∧ e 36 = (iv (0 + (T i).flat.length)) ∧ Ext wg w | 25 => e 1 = (.pointer (some ⟨b1, 0, none⟩)) ∧ e 3 = (.pointer (some ⟨c3, 0, none⟩)) ∧ e 5 = (.int .i64 (i : Int)) ∧ e 7 = (.pointer (some ⟨c7, 0, none⟩)) ∧ e 15 = (.slice (some ⟨ub, uo, none⟩) (ordN D).length uc) ∧ e 16 = (.int .i64 ((ordN D).length : Int)) ∧ e 17 = (.int .i64 (k : Int)) ∧ e 31 = (.slice (some ⟨tb, 0, none⟩) D.length tc) ∧ e 33 = (Value.func (.func 96) #[] #[.pointer (some ⟨c6, 0, none⟩), .pointer (some ⟨c3, 0, none⟩), .pointer (some ⟨b1, 0, none⟩), .pointer (some ⟨c7, 0, none⟩)]) ∧ e 34 = (.tuple #[iv (depT (whD D) dp (T i)), iv (0 + (T i).flat.length)]) ∧ e 30 = (.tuple #[iv (depT (whD D) dp (T i)), iv (0 + (T i).flat.length)]) ∧ e 35 = (iv (depT (whD D) dp (T i))) ∧ e 36 = (iv (0 + (T i).flat.length)) ∧ Ext wg w | 26 => e 1 = (.pointer (some ⟨b1, 0, none⟩)) ∧ e 3 = (.pointer (some ⟨c3, 0, none⟩)) ∧ e 5 = (.int .i64 (i : Int)) ∧ e 7 = (.pointer (some ⟨c7, 0, none⟩)) ∧ e 15 = (.slice (some ⟨ub, uo, none⟩) (ordN D).length uc) ∧ e 16 = (.int .i64 ((ordN D).length : Int)) ∧ e 17 = (.int .i64 (k : Int)) ∧ e 32 = (.int .i64 (i : Int)) ∧ e 33 = (Value.func (.func 96) #[] #[.pointer (some ⟨c6, 0, none⟩), .pointer (some ⟨c3, 0, none⟩), .pointer (some ⟨b1, 0, none⟩), .pointer (some ⟨c7, 0, none⟩)]) ∧ e 34 = (.tuple #[iv (depT (whD D) dp (T i)), iv (0 + (T i).flat.length)]) ∧ e 30 = (.tuple #[iv (depT (whD D) dp (T i)), iv (0 + (T i).flat.length)]) ∧ e 35 = (iv (depT (whD D) dp (T i))) ∧ e 36 = (iv (0 + (T i).flat.length)) ∧ Ext wg w | 27 => e 1 = (.pointer (some ⟨b1, 0, none⟩)) ∧ e 3 = (.pointer (some ⟨c3, 0, none⟩)) ∧ e 5 = (.int .i64 (i : Int)) ∧ e 7 = (.pointer (some ⟨c7, 0, none⟩)) ∧ e 15 = (.slice (some ⟨ub, uo, none⟩) (ordN D).length uc) ∧ e 16 = (.int .i64 ((ordN D).length : Int)) ∧ e 17 = (.int .i64 (k : Int)) ∧ e 31 = (.slice (some ⟨tb, 0, none⟩) D.length tc) ∧ e 32 = (.int .i64 (i : Int)) ∧ e 33 = (Value.func (.func 96) #[] #[.pointer (some ⟨c6, 0, none⟩), .pointer (some ⟨c3, 0, none⟩), .pointer (some ⟨b1, 0, none⟩), .pointer (some ⟨c7, 0, none⟩)]) ∧ e 34 = (.tuple #[iv (depT (whD D) dp (T i)), iv (0 + (T i).flat.length)]) ∧ e 30 = (.tuple #[iv (depT (whD D) dp (T i)), iv (0 + (T i).flat.length)]) ∧ e 35 = (iv (depT (whD D) dp (T i))) ∧ e 36 = (iv (0 + (T i).flat.length)) ∧ Ext wg w | 28 => e 1 = (.pointer (some ⟨b1, 0, none⟩)) ∧ e 3 = (.pointer (some ⟨c3, 0, none⟩)) ∧ e 5 = (.int .i64 (i : Int)) ∧ e 7 = (.pointer (some ⟨c7, 0, none⟩)) ∧ e 15 = (.slice (some ⟨ub, uo, none⟩) (ordN D).length uc) ∧ e 16 = (.int .i64 ((ordN D).length : Int)) ∧ e 17 = (.int .i64 (k : Int)) ∧ e 31 = (.slice (some ⟨tb, 0, none⟩) D.length tc) ∧ e 32 = (.int .i64 (i : Int)) ∧ e 33 = (Value.func (.func 96) #[] #[.pointer (some ⟨c6, 0, none⟩), .pointer (some ⟨c3, 0, none⟩), .pointer (some ⟨b1, 0, none⟩), .pointer (some ⟨c7, 0, none⟩)]) ∧ e 34 = (.tuple #[iv (depT (whD D) dp (T i)), iv (0 + (T i).flat.length)]) ∧ e 30 = (.tuple #[iv (depT (whD D) dp (T i)), iv (0 + (T i).flat.length)]) ∧ e 35 = (iv (depT (whD D) dp (T i))) ∧ e 37 = (.pointer (some ⟨tb, 0 + i * 1, none⟩)) ∧ Ext wg w | 29 => e 1 = (.pointer (some ⟨b1, 0, none⟩)) ∧ e 3 = (.pointer (some ⟨c3, 0, none⟩)) ∧ e 5 = (.int .i64 (i : Int)) ∧ e 7 = (.pointer (some ⟨c7, 0, none⟩)) ∧ e 15 = (.slice (some ⟨ub, uo, none⟩) (ordN D).length uc) ∧ e 16 = (.int .i64 ((ordN D).length : Int)) ∧ e 17 = (.int .i64 (k : Int)) ∧ e 31 = (.slice (some ⟨tb, 0, none⟩) D.length tc) ∧ e 32 = (.int .i64 (i : Int)) ∧ e 33 = (Value.func (.func 96) #[] #[.pointer (some ⟨c6, 0, none⟩), .pointer (some ⟨c3, 0, none⟩), .pointer (some ⟨b1, 0, none⟩), .pointer (some ⟨c7, 0, none⟩)]) ∧ e 34 = (.tuple #[iv (depT (whD D) dp (T i)), iv (0 + (T i).flat.length)]) ∧ e 30 = (.tuple #[iv (depT (whD D) dp (T i)), iv (0 + (T i).flat.length)]) ∧ e 35 = (iv (depT (whD D) dp (T i))) ∧ e 36 = (iv (0 + (T i).flat.length)) ∧ e 37 = (.pointer (some ⟨tb, 0 + i * 1, none⟩)) ∧ Ext wg w | 30 => e 1 = (.pointer (some ⟨b1, 0, none⟩)) ∧ e 3 = (.pointer (some ⟨c3, 0, none⟩)) ∧ e 5 = (.int .i64 (i : Int)) ∧ e 7 = (.pointer (some ⟨c7, 0, none⟩)) ∧ e 15 = (.slice (some ⟨ub, uo, none⟩) (ordN D).length uc) ∧ e 16 = (.int .i64 ((ordN D).length : Int)) ∧ e 17 = (.int .i64 (k : Int)) ∧ e 31 = (.slice (some ⟨tb, 0, none⟩) D.length tc) ∧ e 32 = (.int .i64 (i : Int)) ∧ e 33 = (Value.func (.func 96) #[] #[.pointer (some ⟨c6, 0, none⟩), .pointer (some ⟨c3, 0, none⟩), .pointer (some ⟨b1, 0, none⟩), .pointer (some ⟨c7, 0, none⟩)]) ∧ e 34 = (.tuple #[iv (depT (whD D) dp (T i)), iv (0 + (T i).flat.length)]) ∧ e 30 = (.tuple #[iv (depT (whD D) dp (T i)), iv (0 + (T i).flat.length)]) ∧ e 35 = (iv (depT (whD D) dp (T i))) ∧ e 37 = (.pointer (some ⟨tb, 0 + i * 1, none⟩)) ∧ w.ownsRow B2 3 1 v15 (ordN D).length ((ordN D).map iv) ∧ w.ownsRow BB 3 1 ov D.length (dps D.length (updN dp i (depT (whD D) dp (T i)))) ∧ w.heap[b1]? = some (.cells #[.pointer (some ⟨pb, 0, none⟩)] 115 (0, 0)) ∧ w.heap[c3]? = some (.cells #[ov] 79 (0, 0)) ∧ Bk w pb mb D dv V ∧ Ext w0 w | 31 => e 1 = (.pointer (some ⟨b1, 0, none⟩)) ∧ e 3 = (.pointer (some ⟨c3, 0, none⟩)) ∧ e 5 = (.int .i64 (i : Int)) ∧ e 7 = (.pointer (some ⟨c7, 0, none⟩)) ∧ e 15 = (.slice (some ⟨ub, uo, none⟩) (ordN D).length uc) ∧ e 16 = (.int .i64 ((ordN D).length : Int)) ∧ e 17 = (.int .i64 (k : Int)) ∧ e 31 = (.slice (some ⟨tb, 0, none⟩) D.length tc) ∧ e 32 = (.int .i64 (i : Int)) ∧ e 33 = (Value.func (.func 96) #[] #[.pointer (some ⟨c6, 0, none⟩), .pointer (some ⟨c3, 0, none⟩), .pointer (some ⟨b1, 0, none⟩), .pointer (some ⟨c7, 0, none⟩)]) ∧ e 34 = (.tuple #[iv (depT (whD D) dp (T i)), iv (0 + (T i).flat.length)]) ∧ e 30 = (.tuple #[iv (depT (whD D) dp (T i)), iv (0 + (T i).flat.length)]) ∧ e 35 = (iv (depT (whD D) dp (T i))) ∧ e 36 = (iv (0 + (T i).flat.length)) ∧ e 37 = (.pointer (some ⟨tb, 0 + i * 1, none⟩)) ∧ w.ownsRow B2 3 1 v15 (ordN D).length ((ordN D).map iv) ∧ w.ownsRow BB 3 1 ov D.length (dps D.length (updN dp i (depT (whD D) dp (T i)))) ∧ w.heap[b1]? = some (.cells #[.pointer (some ⟨pb, 0, none⟩)] 115 (0, 0)) ∧ w.heap[c3]? = some (.cells #[ov] 79 (0, 0)) ∧ Bk w pb mb D dv V ∧ Ext w0 w | _ => False) ([([false, false, false, false, false, false, false, false, false], [(0, 1), (1, 2), (2, 3)]), ([true, false, false, false, false, false, false, false, false], [(1, 4), (2, 5)]), ([false, true, false, false, false, false, false, false, false], [(0, 4), (2, 6)]), ([false, false, true, false, false, false, false, false, false], [(0, 5), (1, 6), (3, 7)]), ([true, true, false, false, false, false, false, false, false], [(2, 8)]), ([true, false, true, false, false, false, false, false, false], [(1, 8), (3, 9)]), ([false, true, true, false, false, false, false, false, false], [(0, 8), (3, 10)]), ([false, false, true, true, false, false, false, false, false], [(0, 9), (1, 10), (4, 11)]), ([true, true, true, false, false, false, false, false, false], [(3, 12)]), ([true, false, true, true, false, false, false, false, false], [(1, 12), (4, 13)]), ([false, true, true, true, false, false, false, false, false], [(0, 12), (4, 14)]), ([false, false, true, true, true, false, false, false, false], [(0, 13), (1, 14), (5, 15), (6, 16)]), ([true, true, true, true, false, false, false, false, false], [(4, 17)]), ([true, false, true, true, true, false, false, false, false], [(1, 17), (5, 18), (6, 19)]), ([false, true, true, true, true, false, false, false, false], [(0, 17), (5, 20), (6, 21)]), ([false, false, true, true, true, true, false, false, false], [(0, 18), (1, 20), (6, 22)]), ([false, false, true, true, true, false, true, false, false], [(0, 19), (1, 21), (5, 22)]), ([true, true, true, true, true, false, false, false, false], [(5, 23), (6, 24)]), ([true, false, true, true, true, true, false, false, false], [(1, 23), (6, 25)]), ([true, false, true, true, true, false, true, false, false], [(1, 24), (5, 25)]), ([false, true, true, true, true, true, false, false, false], [(0, 23), (6, 26)]), ([false, true, true, true, true, false, true, false, false], [(0, 24), (5, 26)]), ([false, false, true, true, true, true, true, false, false], [(0, 25), (1, 26)]), ([true, true, true, true, true, true, false, false, false], [(6, 27), (7, 28)]), ([true, true, true, true, true, false, true, false, false], [(5, 27)]), ([true, false, true, true, true, true, true, false, false], [(1, 27)]), ([false, true, true, true, true, true, true, false, false], [(0, 27)]), ([true, true, true, true, true, true, true, false, false], [(7, 29)]), ([true, true, true, true, true, true, false, true, false], [(6, 29), (8, 30)]), ([true, true, true, true, true, true, true, true, false], [(8, 31)]), ([true, true, true, true, true, true, false, true, true], [(6, 31)]), ([true, true, true, true, true, true, true, true, true], [])]) rfl (by kernel_rfl) rfl ⟨h1, h3, rfl, rfl, h15, h16, h17, Only.drew wg⟩ ?_
    refine ⟨?_, ?_, ?_, ?_, ?_, ?_, ?_, ?_, ?_, ?_, ?_, ?_, ?_, ?_, ?_, ?_, ?_, ?_, ?_, ?_, ?_, ?_, ?_, ?_, ?_, ?_, ?_, ?_, ?_, ?_, ?_, ?_, trivial⟩
    · -- state 0 of region 8
      rintro e w ⟨h1, h3, h5, h7, h15, h16, h17, hR⟩
      refine ⟨?_, ?_, ?_, trivial⟩
      · skip
        refine WO.c rfl rfl (o_ld TI79 rfl h3 (cell_of (hR.blk hC3s (fun h => h)) rfl) ?_)
        exact ⟨h1, h3, h5, h7, h15, h16, h17, rfl, hR⟩
      · skip
        refine WO.c rfl rfl (o_mvh h5 ?_)
        exact ⟨h1, h3, h5, h7, h15, h16, h17, rfl, hR⟩
      skip
      refine WO.c rfl rfl (o_ld TI155 rfl h7 (cell_of (hR.blk hC7 (fun h => h)) rfl) ?_)
      exact ⟨h1, h3, h5, h7, h15, h16, h17, rfl, hR⟩
    · -- state 1 of region 8
      rintro e w ⟨h1, h3, h5, h7, h15, h16, h17, h31, hR⟩
      refine ⟨?_, ?_, trivial⟩
      · skip
        refine WO.c rfl rfl (o_mvh h5 ?_)
        exact ⟨h1, h3, h5, h7, h15, h16, h17, h31, rfl, hR⟩
      skip
      refine WO.c rfl rfl (o_ld TI155 rfl h7 (cell_of (hR.blk hC7 (fun h => h)) rfl) ?_)
      exact ⟨h1, h3, h5, h7, h15, h16, h17, h31, rfl, hR⟩
    · -- state 2 of region 8
      rintro e w ⟨h1, h3, h5, h7, h15, h16, h17, h32, hR⟩
      refine ⟨?_, ?_, trivial⟩
      · skip
        refine WO.c rfl rfl (o_ld TI79 rfl h3 (cell_of (hR.blk hC3s (fun h => h)) rfl) ?_)
        exact ⟨h1, h3, h5, h7, h15, h16, h17, rfl, h32, hR⟩
      skip
      refine WO.c rfl rfl (o_ld TI155 rfl h7 (cell_of (hR.blk hC7 (fun h => h)) rfl) ?_)
      exact ⟨h1, h3, h5, h7, h15, h16, h17, h32, rfl, hR⟩
    · -- state 3 of region 8
      rintro e w ⟨h1, h3, h5, h7, h15, h16, h17, h33, hR⟩
      refine ⟨?_, ?_, ?_, trivial⟩
      · skip
        refine WO.c rfl rfl (o_ld TI79 rfl h3 (cell_of (hR.blk hC3s (fun h => h)) rfl) ?_)
        exact ⟨h1, h3, h5, h7, h15, h16, h17, rfl, h33, hR⟩
      · skip
        refine WO.c rfl rfl (o_mvh h5 ?_)
        exact ⟨h1, h3, h5, h7, h15, h16, h17, rfl, h33, hR⟩
      skip
      refine WO.c rfl rfl (o_callC h33 Try.call96 (lc (show _ = Value.int .i64 ((0 : Nat) : Int) from rfl) ln) ((hcall _ hR).mono ?_))
      rintro v34 w34 ⟨rfl, hx34⟩
      replace hR := hR.tr hx34
      exact ⟨h1, h3, h5, h7, h15, h16, h17, h33, rfl, hR⟩
    · -- state 4 of region 8
      rintro e w ⟨h1, h3, h5, h7, h15, h16, h17, h31, h32, hR⟩
      refine ⟨?_, trivial⟩
      skip
      refine WO.c rfl rfl (o_ld TI155 rfl h7 (cell_of (hR.blk hC7 (fun h => h)) rfl) ?_)
      exact ⟨h1, h3, h5, h7, h15, h16, h17, h31, h32, rfl, hR⟩
    · -- state 5 of region 8
      rintro e w ⟨h1, h3, h5, h7, h15, h16, h17, h31, h33, hR⟩
      refine ⟨?_, ?_, trivial⟩
      · skip
        refine WO.c rfl rfl (o_mvh h5 ?_)
        exact ⟨h1, h3, h5, h7, h15, h16, h17, h31, rfl, h33, hR⟩
      skip
      refine WO.c rfl rfl (o_callC h33 Try.call96 (lc (show _ = Value.int .i64 ((0 : Nat) : Int) from rfl) ln) ((hcall _ hR).mono ?_))
      rintro v34 w34 ⟨rfl, hx34⟩
      replace hR := hR.tr hx34
      exact ⟨h1, h3, h5, h7, h15, h16, h17, h31, h33, rfl, hR⟩
    · -- state 6 of region 8
      rintro e w ⟨h1, h3, h5, h7, h15, h16, h17, h32, h33, hR⟩
      refine ⟨?_, ?_, trivial⟩
      · skip
        refine WO.c rfl rfl (o_ld TI79 rfl h3 (cell_of (hR.blk hC3s (fun h => h)) rfl) ?_)
        exact ⟨h1, h3, h5, h7, h15, h16, h17, rfl, h32, h33, hR⟩
      skip
      refine WO.c rfl rfl (o_callC h33 Try.call96 (lc (show _ = Value.int .i64 ((0 : Nat) : Int) from rfl) ln) ((hcall _ hR).mono ?_))
      rintro v34 w34 ⟨rfl, hx34⟩
      replace hR := hR.tr hx34
      exact ⟨h1, h3, h5, h7, h15, h16, h17, h32, h33, rfl, hR⟩
    · -- state 7 of region 8
      rintro e w ⟨h1, h3, h5, h7, h15, h16, h17, h33, h34, hR⟩
      refine ⟨?_, ?_, ?_, trivial⟩
      · skip
        refine WO.c rfl rfl (o_ld TI79 rfl h3 (cell_of (hR.blk hC3s (fun h => h)) rfl) ?_)
        exact ⟨h1, h3, h5, h7, h15, h16, h17, rfl, h33, h34, hR⟩
      · skip
        refine WO.c rfl rfl (o_mvh h5 ?_)
        exact ⟨h1, h3, h5, h7, h15, h16, h17, rfl, h33, h34, hR⟩
      skip
      refine WO.c rfl rfl (o_mvh h34 ?_)
      exact ⟨h1, h3, h5, h7, h15, h16, h17, h33, h34, rfl, hR⟩
    · -- state 8 of region 8
      rintro e w ⟨h1, h3, h5, h7, h15, h16, h17, h31, h32, h33, hR⟩
      refine ⟨?_, trivial⟩
      skip
      refine WO.c rfl rfl (o_callC h33 Try.call96 (lc (show _ = Value.int .i64 ((0 : Nat) : Int) from rfl) ln) ((hcall _ hR).mono ?_))
      rintro v34 w34 ⟨rfl, hx34⟩
      replace hR := hR.tr hx34
      exact ⟨h1, h3, h5, h7, h15, h16, h17, h31, h32, h33, rfl, hR⟩
    · -- state 9 of region 8
      rintro e w ⟨h1, h3, h5, h7, h15, h16, h17, h31, h33, h34, hR⟩
      refine ⟨?_, ?_, trivial⟩
      · skip
        refine WO.c rfl rfl (o_mvh h5 ?_)
        exact ⟨h1, h3, h5, h7, h15, h16, h17, h31, rfl, h33, h34, hR⟩
      skip
      refine WO.c rfl rfl (o_mvh h34 ?_)
      exact ⟨h1, h3, h5, h7, h15, h16, h17, h31, h33, h34, rfl, hR⟩
    · -- state 10 of region 8
      rintro e w ⟨h1, h3, h5, h7, h15, h16, h17, h32, h33, h34, hR⟩
      refine ⟨?_, ?_, trivial⟩
      · skip
        refine WO.c rfl rfl (o_ld TI79 rfl h3 (cell_of (hR.blk hC3s (fun h => h)) rfl) ?_)
        exact ⟨h1, h3, h5, h7, h15, h16, h17, rfl, h32, h33, h34, hR⟩
      skip
      refine WO.c rfl rfl (o_mvh h34 ?_)
      exact ⟨h1, h3, h5, h7, h15, h16, h17, h32, h33, h34, rfl, hR⟩
    · -- state 11 of region 8
      rintro e w ⟨h1, h3, h5, h7, h15, h16, h17, h33, h34, h30, hR⟩
      refine ⟨?_, ?_, ?_, ?_, trivial⟩
      · skip
        refine WO.c rfl rfl (o_ld TI79 rfl h3 (cell_of (hR.blk hC3s (fun h => h)) rfl) ?_)
        exact ⟨h1, h3, h5, h7, h15, h16, h17, rfl, h33, h34, h30, hR⟩
      · skip
        refine WO.c rfl rfl (o_mvh h5 ?_)
        exact ⟨h1, h3, h5, h7, h15, h16, h17, rfl, h33, h34, h30, hR⟩
      · skip
        refine WO.c rfl rfl (o_ext h30 rfl ?_)
        exact ⟨h1, h3, h5, h7, h15, h16, h17, h33, h34, h30, rfl, hR⟩
      skip
      refine WO.c rfl rfl (o_ext h30 rfl ?_)
      exact ⟨h1, h3, h5, h7, h15, h16, h17, h33, h34, h30, rfl, hR⟩
    · -- state 12 of region 8
      rintro e w ⟨h1, h3, h5, h7, h15, h16, h17, h31, h32, h33, h34, hR⟩
      refine ⟨?_, trivial⟩
      skip
      refine WO.c rfl rfl (o_mvh h34 ?_)
      exact ⟨h1, h3, h5, h7, h15, h16, h17, h31, h32, h33, h34, rfl, hR⟩
    · -- state 13 of region 8
      rintro e w ⟨h1, h3, h5, h7, h15, h16, h17, h31, h33, h34, h30, hR⟩
      refine ⟨?_, ?_, ?_, trivial⟩
      · skip
        refine WO.c rfl rfl (o_mvh h5 ?_)
        exact ⟨h1, h3, h5, h7, h15, h16, h17, h31, rfl, h33, h34, h30, hR⟩
      · skip
        refine WO.c rfl rfl (o_ext h30 rfl ?_)
        exact ⟨h1, h3, h5, h7, h15, h16, h17, h31, h33, h34, h30, rfl, hR⟩
      skip
      refine WO.c rfl rfl (o_ext h30 rfl ?_)
      exact ⟨h1, h3, h5, h7, h15, h16, h17, h31, h33, h34, h30, rfl, hR⟩
    · -- state 14 of region 8
      rintro e w ⟨h1, h3, h5, h7, h15, h16, h17, h32, h33, h34, h30, hR⟩
      refine ⟨?_, ?_, ?_, trivial⟩
      · skip
        refine WO.c rfl rfl (o_ld TI79 rfl h3 (cell_of (hR.blk hC3s (fun h => h)) rfl) ?_)
        exact ⟨h1, h3, h5, h7, h15, h16, h17, rfl, h32, h33, h34, h30, hR⟩
      · skip
        refine WO.c rfl rfl (o_ext h30 rfl ?_)
        exact ⟨h1, h3, h5, h7, h15, h16, h17, h32, h33, h34, h30, rfl, hR⟩
      skip
      refine WO.c rfl rfl (o_ext h30 rfl ?_)
      exact ⟨h1, h3, h5, h7, h15, h16, h17, h32, h33, h34, h30, rfl, hR⟩
    · -- state 15 of region 8
      rintro e w ⟨h1, h3, h5, h7, h15, h16, h17, h33, h34, h30, h35, hR⟩
      refine ⟨?_, ?_, ?_, trivial⟩
      · skip
        refine WO.c rfl rfl (o_ld TI79 rfl h3 (cell_of (hR.blk hC3s (fun h => h)) rfl) ?_)
        exact ⟨h1, h3, h5, h7, h15, h16, h17, rfl, h33, h34, h30, h35, hR⟩
      · skip
        refine WO.c rfl rfl (o_mvh h5 ?_)
        exact ⟨h1, h3, h5, h7, h15, h16, h17, rfl, h33, h34, h30, h35, hR⟩
      skip
      refine WO.c rfl rfl (o_ext h30 rfl ?_)
      exact ⟨h1, h3, h5, h7, h15, h16, h17, h33, h34, h30, h35, rfl, hR⟩
    · -- state 16 of region 8
      rintro e w ⟨h1, h3, h5, h7, h15, h16, h17, h33, h34, h30, h36, hR⟩
      refine ⟨?_, ?_, ?_, trivial⟩
      · skip
        refine WO.c rfl rfl (o_ld TI79 rfl h3 (cell_of (hR.blk hC3s (fun h => h)) rfl) ?_)
        exact ⟨h1, h3, h5, h7, h15, h16, h17, rfl, h33, h34, h30, h36, hR⟩
      · skip
        refine WO.c rfl rfl (o_mvh h5 ?_)
        exact ⟨h1, h3, h5, h7, h15, h16, h17, rfl, h33, h34, h30, h36, hR⟩
      skip
      refine WO.c rfl rfl (o_ext h30 rfl ?_)
      exact ⟨h1, h3, h5, h7, h15, h16, h17, h33, h34, h30, rfl, h36, hR⟩
    · -- state 17 of region 8
      rintro e w ⟨h1, h3, h5, h7, h15, h16, h17, h31, h32, h33, h34, h30, hR⟩
      refine ⟨?_, ?_, trivial⟩
      · skip
        refine WO.c rfl rfl (o_ext h30 rfl ?_)
        exact ⟨h1, h3, h5, h7, h15, h16, h17, h31, h32, h33, h34, h30, rfl, hR⟩
      skip
      refine WO.c rfl rfl (o_ext h30 rfl ?_)
      exact ⟨h1, h3, h5, h7, h15, h16, h17, h31, h32, h33, h34, h30, rfl, hR⟩
    · -- state 18 of region 8
      rintro e w ⟨h1, h3, h5, h7, h15, h16, h17, h31, h33, h34, h30, h35, hR⟩
      refine ⟨?_, ?_, trivial⟩
      · skip
        refine WO.c rfl rfl (o_mvh h5 ?_)
        exact ⟨h1, h3, h5, h7, h15, h16, h17, h31, rfl, h33, h34, h30, h35, hR⟩
      skip
      refine WO.c rfl rfl (o_ext h30 rfl ?_)
      exact ⟨h1, h3, h5, h7, h15, h16, h17, h31, h33, h34, h30, h35, rfl, hR⟩
    · -- state 19 of region 8
      rintro e w ⟨h1, h3, h5, h7, h15, h16, h17, h31, h33, h34, h30, h36, hR⟩
      refine ⟨?_, ?_, trivial⟩
      · skip
        refine WO.c rfl rfl (o_mvh h5 ?_)
        exact ⟨h1, h3, h5, h7, h15, h16, h17, h31, rfl, h33, h34, h30, h36, hR⟩
      skip
      refine WO.c rfl rfl (o_ext h30 rfl ?_)
      exact ⟨h1, h3, h5, h7, h15, h16, h17, h31, h33, h34, h30, rfl, h36, hR⟩
    · -- state 20 of region 8
      rintro e w ⟨h1, h3, h5, h7, h15, h16, h17, h32, h33, h34, h30, h35, hR⟩
      refine ⟨?_, ?_, trivial⟩
      · skip
        refine WO.c rfl rfl (o_ld TI79 rfl h3 (cell_of (hR.blk hC3s (fun h => h)) rfl) ?_)
        exact ⟨h1, h3, h5, h7, h15, h16, h17, rfl, h32, h33, h34, h30, h35, hR⟩
      skip
      refine WO.c rfl rfl (o_ext h30 rfl ?_)
      exact ⟨h1, h3, h5, h7, h15, h16, h17, h32, h33, h34, h30, h35, rfl, hR⟩
    · -- state 21 of region 8
      rintro e w ⟨h1, h3, h5, h7, h15, h16, h17, h32, h33, h34, h30, h36, hR⟩
      refine ⟨?_, ?_, trivial⟩
      · skip
        refine WO.c rfl rfl (o_ld TI79 rfl h3 (cell_of (hR.blk hC3s (fun h => h)) rfl) ?_)
        exact ⟨h1, h3, h5, h7, h15, h16, h17, rfl, h32, h33, h34, h30, h36, hR⟩
      skip
      refine WO.c rfl rfl (o_ext h30 rfl ?_)
      exact ⟨h1, h3, h5, h7, h15, h16, h17, h32, h33, h34, h30, rfl, h36, hR⟩
    · -- state 22 of region 8
      rintro e w ⟨h1, h3, h5, h7, h15, h16, h17, h33, h34, h30, h35, h36, hR⟩
      refine ⟨?_, ?_, trivial⟩
      · skip
        refine WO.c rfl rfl (o_ld TI79 rfl h3 (cell_of (hR.blk hC3s (fun h => h)) rfl) ?_)
        exact ⟨h1, h3, h5, h7, h15, h16, h17, rfl, h33, h34, h30, h35, h36, hR⟩
      skip
      refine WO.c rfl rfl (o_mvh h5 ?_)
      exact ⟨h1, h3, h5, h7, h15, h16, h17, rfl, h33, h34, h30, h35, h36, hR⟩
    · -- state 23 of region 8
      rintro e w ⟨h1, h3, h5, h7, h15, h16, h17, h31, h32, h33, h34, h30, h35, hR⟩
      refine ⟨?_, ?_, trivial⟩
      · skip
        refine WO.c rfl rfl (o_ext h30 rfl ?_)
        exact ⟨h1, h3, h5, h7, h15, h16, h17, h31, h32, h33, h34, h30, h35, rfl, hR⟩
      skip
      refine WO.c rfl rfl (o_ixB (i := i) TI79 TI3 h31 h32 (by omega) ?_)
      exact ⟨h1, h3, h5, h7, h15, h16, h17, h31, h32, h33, h34, h30, h35, rfl, hR⟩
    · -- state 24 of region 8
      rintro e w ⟨h1, h3, h5, h7, h15, h16, h17, h31, h32, h33, h34, h30, h36, hR⟩
      refine ⟨?_, trivial⟩
      skip
      refine WO.c rfl rfl (o_ext h30 rfl ?_)
      exact ⟨h1, h3, h5, h7, h15, h16, h17, h31, h32, h33, h34, h30, rfl, h36, hR⟩
    · -- state 25 of region 8
      rintro e w ⟨h1, h3, h5, h7, h15, h16, h17, h31, h33, h34, h30, h35, h36, hR⟩
      refine ⟨?_, trivial⟩
      skip
      refine WO.c rfl rfl (o_mvh h5 ?_)
      exact ⟨h1, h3, h5, h7, h15, h16, h17, h31, rfl, h33, h34, h30, h35, h36, hR⟩
    · -- state 26 of region 8
      rintro e w ⟨h1, h3, h5, h7, h15, h16, h17, h32, h33, h34, h30, h35, h36, hR⟩
      refine ⟨?_, trivial⟩
      skip
      refine WO.c rfl rfl (o_ld TI79 rfl h3 (cell_of (hR.blk hC3s (fun h => h)) rfl) ?_)
      exact ⟨h1, h3, h5, h7, h15, h16, h17, rfl, h32, h33, h34, h30, h35, h36, hR⟩
    · -- state 27 of region 8
      rintro e w ⟨h1, h3, h5, h7, h15, h16, h17, h31, h32, h33, h34, h30, h35, h36, hR⟩
      refine ⟨?_, trivial⟩
      skip
      refine WO.c rfl rfl (o_ixB (i := i) TI79 TI3 h31 h32 (by omega) ?_)
      exact ⟨h1, h3, h5, h7, h15, h16, h17, h31, h32, h33, h34, h30, h35, h36, rfl, hR⟩
    · -- state 28 of region 8
      rintro e w ⟨h1, h3, h5, h7, h15, h16, h17, h31, h32, h33, h34, h30, h35, h37, hR⟩
      refine ⟨?_, ?_, trivial⟩
      · skip
        refine WO.c rfl rfl (o_ext h30 rfl ?_)
        exact ⟨h1, h3, h5, h7, h15, h16, h17, h31, h32, h33, h34, h30, h35, rfl, h37, hR⟩
      skip
      refine WO.u rfl (o_stRj TI3 h37 (show 0 + i * 1 = i by omega) h35 rfl (htv ▸ own_ext hrv hR) (show Value.ownBlock (Value.slice (some ⟨tb, 0, none⟩) D.length tc) = some tb from rfl) (by omega) ?_)
      intro w49 hrt49 ho49 hs49
      have hlo : ∀ b, ov.ownBlock = some b → BB ≤ b := fun b hb => (hrv.lt b hb).1
      rw [← htv] at hrt49 ho49
      replace hrv := own_ext hrv hR
      replace hro := own_ext hro hR
      replace hC3 := ho49.blk (hR.blk hC3 (fun h => h)) (fun hb => own_off hrv (hR.blk hC3 (fun h => h)) (by decide) hb)
      replace hC1 := ho49.blk (hR.blk hC1 (fun h => h)) (fun hb => own_off hrv (hR.blk hC1 (fun h => h)) (by decide) hb)
      replace hro := own_only hro ho49 (fun b hb he => by have h1 := hvb b he; have h2 := (hro.lt b hb).1; omega)
      replace hx := (hx.tr hR).trans' ho49 (fun _ h => h) (fun b hb he => by have := hlo b he; omega)
      rw [dps_set] at hrt49
      have hE := And.intro hro (And.intro hrt49 (And.intro hC1 (And.intro hC3 (And.intro (hB00.ext hx) hx))))
      exact ⟨h1, h3, h5, h7, h15, h16, h17, h31, h32, h33, h34, h30, h35, h37, hE⟩
    · -- state 29 of region 8
      rintro e w ⟨h1, h3, h5, h7, h15, h16, h17, h31, h32, h33, h34, h30, h35, h36, h37, hR⟩
      refine ⟨?_, trivial⟩
      skip
      refine WO.u rfl (o_stRj TI3 h37 (show 0 + i * 1 = i by omega) h35 rfl (htv ▸ own_ext hrv hR) (show Value.ownBlock (Value.slice (some ⟨tb, 0, none⟩) D.length tc) = some tb from rfl) (by omega) ?_)
      intro w49 hrt49 ho49 hs49
      have hlo : ∀ b, ov.ownBlock = some b → BB ≤ b := fun b hb => (hrv.lt b hb).1
      rw [← htv] at hrt49 ho49
      replace hrv := own_ext hrv hR
      replace hro := own_ext hro hR
      replace hC3 := ho49.blk (hR.blk hC3 (fun h => h)) (fun hb => own_off hrv (hR.blk hC3 (fun h => h)) (by decide) hb)
      replace hC1 := ho49.blk (hR.blk hC1 (fun h => h)) (fun hb => own_off hrv (hR.blk hC1 (fun h => h)) (by decide) hb)
      replace hro := own_only hro ho49 (fun b hb he => by have h1 := hvb b he; have h2 := (hro.lt b hb).1; omega)
      replace hx := (hx.tr hR).trans' ho49 (fun _ h => h) (fun b hb he => by have := hlo b he; omega)
      rw [dps_set] at hrt49
      have hE := And.intro hro (And.intro hrt49 (And.intro hC1 (And.intro hC3 (And.intro (hB00.ext hx) hx))))
      exact ⟨h1, h3, h5, h7, h15, h16, h17, h31, h32, h33, h34, h30, h35, h36, h37, hE⟩
    · -- state 30 of region 8
      rintro e w ⟨h1, h3, h5, h7, h15, h16, h17, h31, h32, h33, h34, h30, h35, h37, hE⟩
      refine ⟨?_, trivial⟩
      skip
      refine WO.c rfl rfl (o_ext h30 rfl ?_)
      exact ⟨h1, h3, h5, h7, h15, h16, h17, h31, h32, h33, h34, h30, h35, rfl, h37, hE⟩
    -- state 31 of region 8
    rintro e w ⟨h1, h3, h5, h7, h15, h16, h17, h31, h32, h33, h34, h30, h35, h36, h37, hE⟩
    obtain ⟨hro, hrv, hC1, hC3, hB, hx⟩ := hE
    rw [hie, hdp] at hrv
    clear hie hdp
    refine W.region ?_
    refine WL.c rfl (o_addi h17 rfl (by omega) ?_)
    refine WL.c rfl (o_mvh (show _ = Value.int _ _ from rfl) ?_)
    refine WL.nil ?_
    refine ⟨⟨k + 1, by omega, h1, h3, h15.trans hV15.symm, h16, rfl, hro, by rw [depO_take hk1]; exact hrv, hC1, hC3, hB, hx⟩, ?_⟩
    show (ordN D).length - ((k : Int) + 1).toNat < _
    rw [hm17]; simp [intOf]; omega
  try simp only [cs8] at c18
  have hk1 : k = (ordN D).length := by omega
  rw [hk1, List.take_length] at hrv
  refine W.exit ?_
  refine W.seq ?_
  refine W.region ?_
  refine WL.c rfl (o_ld TI79 rfl h3 (cell_of hC3 rfl) ?_)
  refine WL.c rfl (o_ash (by first | exact (show _ = Value.slice _ _ _ from rfl) | exact rfl) ?_)
  refine WL.nil ?_
  refine W.ret ?_
  refine ret1v rfl rfl ?_
  exact ⟨hrv, hx⟩
end Go.Proofs.Ytpbflfgigfdohaa

set_option linter.unusedSimpArgs false
set_option linter.unusedVariables false
set_option maxRecDepth 100000
namespace Go.Proofs.Ytpbflfgigfdohaa
open Go Go.Vc Go.RowKit Go.Proofs

theorem dupK_step {kind : Int} {t : Tr} {ts : Trs} {next : Nat} {seen : List Ex} (q : Int) : (∃ p ∈ dupK kind (.cons t ts) next seen, q = (p : Int)) ↔ ((dupB kind seen t.top = true ∧ q = (next : Int)) ∨ (∃ p ∈ dupT t next, q = (p : Int)) ∨ ∃ p ∈ dupK kind ts (next + t.flat.length) (seen ++ [t.top]), q = (p : Int)) := by
  rw [dupK]
  constructor
  · rintro ⟨p, hp, hq⟩
    rcases List.mem_append.1 hp with hp | hp
    · split at hp
      · rename_i hd
        rw [List.mem_singleton.1 hp] at hq
        exact .inl ⟨hd, hq⟩
      cases hp
    rcases List.mem_append.1 hp with hp | hp
    · exact .inr (.inl ⟨p, hp, hq⟩)
    exact .inr (.inr ⟨p, hp, hq⟩)
  rintro (⟨hd, hq⟩ | ⟨p, hp, hq⟩ | ⟨p, hp, hq⟩)
  · exact ⟨next, by rw [if_pos hd]; simp, hq⟩
  · exact ⟨p, List.mem_append_right _ (List.mem_append_left _ hp), hq⟩
  exact ⟨p, List.mem_append_right _ (List.mem_append_right _ hp), hq⟩
theorem Sl.exw {w : World} {b o c : Nat} {ts : List Ex} (h : Sl w 7 (.slice (some ⟨b, o, none⟩) ts.length c) ts.length (exs ts)) {k : Nat} (hk : k < ts.length) : Cells w b (o + k * 7) (exV ts[k]) := by
  obtain ⟨b', o', c', he, hc⟩ := Sl.exq h hk
  simp only [Value.slice.injEq, Option.some.injEq, Addr.mk.injEq] at he
  obtain ⟨⟨rfl, rfl, -⟩, -, -⟩ := he
  exact hc
theorem map_cell_ne {α : Type} {kt et : TypeId} {en : α → Lit} {w : World} {b n : Nat} {g : α → Option Int} {c o : Nat} {v : Value} (hM : MapIs Try.prog kt et en w b n g) (hc : w.cell? ⟨c, o, none⟩ = some v) : c ≠ b := by
  obtain ⟨Dm, ⟨es, clock, hb, -⟩, -⟩ := hM
  intro e
  subst e
  unfold World.cell? at hc
  simp [hb] at hc
theorem map_blk_ne {α : Type} {kt et : TypeId} {en : α → Lit} {w : World} {b n : Nat} {g : α → Option Int} {c : Nat} {cs : Array Value} {T : TypeId} {fr : Nat × Nat} (hM : MapIs Try.prog kt et en w b n g) (hc : w.heap[c]? = some (.cells cs T fr)) : c ≠ b := by
  obtain ⟨Dm, ⟨es, clock, hb, -⟩, -⟩ := hM
  intro e
  rw [e, hb] at hc
  cases hc
theorem Trs.split {ts : Trs} {n k : Nat} (h : n = k + ts.len) (hk : k < n) : ∃ t t2, ts = .cons t t2 := by
  cases ts with
  | nil => simp [Trs.len] at h; omega
  | cons a b => exact ⟨a, b, rfl⟩
theorem Trs.none {ts : Trs} {n k : Nat} (h : n = k + ts.len) (hk : k = n) : ts = .nil := by
  cases ts with
  | nil => rfl
  | cons a b => simp [Trs.len] at h; omega

set_option maxHeartbeats 4000000 in
theorem twice_step (y : Ex) (ks : Trs) (IH : ∀ t : Tr, t.flat.length < (Tr.node y ks).flat.length → STw t) (L rest : List Ex) (v : Value) (at_ mb n : Nat) (g : Int → Option Int) (a : Int) (d : Nat) (w0 : World) (hw : (Tr.node y ks).wf a d) (hL : L.drop at_ = (Tr.node y ks).flat ++ rest) (hS : Sl w0 7 v L.length (exs L)) (hLl : L.length * 72 ≤ 140737488351232) (hMM : MapIs Try.prog 3 3 enI w0 mb n g) (hnl : n + (Tr.node y ks).flat.length ≤ 4611686018427387904) : Ca Try.prog 94 #[v, .int .i64 (at_ : Int), .map (some mb)] w0 (fun u w' => u = .int .i64 ((at_ + (Tr.node y ks).flat.length : Nat) : Int) ∧ (∃ g' n', n' + 1 ≤ n + (Tr.node y ks).flat.length ∧ MapIs Try.prog 3 3 enI w' mb n' g' ∧ ∀ q, (g' q).isSome = true ↔ ((g q).isSome = true ∨ ∃ p ∈ dupT (Tr.node y ks) at_, q = (p : Int))) ∧ Only (fun k => k = mb) w0 w') := by
  have hx : Only (fun k => k = mb) w0 w0 := Only.refl _ _
  obtain ⟨hat, hya, hL1⟩ := drop_at (show L.drop at_ = y :: (ks.flat ++ rest) from hL)
  obtain ⟨ub, uo, uc, rfl, huc⟩ := Sl.exq hS hat
  rw [hya] at huc
  have hum : ub ≠ mb := map_cell_ne hMM (huc 0 _ rfl)
  have hkk : y.kids = (ks.len : Int) := hw.2.2.2.1.symm
  have hksl : ks.flat.length ≤ L.length := by have h1 := congrArg List.length hL1; simp at h1; omega
  have hlk := trs_len_le ks
  have hub : ub < w0.heap.size := by
    have := huc 0 _ rfl
    exact cell_lt this
  have hmb : mb < w0.heap.size := hMM.lt
  have hfl : (Tr.node y ks).flat.length = ks.flat.length + 1 := rfl
  rw [hfl] at hnl
  refine Ca.of Try.func94 Try.ntmps94 rfl rfl ?_
  refine W.seq ?_
  refine W.region ?_
  refine WL.c rfl (o_ash (show _ = Value.int _ _ from rfl) ?_)
  refine WL.nil ?_
  refine W.seq ?_
  refine W.region ?_
  refine WL.c rfl (o_mvh (show _ = Value.int _ _ from rfl) ?_)
  refine WL.c rfl (o_addi rfl rfl (by omega) ?_)
  refine WL.c rfl (o_ash (show _ = Value.int _ _ from rfl) ?_)
  refine WL.nil ?_
  refine W.seq ?_
  refine W.region ?_
  refine WL.c rfl (o_mkM ?_)
  have hML := MapIs.made Try.prog 9 3 enS w0
  have hxm : Ext w0 (w0.alloc (.map #[] 0)) := Only.alloc w0 _
  obtain ⟨lb, hlb⟩ : ∃ b, b = w0.heap.size := ⟨_, rfl⟩
  rw [← hlb] at hML ⊢
  have hlb2 : lb < (w0.alloc (.map #[] 0)).heap.size := hML.lt
  generalize w0.alloc (.map #[] 0) = wm at hML hxm hlb2 ⊢
  replace hx := hx.trans (hxm.mono (fun _ _ h => h.elim))
  replace hS := hS.ext hxm
  replace hMM := hMM.ext hxm
  refine WL.c rfl (o_mkM ?_)
  have hMT := MapIs.made Try.prog 3 3 enI wm
  have hxm2 : Ext wm (wm.alloc (.map #[] 0)) := Only.alloc wm _
  obtain ⟨tb, htb⟩ : ∃ b, b = wm.heap.size := ⟨_, rfl⟩
  rw [← htb] at hMT ⊢
  generalize wm.alloc (.map #[] 0) = wn at hMT hxm2 ⊢
  replace hx := hx.trans (hxm2.mono (fun _ _ h => h.elim))
  replace hS := hS.ext hxm2
  replace hMM := hMM.ext hxm2
  replace hML := hML.ext hxm2
  have hul : ub ≠ lb := by omega
  have hut : ub ≠ tb := by omega
  have hlm : ¬ lb = mb := by omega
  have htm : ¬ tb = mb := by omega
  have hml : ¬ mb = lb := by omega
  have hmt : ¬ mb = tb := by omega
  have hlt : ¬ lb = tb := by omega
  have hlw : w0.heap.size ≤ lb := by omega
  have htw : w0.heap.size ≤ tb := by omega
  have huc := Sl.exw hS hat
  rw [hya] at huc
  clear hxm hxm2
  refine WL.c rfl (o_as ?_)
  refine WL.c rfl (o_as ?_)
  refine WL.nil ?_
  refine W.seq ?_
  refine W.seq ?_
  refine W.region ?_
  refine WL.c rfl (o_mvh (by first | exact (show _ = Value.slice _ _ _ from rfl) | exact rfl) ?_)
  refine WL.c rfl (o_mvh (show _ = Value.int _ _ from rfl) ?_)
  refine WL.c rfl (o_ixB TI37 TI41 rfl rfl (by omega) ?_)
  refine WL.c rfl (o_fa 5 TI41 rfl TI3 rfl rfl ?_)
  refine WL.c rfl (o_ld TI3 rfl rfl (huc 5 _ rfl) ?_)
  refine WL.c rfl (o_mvh (show _ = Value.int _ _ from rfl) ?_)
  refine WL.nil ?_
  refine W.block ?_
  refine W.loop (fun e w => ∃ (k next nl nt nm : Nat) (ts : Trs) (seen : List Ex) (gl : List UInt8 → Option Int) (gt gm : Int → Option Int), ks.len = k + ts.len ∧ e 0 = (Value.slice (some ⟨ub, uo, none⟩) L.length uc) ∧ e 1 = .int .i64 (at_ : Int) ∧ e 2 = .map (some mb) ∧ e 7 = .int .i64 (next : Int) ∧ e 8 = .map (some lb) ∧ e 9 = .map (some tb) ∧ e 24 = .int .i64 (ks.len : Int) ∧ e 25 = .int .i64 (k : Int) ∧ Sl w 7 (Value.slice (some ⟨ub, uo, none⟩) L.length uc) L.length (exs L) ∧ MapIs Try.prog 9 3 enS w lb nl gl ∧ MapIs Try.prog 3 3 enI w tb nt gt ∧ MapIs Try.prog 3 3 enI w mb nm gm ∧ nl ≤ k ∧ nt ≤ k ∧ nm + ts.flat.length ≤ n + ks.flat.length ∧ ts.wf y.kind (d + 1) ∧ L.drop next = ts.flat ++ rest ∧ next + ts.flat.length = at_ + 1 + ks.flat.length ∧ ts.flat.length ≤ ks.flat.length ∧ (y.kind = 8 → ∀ s, (gl s).isSome = seen.any (fun z => decide (z.label = s))) ∧ (y.kind = 7 → ∀ q, (gt q).isSome = seen.any (fun z => decide (z.tag = q))) ∧ (∀ q : Int, ((gm q).isSome = true ∨ ∃ p ∈ dupK y.kind ts next seen, q = (p : Int)) ↔ ((g q).isSome = true ∨ ∃ p ∈ dupK y.kind ks (at_ + 1) [], q = (p : Int))) ∧ Only (fun k => k = mb) w0 w) (fun e w => ks.len - (intOf (e 25)).toNat) ?_ ?_
  · exact ⟨0, at_ + 1, 0, 0, n, ks, [], fun _ => none, fun _ => none, g, by omega, rfl, rfl, rfl, rfl, rfl, rfl, congrArg (Value.int .i64) hkk, rfl, hS, hML, hMT, hMM, Nat.le_refl _, Nat.le_refl _, Nat.le_refl _, hw.2.2.2.2, hL1, rfl, Nat.le_refl _, fun _ _ => rfl, fun _ _ => rfl, fun _ => Iff.rfl, hx⟩
  rintro e w ⟨k, next, nl, nt, nm, ts, seen, gl, gt, gm, hks, h0, h1, h2, h7, h8, h9, h24, h25, hS, hML, hMT, hMM, hnlk, hntk, hnmk, hwt, hLn, hnx, htl, hlab, htag, hiff, hx⟩
  have hm25 := h25
  have huc := Sl.exw hS hat
  rw [hya] at huc
  refine W.seq ?_
  refine W.region ?_
  refine WL.c rfl (o_lt h25 h24 ?_)
  refine WL.nil ?_
  refine W.seq ?_
  refine W.cond rfl (fun c26 => ?_) (fun c26 => ?_)
  · try simp only [cs8] at c26
    have hk1 : k < ks.len := by omega
    obtain ⟨t, ts2, rfl⟩ := Trs.split hks hk1
    simp only [Trs.len] at hks
    have hfl2 : (Trs.cons t ts2).flat.length = t.flat.length + ts2.flat.length := by simp [Trs.flat]
    have htp := tr_pos t
    rw [hfl2] at hnx htl hnmk
    have hdr : L.drop next = t.flat ++ (ts2.flat ++ rest) := by rw [hLn]; simp [Trs.flat]
    have hdr2 : L.drop (next + t.flat.length) = ts2.flat ++ rest := by rw [← List.drop_drop, hdr, List.drop_left]
    obtain ⟨r, hr⟩ := top_flat t
    obtain ⟨hnl1, hxe, -⟩ := drop_at (show L.drop next = t.top :: (r ++ (ts2.flat ++ rest)) by rw [hdr, hr]; rfl)
    have huc2 := Sl.exw hS hnl1
    rw [hxe] at huc2
    obtain ⟨hlb32, htg0, htg1⟩ := top_bounds hwt.1
    refine W.skip ?_
    refine W.seq ?_
    refine W.block ?_
    refine W.seq ?_
    refine W.region ?_
    refine WL.c rfl (o_mvh h25 ?_)
    refine WL.c rfl (o_ash (show _ = Value.int _ _ from rfl) ?_)
    refine WL.nil ?_
    refine W.seq ?_
    refine W.region ?_
    refine WL.c rfl (o_mvh h0 ?_)
    refine WL.c rfl (o_mvh h7 ?_)
    refine WL.c rfl (o_ixB TI37 TI41 rfl rfl (by omega) ?_)
    refine WL.c rfl (o_ldA TI41 rfl rfl huc2 rfl ?_)
    refine WL.c rfl (o_alB TI41 ?_)
    intro wa hCa hxa hsa
    refine WL.u (o_stA TI41 rfl (show _ = Value.agg (exV t.top).toArray from rfl) rfl rfl hCa rfl ?_)
    intro wb11 hC11 hob hsb
    have hxb := Ext.own hxa (Nat.le_refl _) hob
    obtain ⟨b11, hb11⟩ : ∃ b, b = w.heap.size := ⟨_, rfl⟩
    rw [← hb11] at hC11 ⊢
    clear hCa hxa hsa hob hsb
    replace hx := hx.trans (hxb.mono (fun _ _ h => h.elim))
    replace hS := hS.ext hxb
    replace hML := hML.ext hxb
    replace hMT := hMT.ext hxb
    replace hMM := hMM.ext hxb
    clear hxb
    refine WL.nil ?_
    refine W.seq ?_
    refine W.seq ?_
    refine W.region ?_
    refine WL.c rfl (o_mvh h0 ?_)
    refine WL.c rfl (o_mvh h1 ?_)
    refine WL.c rfl (o_ixB TI37 TI41 rfl rfl (by omega) ?_)
    refine WL.c rfl (o_fa 0 TI41 rfl TI3 rfl rfl ?_)
    refine WL.c rfl (o_ld TI3 rfl rfl (Sl.exw hS hat 0 _ (by rw [hya]; rfl)) ?_)
    refine WL.nil ?_
    refine W.block ?_
    refine W.seq ?_
    refine W.region ?_
    refine WL.c rfl (o_eq rfl rfl ?_)
    refine WL.c rfl (o_ash (show _ = Value.bool _ from rfl) ?_)
    refine WL.nil ?_
    refine W.cond rfl (fun c37 => ?_) (fun c37 => ?_)
    · try simp only [cs8] at c37
      have hk8 : y.kind = 8 := by simpa using c37
      refine W.seq ?_
      refine W.seq ?_
      refine W.region ?_
      refine WL.c rfl (o_mvh h8 ?_)
      refine WL.c rfl (o_fa 3 TI41 rfl TI9 rfl rfl ?_)
      refine WL.c rfl (o_ld TI9 rfl rfl (cell_of hC11 rfl) ?_)
      refine WL.c rfl (o_lkO MT88 rfl hML rfl (keyS Try.underlying9 (by rw [maxLen_eq]; omega)) ?_)
      refine WL.c rfl (o_mvh (by first | exact (show _ = Value.tuple _ from rfl) | exact rfl) ?_)
      refine WL.c rfl (o_ext rfl rfl ?_)
      refine WL.c rfl (o_ext rfl rfl ?_)
      refine WL.c rfl (o_ash (show _ = Value.int _ _ from rfl) ?_)
      refine WL.c rfl (o_ash (show _ = Value.bool _ from rfl) ?_)
      refine WL.nil ?_
      refine W.seq ?_
      refine W.region ?_
      refine WL.c rfl (o_mvh (show _ = Value.bool _ from rfl) ?_)
      refine WL.nil ?_
      refine W.cond rfl (fun c46 => ?_) (fun c46 => ?_)
      · try simp only [cs8] at c46
        have hdup : dupB y.kind seen t.top = true := by unfold dupB; rw [if_pos hk8, ← hlab hk8]; exact c46
        refine W.region ?_
        refine WL.c rfl (o_mvh h2 ?_)
        refine WL.c rfl (o_mvh h7 ?_)
        refine WL.c rfl (o_mvh (show _ = Value.int _ _ from rfl) ?_)
        refine WL.u (o_mu enI_inj MT141 rfl hMM rfl (keyI Try.underlying3 (by omega)) rfl (wf_i64 (by omega)) (by rw [maxLen_eq]; omega) ?_)
        intro wq hMq hoq hsq
        replace hS := hS.only hoq (fun b hb he => by
          have h1 : ub = b := by simpa [Value.ownBlock] using hb
          exact hum (h1.trans he))
        replace hML := hML.only hoq hlm
        replace hMT := hMT.only hoq htm
        replace hC11 := hoq.blk hC11 (map_blk_ne hMM hC11)
        replace hx := hx.trans hoq
        obtain ⟨gmN, hgN⟩ : ∃ f, f = (fun c => if c = (next : Int) then some (k : Int) else gm c) := ⟨_, rfl⟩
        rw [← hgN] at hMq
        have hnew : ∀ q, (gmN q).isSome = true ↔ ((gm q).isSome = true ∨ (dupB y.kind seen t.top = true ∧ q = (next : Int))) := fun q => by
          rw [hgN, hdup]
          by_cases hq : q = (next : Int) <;> simp [hq]
        clear hMM
        have hMM := hMq
        clear hMq hoq
        refine WL.nil ?_
        refine W.region ?_
        refine WL.c rfl (o_mvh h8 ?_)
        refine WL.c rfl (o_fa 3 TI41 rfl TI9 rfl rfl ?_)
        refine WL.c rfl (o_ld TI9 rfl rfl (cell_of hC11 rfl) ?_)
        refine WL.c rfl (o_mvh (show _ = Value.int _ _ from rfl) ?_)
        refine WL.u (o_mu enS_inj MT88 rfl hML rfl (keyS Try.underlying9 (by rw [maxLen_eq]; omega)) rfl (wf_i64 (by omega)) (by rw [maxLen_eq]; omega) ?_)
        intro wq hMq hoq hsq
        replace hS := hS.only hoq (fun b hb he => by
          have h1 : ub = b := by simpa [Value.ownBlock] using hb
          exact hul (h1.trans he))
        replace hMM := hMM.only hoq hml
        replace hMT := hMT.only hoq (fun h => hlt h.symm)
        replace hx := hx.trans' hoq (fun _ h => h) (fun b hb he => by omega)
        obtain ⟨glN, hgl⟩ : ∃ f, f = (fun c => if c = t.top.label then some (k : Int) else gl c) := ⟨_, rfl⟩
        rw [← hgl] at hMq
        clear hML
        have hML := hMq
        clear hMq
        have hlabN : y.kind = 8 → ∀ s, (glN s).isSome = (seen ++ [t.top]).any (fun z => decide (z.label = s)) := fun h s => by
          rw [hgl, List.any_append, ← hlab h s]
          by_cases hq : s = t.top.label
          · simp [hq]
          have hq2 : ¬ t.top.label = s := fun h => hq h.symm
          simp [hq, hq2]
        obtain ⟨gtN, hgtN⟩ : ∃ f, f = gt := ⟨_, rfl⟩
        rw [← hgtN] at hMT
        replace hMT := hMT.mono (Nat.le_succ nt)
        have htagN : y.kind = 7 → ∀ q, (gtN q).isSome = (seen ++ [t.top]).any (fun z => decide (z.tag = q)) := fun h => by omega
        refine WL.nil ?_
        refine W.region ?_
        refine WL.c rfl (o_mvh h0 ?_)
        refine WL.c rfl (o_mvh h7 ?_)
        refine WL.c rfl (o_mvh h2 ?_)
        refine WL.c rfl (o_call Try.call94 (lc rfl (lc rfl (lc rfl ln))) ((IH t (by rw [hfl]; omega) L (ts2.flat ++ rest) (Value.slice (some ⟨ub, uo, none⟩) L.length uc) next mb (nm + 1) gmN _ _ _ hwt.1 hdr hS hLl hMM (by omega)).mono ?_))
        rintro v74 w74 ⟨rfl, ⟨g18, n18, hn18, hM18, hg18⟩, ho18⟩
        replace hS := hS.only ho18 (fun b hb he => by
          have h1 : ub = b := by simpa [Value.ownBlock] using hb
          exact hum (h1.trans he))
        replace hML := hML.only ho18 hlm
        replace hMT := hMT.only ho18 htm
        replace hx := hx.trans ho18
        refine WL.c rfl (o_ash (show _ = Value.int _ _ from rfl) ?_)
        refine WL.nil ?_
        refine W.region ?_
        refine WL.c rfl (o_addi h25 rfl (by omega) ?_)
        refine WL.c rfl (o_mvh (show _ = Value.int _ _ from rfl) ?_)
        refine WL.nil ?_
        refine ⟨⟨k + 1, next + t.flat.length, _, _, n18, ts2, seen ++ [t.top], glN, gtN, g18, by omega, h0, h1, h2, rfl, h8, h9, h24, rfl, hS, hML, hMT, hM18, by omega, by omega, by omega, hwt.2, hdr2, by omega, by omega, hlabN, htagN, fun q => ?_, hx⟩, ?_⟩
        · rw [← hiff q, dupK_step, hg18 q, hnew q]
          simp only [or_assoc]
        show ks.len - ((k : Int) + 1).toNat < _
        rw [hm25]; simp [intOf]; omega
      try simp only [cs8] at c46
      have hdup : dupB y.kind seen t.top = false := by unfold dupB; rw [if_pos hk8, ← hlab hk8]; simpa using c46
      obtain ⟨gmN, hgN⟩ : ∃ f, f = gm := ⟨_, rfl⟩
      have hnew : ∀ q, (gmN q).isSome = true ↔ ((gm q).isSome = true ∨ (dupB y.kind seen t.top = true ∧ q = (next : Int))) := fun q => by
        rw [hgN, hdup]
        simp
      rw [← hgN] at hMM
      replace hMM := hMM.mono (Nat.le_succ nm)
      refine W.skip ?_
      refine W.region ?_
      refine WL.c rfl (o_mvh h8 ?_)
      refine WL.c rfl (o_fa 3 TI41 rfl TI9 rfl rfl ?_)
      refine WL.c rfl (o_ld TI9 rfl rfl (cell_of hC11 rfl) ?_)
      refine WL.c rfl (o_mvh (show _ = Value.int _ _ from rfl) ?_)
      refine WL.u (o_mu enS_inj MT88 rfl hML rfl (keyS Try.underlying9 (by rw [maxLen_eq]; omega)) rfl (wf_i64 (by omega)) (by rw [maxLen_eq]; omega) ?_)
      intro wq hMq hoq hsq
      replace hS := hS.only hoq (fun b hb he => by
        have h1 : ub = b := by simpa [Value.ownBlock] using hb
        exact hul (h1.trans he))
      replace hMM := hMM.only hoq hml
      replace hMT := hMT.only hoq (fun h => hlt h.symm)
      replace hx := hx.trans' hoq (fun _ h => h) (fun b hb he => by omega)
      obtain ⟨glN, hgl⟩ : ∃ f, f = (fun c => if c = t.top.label then some (k : Int) else gl c) := ⟨_, rfl⟩
      rw [← hgl] at hMq
      clear hML
      have hML := hMq
      clear hMq
      have hlabN : y.kind = 8 → ∀ s, (glN s).isSome = (seen ++ [t.top]).any (fun z => decide (z.label = s)) := fun h s => by
        rw [hgl, List.any_append, ← hlab h s]
        by_cases hq : s = t.top.label
        · simp [hq]
        have hq2 : ¬ t.top.label = s := fun h => hq h.symm
        simp [hq, hq2]
      obtain ⟨gtN, hgtN⟩ : ∃ f, f = gt := ⟨_, rfl⟩
      rw [← hgtN] at hMT
      replace hMT := hMT.mono (Nat.le_succ nt)
      have htagN : y.kind = 7 → ∀ q, (gtN q).isSome = (seen ++ [t.top]).any (fun z => decide (z.tag = q)) := fun h => by omega
      refine WL.nil ?_
      refine W.region ?_
      refine WL.c rfl (o_mvh h0 ?_)
      refine WL.c rfl (o_mvh h7 ?_)
      refine WL.c rfl (o_mvh h2 ?_)
      refine WL.c rfl (o_call Try.call94 (lc rfl (lc rfl (lc rfl ln))) ((IH t (by rw [hfl]; omega) L (ts2.flat ++ rest) (Value.slice (some ⟨ub, uo, none⟩) L.length uc) next mb (nm + 1) gmN _ _ _ hwt.1 hdr hS hLl hMM (by omega)).mono ?_))
      rintro v74 w74 ⟨rfl, ⟨g18, n18, hn18, hM18, hg18⟩, ho18⟩
      replace hS := hS.only ho18 (fun b hb he => by
        have h1 : ub = b := by simpa [Value.ownBlock] using hb
        exact hum (h1.trans he))
      replace hML := hML.only ho18 hlm
      replace hMT := hMT.only ho18 htm
      replace hx := hx.trans ho18
      refine WL.c rfl (o_ash (show _ = Value.int _ _ from rfl) ?_)
      refine WL.nil ?_
      refine W.region ?_
      refine WL.c rfl (o_addi h25 rfl (by omega) ?_)
      refine WL.c rfl (o_mvh (show _ = Value.int _ _ from rfl) ?_)
      refine WL.nil ?_
      refine ⟨⟨k + 1, next + t.flat.length, _, _, n18, ts2, seen ++ [t.top], glN, gtN, g18, by omega, h0, h1, h2, rfl, h8, h9, h24, rfl, hS, hML, hMT, hM18, by omega, by omega, by omega, hwt.2, hdr2, by omega, by omega, hlabN, htagN, fun q => ?_, hx⟩, ?_⟩
      · rw [← hiff q, dupK_step, hg18 q, hnew q]
        simp only [or_assoc]
      show ks.len - ((k : Int) + 1).toNat < _
      rw [hm25]; simp [intOf]; omega
    try simp only [cs8] at c37
    have hk8 : ¬ y.kind = 8 := by simpa using c37
    refine W.seq ?_
    refine W.region ?_
    refine WL.c rfl (o_eq rfl rfl ?_)
    refine WL.c rfl (o_ash (show _ = Value.bool _ from rfl) ?_)
    refine WL.nil ?_
    refine W.cond rfl (fun c54 => ?_) (fun c54 => ?_)
    · try simp only [cs8] at c54
      have hk7 : y.kind = 7 := by simpa using c54
      refine W.seq ?_
      refine W.seq ?_
      refine W.region ?_
      refine WL.c rfl (o_mvh h9 ?_)
      refine WL.c rfl (o_fa 4 TI41 rfl TI3 rfl rfl ?_)
      refine WL.c rfl (o_ld TI3 rfl rfl (cell_of hC11 rfl) ?_)
      refine WL.c rfl (o_lkO MT141 rfl hMT rfl (keyI Try.underlying3 (by omega)) ?_)
      refine WL.c rfl (o_mvh (by first | exact (show _ = Value.tuple _ from rfl) | exact rfl) ?_)
      refine WL.c rfl (o_ext rfl rfl ?_)
      refine WL.c rfl (o_ext rfl rfl ?_)
      refine WL.c rfl (o_ash (show _ = Value.int _ _ from rfl) ?_)
      refine WL.c rfl (o_ash (show _ = Value.bool _ from rfl) ?_)
      refine WL.nil ?_
      refine W.seq ?_
      refine W.region ?_
      refine WL.c rfl (o_mvh (show _ = Value.bool _ from rfl) ?_)
      refine WL.nil ?_
      refine W.cond rfl (fun c63 => ?_) (fun c63 => ?_)
      · try simp only [cs8] at c63
        have hdup : dupB y.kind seen t.top = true := by unfold dupB; rw [if_neg hk8, if_pos hk7, ← htag hk7]; exact c63
        refine W.region ?_
        refine WL.c rfl (o_mvh h2 ?_)
        refine WL.c rfl (o_mvh h7 ?_)
        refine WL.c rfl (o_mvh (show _ = Value.int _ _ from rfl) ?_)
        refine WL.u (o_mu enI_inj MT141 rfl hMM rfl (keyI Try.underlying3 (by omega)) rfl (wf_i64 (by omega)) (by rw [maxLen_eq]; omega) ?_)
        intro wq hMq hoq hsq
        replace hS := hS.only hoq (fun b hb he => by
          have h1 : ub = b := by simpa [Value.ownBlock] using hb
          exact hum (h1.trans he))
        replace hML := hML.only hoq hlm
        replace hMT := hMT.only hoq htm
        replace hC11 := hoq.blk hC11 (map_blk_ne hMM hC11)
        replace hx := hx.trans hoq
        obtain ⟨gmN, hgN⟩ : ∃ f, f = (fun c => if c = (next : Int) then some (k : Int) else gm c) := ⟨_, rfl⟩
        rw [← hgN] at hMq
        have hnew : ∀ q, (gmN q).isSome = true ↔ ((gm q).isSome = true ∨ (dupB y.kind seen t.top = true ∧ q = (next : Int))) := fun q => by
          rw [hgN, hdup]
          by_cases hq : q = (next : Int) <;> simp [hq]
        clear hMM
        have hMM := hMq
        clear hMq hoq
        refine WL.nil ?_
        refine W.region ?_
        refine WL.c rfl (o_mvh h9 ?_)
        refine WL.c rfl (o_fa 4 TI41 rfl TI3 rfl rfl ?_)
        refine WL.c rfl (o_ld TI3 rfl rfl (cell_of hC11 rfl) ?_)
        refine WL.c rfl (o_mvh (show _ = Value.int _ _ from rfl) ?_)
        refine WL.u (o_mu enI_inj MT141 rfl hMT rfl (keyI Try.underlying3 (by omega)) rfl (wf_i64 (by omega)) (by rw [maxLen_eq]; omega) ?_)
        intro wq hMq hoq hsq
        replace hS := hS.only hoq (fun b hb he => by
          have h1 : ub = b := by simpa [Value.ownBlock] using hb
          exact hut (h1.trans he))
        replace hMM := hMM.only hoq hmt
        replace hML := hML.only hoq hlt
        replace hx := hx.trans' hoq (fun _ h => h) (fun b hb he => by omega)
        obtain ⟨gtN, hgt⟩ : ∃ f, f = (fun c => if c = t.top.tag then some (k : Int) else gt c) := ⟨_, rfl⟩
        rw [← hgt] at hMq
        clear hMT
        have hMT := hMq
        clear hMq
        have htagN : y.kind = 7 → ∀ q, (gtN q).isSome = (seen ++ [t.top]).any (fun z => decide (z.tag = q)) := fun h q => by
          rw [hgt, List.any_append, ← htag h q]
          by_cases hq : q = t.top.tag
          · simp [hq]
          have hq2 : ¬ t.top.tag = q := fun h => hq h.symm
          simp [hq, hq2]
        obtain ⟨glN, hglN⟩ : ∃ f, f = gl := ⟨_, rfl⟩
        rw [← hglN] at hML
        replace hML := hML.mono (Nat.le_succ nl)
        have hlabN : y.kind = 8 → ∀ s, (glN s).isSome = (seen ++ [t.top]).any (fun z => decide (z.label = s)) := fun h => absurd h hk8
        refine WL.nil ?_
        refine W.region ?_
        refine WL.c rfl (o_mvh h0 ?_)
        refine WL.c rfl (o_mvh h7 ?_)
        refine WL.c rfl (o_mvh h2 ?_)
        refine WL.c rfl (o_call Try.call94 (lc rfl (lc rfl (lc rfl ln))) ((IH t (by rw [hfl]; omega) L (ts2.flat ++ rest) (Value.slice (some ⟨ub, uo, none⟩) L.length uc) next mb (nm + 1) gmN _ _ _ hwt.1 hdr hS hLl hMM (by omega)).mono ?_))
        rintro v74 w74 ⟨rfl, ⟨g18, n18, hn18, hM18, hg18⟩, ho18⟩
        replace hS := hS.only ho18 (fun b hb he => by
          have h1 : ub = b := by simpa [Value.ownBlock] using hb
          exact hum (h1.trans he))
        replace hML := hML.only ho18 hlm
        replace hMT := hMT.only ho18 htm
        replace hx := hx.trans ho18
        refine WL.c rfl (o_ash (show _ = Value.int _ _ from rfl) ?_)
        refine WL.nil ?_
        refine W.region ?_
        refine WL.c rfl (o_addi h25 rfl (by omega) ?_)
        refine WL.c rfl (o_mvh (show _ = Value.int _ _ from rfl) ?_)
        refine WL.nil ?_
        refine ⟨⟨k + 1, next + t.flat.length, _, _, n18, ts2, seen ++ [t.top], glN, gtN, g18, by omega, h0, h1, h2, rfl, h8, h9, h24, rfl, hS, hML, hMT, hM18, by omega, by omega, by omega, hwt.2, hdr2, by omega, by omega, hlabN, htagN, fun q => ?_, hx⟩, ?_⟩
        · rw [← hiff q, dupK_step, hg18 q, hnew q]
          simp only [or_assoc]
        show ks.len - ((k : Int) + 1).toNat < _
        rw [hm25]; simp [intOf]; omega
      try simp only [cs8] at c63
      have hdup : dupB y.kind seen t.top = false := by unfold dupB; rw [if_neg hk8, if_pos hk7, ← htag hk7]; simpa using c63
      obtain ⟨gmN, hgN⟩ : ∃ f, f = gm := ⟨_, rfl⟩
      have hnew : ∀ q, (gmN q).isSome = true ↔ ((gm q).isSome = true ∨ (dupB y.kind seen t.top = true ∧ q = (next : Int))) := fun q => by
        rw [hgN, hdup]
        simp
      rw [← hgN] at hMM
      replace hMM := hMM.mono (Nat.le_succ nm)
      refine W.skip ?_
      refine W.region ?_
      refine WL.c rfl (o_mvh h9 ?_)
      refine WL.c rfl (o_fa 4 TI41 rfl TI3 rfl rfl ?_)
      refine WL.c rfl (o_ld TI3 rfl rfl (cell_of hC11 rfl) ?_)
      refine WL.c rfl (o_mvh (show _ = Value.int _ _ from rfl) ?_)
      refine WL.u (o_mu enI_inj MT141 rfl hMT rfl (keyI Try.underlying3 (by omega)) rfl (wf_i64 (by omega)) (by rw [maxLen_eq]; omega) ?_)
      intro wq hMq hoq hsq
      replace hS := hS.only hoq (fun b hb he => by
        have h1 : ub = b := by simpa [Value.ownBlock] using hb
        exact hut (h1.trans he))
      replace hMM := hMM.only hoq hmt
      replace hML := hML.only hoq hlt
      replace hx := hx.trans' hoq (fun _ h => h) (fun b hb he => by omega)
      obtain ⟨gtN, hgt⟩ : ∃ f, f = (fun c => if c = t.top.tag then some (k : Int) else gt c) := ⟨_, rfl⟩
      rw [← hgt] at hMq
      clear hMT
      have hMT := hMq
      clear hMq
      have htagN : y.kind = 7 → ∀ q, (gtN q).isSome = (seen ++ [t.top]).any (fun z => decide (z.tag = q)) := fun h q => by
        rw [hgt, List.any_append, ← htag h q]
        by_cases hq : q = t.top.tag
        · simp [hq]
        have hq2 : ¬ t.top.tag = q := fun h => hq h.symm
        simp [hq, hq2]
      obtain ⟨glN, hglN⟩ : ∃ f, f = gl := ⟨_, rfl⟩
      rw [← hglN] at hML
      replace hML := hML.mono (Nat.le_succ nl)
      have hlabN : y.kind = 8 → ∀ s, (glN s).isSome = (seen ++ [t.top]).any (fun z => decide (z.label = s)) := fun h => absurd h hk8
      refine WL.nil ?_
      refine W.region ?_
      refine WL.c rfl (o_mvh h0 ?_)
      refine WL.c rfl (o_mvh h7 ?_)
      refine WL.c rfl (o_mvh h2 ?_)
      refine WL.c rfl (o_call Try.call94 (lc rfl (lc rfl (lc rfl ln))) ((IH t (by rw [hfl]; omega) L (ts2.flat ++ rest) (Value.slice (some ⟨ub, uo, none⟩) L.length uc) next mb (nm + 1) gmN _ _ _ hwt.1 hdr hS hLl hMM (by omega)).mono ?_))
      rintro v74 w74 ⟨rfl, ⟨g18, n18, hn18, hM18, hg18⟩, ho18⟩
      replace hS := hS.only ho18 (fun b hb he => by
        have h1 : ub = b := by simpa [Value.ownBlock] using hb
        exact hum (h1.trans he))
      replace hML := hML.only ho18 hlm
      replace hMT := hMT.only ho18 htm
      replace hx := hx.trans ho18
      refine WL.c rfl (o_ash (show _ = Value.int _ _ from rfl) ?_)
      refine WL.nil ?_
      refine W.region ?_
      refine WL.c rfl (o_addi h25 rfl (by omega) ?_)
      refine WL.c rfl (o_mvh (show _ = Value.int _ _ from rfl) ?_)
      refine WL.nil ?_
      refine ⟨⟨k + 1, next + t.flat.length, _, _, n18, ts2, seen ++ [t.top], glN, gtN, g18, by omega, h0, h1, h2, rfl, h8, h9, h24, rfl, hS, hML, hMT, hM18, by omega, by omega, by omega, hwt.2, hdr2, by omega, by omega, hlabN, htagN, fun q => ?_, hx⟩, ?_⟩
      · rw [← hiff q, dupK_step, hg18 q, hnew q]
        simp only [or_assoc]
      show ks.len - ((k : Int) + 1).toNat < _
      rw [hm25]; simp [intOf]; omega
    try simp only [cs8] at c54
    have hk7 : ¬ y.kind = 7 := by simpa using c54
    have hdup : dupB y.kind seen t.top = false := by unfold dupB; rw [if_neg hk8, if_neg hk7]
    obtain ⟨gmN, hgN⟩ : ∃ f, f = gm := ⟨_, rfl⟩
    have hnew : ∀ q, (gmN q).isSome = true ↔ ((gm q).isSome = true ∨ (dupB y.kind seen t.top = true ∧ q = (next : Int))) := fun q => by
      rw [hgN, hdup]
      simp
    rw [← hgN] at hMM
    replace hMM := hMM.mono (Nat.le_succ nm)
    obtain ⟨glN, hglN⟩ : ∃ f, f = gl := ⟨_, rfl⟩
    obtain ⟨gtN, hgtN⟩ : ∃ f, f = gt := ⟨_, rfl⟩
    rw [← hglN] at hML
    rw [← hgtN] at hMT
    replace hML := hML.mono (Nat.le_succ nl)
    replace hMT := hMT.mono (Nat.le_succ nt)
    have hlabN : y.kind = 8 → ∀ s, (glN s).isSome = (seen ++ [t.top]).any (fun z => decide (z.label = s)) := fun h => absurd h hk8
    have htagN : y.kind = 7 → ∀ q, (gtN q).isSome = (seen ++ [t.top]).any (fun z => decide (z.tag = q)) := fun h => absurd h hk7
    refine W.skip ?_
    refine W.region ?_
    refine WL.c rfl (o_mvh h0 ?_)
    refine WL.c rfl (o_mvh h7 ?_)
    refine WL.c rfl (o_mvh h2 ?_)
    refine WL.c rfl (o_call Try.call94 (lc rfl (lc rfl (lc rfl ln))) ((IH t (by rw [hfl]; omega) L (ts2.flat ++ rest) (Value.slice (some ⟨ub, uo, none⟩) L.length uc) next mb (nm + 1) gmN _ _ _ hwt.1 hdr hS hLl hMM (by omega)).mono ?_))
    rintro v74 w74 ⟨rfl, ⟨g18, n18, hn18, hM18, hg18⟩, ho18⟩
    replace hS := hS.only ho18 (fun b hb he => by
      have h1 : ub = b := by simpa [Value.ownBlock] using hb
      exact hum (h1.trans he))
    replace hML := hML.only ho18 hlm
    replace hMT := hMT.only ho18 htm
    replace hx := hx.trans ho18
    refine WL.c rfl (o_ash (show _ = Value.int _ _ from rfl) ?_)
    refine WL.nil ?_
    refine W.region ?_
    refine WL.c rfl (o_addi h25 rfl (by omega) ?_)
    refine WL.c rfl (o_mvh (show _ = Value.int _ _ from rfl) ?_)
    refine WL.nil ?_
    refine ⟨⟨k + 1, next + t.flat.length, _, _, n18, ts2, seen ++ [t.top], glN, gtN, g18, by omega, h0, h1, h2, rfl, h8, h9, h24, rfl, hS, hML, hMT, hM18, by omega, by omega, by omega, hwt.2, hdr2, by omega, by omega, hlabN, htagN, fun q => ?_, hx⟩, ?_⟩
    · rw [← hiff q, dupK_step, hg18 q, hnew q]
      simp only [or_assoc]
    show ks.len - ((k : Int) + 1).toNat < _
    rw [hm25]; simp [intOf]; omega
  try simp only [cs8] at c26
  have hk1 : k = ks.len := by omega
  have hnil := Trs.none hks hk1
  subst hnil
  refine W.exit ?_
  refine W.seq ?_
  refine W.region ?_
  refine WL.c rfl (o_mvh h7 ?_)
  refine WL.c rfl (o_ash (show _ = Value.int _ _ from rfl) ?_)
  refine WL.nil ?_
  refine W.ret ?_
  refine ret1v rfl (show _ = Value.int _ _ from rfl) ?_
  exact ⟨congrArg (Value.int .i64) (by rw [hfl]; simp [Trs.flat] at hnx; omega), ⟨gm, nm, by rw [hfl]; omega, hMM, fun q => by have := hiff q; simp only [dupK, List.not_mem_nil, false_and, exists_false, or_false] at this; rw [this]; rfl⟩, hx⟩

theorem twice_all : ∀ (m : Nat) (t : Tr), t.flat.length ≤ m → STw t
  | 0, .node y ks, h => by simp [Tr.flat] at h
  | m + 1, .node y ks, h => fun L rest v at_ mb n g a d w0 h1 h2 h3 h4 h5 h6 => twice_step y ks (fun t ht => twice_all m t (by omega)) L rest v at_ mb n g a d w0 h1 h2 h3 h4 h5 h6

end Go.Proofs.Ytpbflfgigfdohaa

set_option linter.unusedSimpArgs false
set_option linter.unusedVariables false
set_option maxRecDepth 100000
namespace Go.Proofs.Ytpbflfgigfdohaa
open Go Go.Vc Go.RowKit Go.Proofs

theorem where_take {D : List Df} {k : Nat} (hk : k < D.length) (s : List UInt8) : whereN (D.take (k + 1)) s = (whereN (D.take k) s).or (if D[k].name = s then some k else none) := by
  unfold whereN
  rw [List.take_succ_eq_append_getElem hk, List.findIdx?_append]
  have : (D.take k).length = k := by rw [List.length_take]; omega
  congr 1
  rw [this]
  by_cases h : D[k].name = s
  · simp [List.findIdx?_cons, h]
  simp [List.findIdx?_cons, h]
theorem where_self {D : List Df} {i : Nat} (hi : i < D.length) : ∃ j, whereN D D[i].name = some j ∧ j ≤ i := by
  cases h : whereN D D[i].name with
  | none => exact absurd rfl (whereN_none h _ (List.getElem_mem hi))
  | some j =>
    obtain ⟨hj, h1, h2⟩ := whereN_some h
    refine ⟨j, rfl, ?_⟩
    rcases Nat.lt_or_ge i j with hl | hl
    · exact absurd rfl (h2 i hl)
    exact hl
open Classical in
noncomputable def TD (D : List Df) : Nat → Tr := if h : (chkS D).2.2 = 0 then fun i => ((chkS_trees h).2.choose.getD i ([], .node ex0 .nil)).2 else fun _ => .node ex0 .nil
theorem trd_of {D : List Df} (h : (chkS D).2.2 = 0) : Trd D (TD D) := by
  have hs := (chkS_trees h).2.choose_spec
  have hT : TD D = fun i => ((chkS_trees h).2.choose.getD i ([], .node ex0 .nil)).2 := by unfold TD; rw [dif_pos h]
  obtain ⟨l, hl⟩ : ∃ l, l = (chkS_trees h).2.choose := ⟨_, rfl⟩
  rw [← hl] at hs hT
  obtain ⟨hw, hm⟩ := hs
  have hlen : D.length = l.length := by simpa using congrArg List.length hm
  have hat : ∀ i (hi : i < D.length), (D[i].name, D[i].ty) = ((l[i]'(by omega)).1, (l[i]'(by omega)).2.flat) := fun i hi => by
    have h1 : (D.map (fun d => (d.name, d.ty)))[i]? = (l.map (fun p => (p.1, p.2.flat)))[i]? := by rw [hm]
    rw [List.getElem?_map, List.getElem?_map, List.getElem?_eq_getElem hi, List.getElem?_eq_getElem (by omega)] at h1
    simpa using h1
  refine ⟨(chkS_trees h).1, fun i hi => ?_, fun d hd => ?_, fun i hi => ?_⟩
  · rw [hT]
    have h1 := hw _ (List.getElem_mem (show i < l.length by omega))
    simp only [List.getD_eq_getElem?_getD, List.getElem?_eq_getElem (show i < l.length by omega), Option.getD_some]
    exact h1.2
  · obtain ⟨i, hi, rfl⟩ := List.getElem_of_mem hd
    have h1 := hw _ (List.getElem_mem (show i < l.length by omega))
    have h2 := congrArg Prod.fst (hat i hi)
    rw [show D[i].name = (l[i]'(by omega)).1 from h2]
    exact h1.1
  rw [hT, tyD_at hi]
  have h2 := congrArg Prod.snd (hat i hi)
  simp only [List.getD_eq_getElem?_getD, List.getElem?_eq_getElem (show i < l.length by omega), Option.getD_some]
  exact h2.symm
noncomputable def resA (D : List Df) : Option (Int × Int) := if (chkS D).2.2 = 0 then resF D (TD D) else some (62, 0)
theorem resA_src {D : List Df} (h : ¬ (chkS D).2.2 = 0) : resA D = some (62, 0) := if_neg h
theorem resA_ok {D : List Df} (h : (chkS D).2.2 = 0) : resA D = resF D (TD D) := if_pos h
theorem resF_hit {D : List Df} {T : Nat → Tr} {i : Nat} {v : Int × Int} (hi : i < D.length) (hv : defF D T i = some v) (hb : ∀ j, j < i → defF D T j = none) : resF D T = some v := firstN_hit hi hv hb
theorem resF_miss {D : List Df} {T : Nat → Tr} (hb : ∀ j, j < D.length → defF D T j = none) : resF D T = none := firstN_miss hb
/-- what resolved answers -/
def PRes (D : List Df) (dv : Value) (V : Nat → Value) (w0 : World) (v : Value) (w' : World) : Prop :=
  (∃ er at_ : Int, v = .tuple #[.pointer none, .agg #[.int .i64 er, .int .i64 at_]] ∧ resA D = some (er, at_) ∧ ¬ er = 0 ∧ Ext w0 w') ∨ (resA D = none ∧ (chkS D).2.2 = 0 ∧ ∃ pb mb, v = .tuple #[.pointer (some ⟨pb, 0, none⟩), .agg #[.int .i64 0, .int .i64 0]] ∧ Bk w' pb mb D dv V ∧ Ext w0 w')
theorem nodeF_at {D : List Df} {dup : List Nat} {L : List Ex} {j : Nat} (hj : j < L.length) : nodeF D dup L j = if j ∈ dup then some (80, L[j].at_) else if L[j].kind = 9 ∧ whereN D L[j].name = none then some (81, L[j].at_) else none := by
  unfold nodeF
  rw [List.getD_eq_getElem?_getD, List.getElem?_eq_getElem hj, Option.getD_some]
theorem defF_twice {D : List Df} {T : Nat → Tr} {i : Nat} (hi : i < D.length) (h : ¬ whereN D D[i].name = some i) : defF D T i = some (80, D[i].at_) := by
  unfold defF
  rw [getD_at hi, if_neg h]
theorem defF_nodes {D : List Df} {T : Nat → Tr} {i : Nat} (hi : i < D.length) (h : whereN D D[i].name = some i) : defF D T i = firstN D[i].ty.length (nodeF D (dupT (T i) 0) D[i].ty) := by
  unfold defF
  rw [getD_at hi, if_pos h, tyD_at hi]

set_option maxHeartbeats 4000000 in
theorem resolved_spec (D : List Df) (dv : Value) (V : Nat → Value) (w0 : World) (hD : DefR w0 D dv V) (hlim : DOk D) : Ca Try.prog 78 #[.agg #[dv]] w0 (PRes D dv V w0) := by
  have hD00 := hD
  have hlen := hlim.len
  refine Ca.of Try.func78 Try.ntmps78 rfl rfl ?_
  refine W.seq ?_
  refine W.region ?_
  refine WL.c rfl (o_boxB rfl ?_)
  intro w1 hC1 hx1 hs1
  obtain ⟨b1, hb1⟩ : ∃ b, b = w0.heap.size := ⟨_, rfl⟩
  rw [← hb1] at hC1 ⊢
  replace hC1 : w1.heap[b1]? = some (.cells ([dv]).toArray 25 (0, 0)) := hC1
  have hx := hx1
  replace hD := hD.ext hx1
  refine WL.c rfl (o_ash (by first | exact (show _ = Value.pointer _ from rfl) | exact rfl) ?_)
  refine WL.c rfl (o_alB TI28 ?_)
  have hxq := hx
  intro wb hC3 hxb hsb
  replace hx := hx.tr hxb
  replace hD := hD.ext hxb
  replace hC1 := hxb.blk hC1 (fun h => h)
  obtain ⟨c3, hc3⟩ : ∃ c, c = w1.heap.size := ⟨_, rfl⟩
  rw [← hc3] at hC3 ⊢
  replace hC3 : wb.heap[c3]? = some (.cells #[.int .i64 0, .int .i64 0] 28 (0, 0)) := hC3
  have hz3 : w0.heap.size ≤ c3 := by rw [hc3]; exact hxq.size
  have hl1 := (Array.getElem?_eq_some_iff.1 hC1).1
  clear hxq hxb
  refine WL.nil ?_
  refine W.seq ?_
  refine W.seq ?_
  refine W.region ?_
  refine WL.c rfl (o_ldA TI25 rfl rfl (show Cells _ b1 0 [dv] from Cells.of hC1 0 _ (by simp)) rfl ?_)
  refine WL.c rfl (o_call Try.call28 (lc rfl ln) ((check_spec D dv V _ hD hlim.lim).mono ?_))
  rintro v23 w23 ⟨rfl, hx23⟩
  rw [show rs3 (chkS D) = .tuple #[.int .i64 ((chkS D).1 : Int), .int .i64 ((chkS D).2.1 : Int), .int .i64 ((chkS D).2.2 : Int)] from rfl]
  replace hx := hx.tr hx23
  replace hD := hD.ext hx23
  replace hC1 := hx23.blk hC1 (fun h => h)
  replace hC3 := hx23.blk hC3 (fun h => h)
  refine WL.c rfl (o_mvh (by first | exact (show _ = Value.tuple _ from rfl) | exact rfl) ?_)
  refine WL.c rfl (o_ext rfl rfl ?_)
  refine WL.c rfl (o_ext rfl rfl ?_)
  refine WL.c rfl (o_ext rfl rfl ?_)
  refine WL.c rfl (o_ash (show _ = Value.int _ _ from rfl) ?_)
  refine WL.c rfl (o_ash (show _ = Value.int _ _ from rfl) ?_)
  refine WL.c rfl (o_ash (show _ = Value.int _ _ from rfl) ?_)
  refine WL.nil ?_
  refine W.seq ?_
  refine W.region ?_
  refine WL.c rfl (o_mvh (show _ = Value.int _ _ from rfl) ?_)
  refine WL.c rfl (o_ne rfl rfl ?_)
  refine WL.nil ?_
  refine W.cond rfl (fun c28 => ?_) (fun c28 => ?_)
  · try simp only [cs8] at c28
    have hck : ¬ (chkS D).2.2 = 0 := by intro h; simp [h] at c28
    refine W.seq ?_
    refine W.region ?_
    refine WL.c rfl (o_call Try.call80 (lc rfl (lc rfl ln)) ((fault_spec 62 0 _).mono ?_))
    rintro v29 w29 ⟨rfl, hx29⟩
    replace hx := hx.tr hx29
    replace hD := hD.ext hx29
    replace hC1 := hx29.blk hC1 (fun h => h)
    replace hC3 := hx29.blk hC3 (fun h => h)
    refine WL.c rfl (o_ash (by first | exact (show _ = Value.pointer _ from rfl) | exact rfl) ?_)
    refine WL.u (o_stA TI28 rfl (show _ = Value.agg #[.int .i64 62, .int .i64 0] from rfl) rfl rfl hC3 rfl ?_)
    intro wz hCz hoz hsz
    replace hx := hx.trans' hoz (fun _ h => h) (fun b hb he => by omega)
    refine WL.nil ?_
    refine W.ret ?_
    refine retTC rfl TI28 rfl rfl rfl (show Cells _ c3 0 [.int .i64 62, .int .i64 0] from Cells.of hCz 0 _ (by simp)) rfl ?_
    exact .inl ⟨62, 0, rfl, resA_src hck, by decide, hx⟩
  try simp only [cs8] at c28
  have hck : (chkS D).2.2 = 0 := by simpa using c28
  have hT := trd_of hck
  refine W.skip ?_
  refine W.seq ?_
  refine W.region ?_
  refine WL.c rfl (o_mkM ?_)
  have hMF := MapIs.made Try.prog 9 3 enS w23
  have hxm : Ext w23 (w23.alloc (.map #[] 0)) := Only.alloc w23 _
  obtain ⟨fb, hfb⟩ : ∃ b, b = w23.heap.size := ⟨_, rfl⟩
  have hzfb : w0.heap.size ≤ fb := by rw [hfb]; exact hx.size
  rw [← hfb] at hMF ⊢
  generalize w23.alloc (.map #[] 0) = wfb at hMF hxm ⊢
  replace hx := hx.tr hxm
  replace hD := hD.ext hxm
  replace hC1 := hxm.blk hC1 (fun h => h)
  replace hC3 := hxm.blk hC3 (fun h => h)
  clear hxm
  have h256 := hT.n
  refine WL.c rfl (o_as ?_)
  refine WL.nil ?_
  refine W.seq ?_
  refine W.seq ?_
  refine W.region ?_
  refine WL.c rfl (o_fa 0 TI25 rfl TI23 rfl rfl ?_)
  refine WL.c rfl (o_ld TI23 rfl rfl (cell_of hC1 rfl) ?_)
  refine WL.c rfl (o_lenR TI23 rfl hD.row ?_)
  refine WL.c rfl (o_mvh (show _ = Value.int _ _ from rfl) ?_)
  refine WL.nil ?_
  refine W.block ?_
  refine W.loop (fun e w => ∃ k : Nat, k ≤ D.length ∧ e 1 = .pointer (some ⟨b1, 0, none⟩) ∧ e 3 = .pointer (some ⟨c3, 0, none⟩) ∧ e 7 = .map (some fb) ∧ e 32 = dv ∧ e 33 = .int .i64 (D.length : Int) ∧ e 34 = .int .i64 (k : Int) ∧ DefR w D dv V ∧ w.heap[b1]? = some (.cells #[dv] 25 (0, 0)) ∧ w.heap[c3]? = some (.cells #[.int .i64 0, .int .i64 0] 28 (0, 0)) ∧ MapIs Try.prog 9 3 enS w fb k (fun s => (whereN (D.take k) s).map Int.ofNat) ∧ Ext w0 w) (fun e w => D.length - (intOf (e 34)).toNat) ?_ ?_
  · exact ⟨0, Nat.zero_le _, rfl, rfl, rfl, rfl, rfl, rfl, hD, hC1, hC3, hMF, hx⟩
  rintro e w ⟨k, hk, h1, h3, h7, h32, h33, h34, hD, hC1, hC3, hMF, hx⟩
  have hm34 := h34
  refine W.seq ?_
  refine W.region ?_
  refine WL.c rfl (o_lt h34 h33 ?_)
  refine WL.nil ?_
  refine W.seq ?_
  refine W.cond rfl (fun c35 => ?_) (fun c35 => ?_)
  · try simp only [cs8] at c35
    have hk1 : k < D.length := by omega
    obtain ⟨tb, to_, tc, rfl, htc, hty⟩ := hD.atk hk1
    have hnm := hlim.nm _ (List.getElem_mem hk1)
    refine W.skip ?_
    refine W.seq ?_
    refine W.block ?_
    refine W.seq ?_
    refine W.region ?_
    refine WL.c rfl (o_mvh h34 ?_)
    refine WL.c rfl (o_ixB TI23 TI39 h32 h34 (by omega) ?_)
    refine WL.c rfl (o_ldA TI39 rfl rfl htc rfl ?_)
    refine WL.c rfl (o_alB TI39 ?_)
    intro wa hCa hxa hsa
    refine WL.c rfl (o_ash (show _ = Value.int _ _ from rfl) ?_)
    refine WL.u (o_stA TI39 rfl (show _ = Value.agg (dcell D[k] (V k)).toArray from rfl) rfl (by simp only [dcell, List.toArray, Array.toList, List.all_cons, List.all_nil, sl_one1 hty]; rfl) hCa rfl ?_)
    intro wb9 hC9 hob hsb
    have hxb := Ext.own hxa (Nat.le_refl _) hob
    obtain ⟨b9, hb9⟩ : ∃ b, b = w.heap.size := ⟨_, rfl⟩
    rw [← hb9] at hC9 ⊢
    clear hCa hxa hsa hob hsb
    replace hx := hx.tr hxb
    replace hD := hD.ext hxb
    replace hC1 := hxb.blk hC1 (fun h => h)
    replace hC3 := hxb.blk hC3 (fun h => h)
    replace hMF := hMF.ext hxb
    replace hty := hty.ext hxb
    clear hxb
    refine WL.nil ?_
    refine W.seq ?_
    refine W.region ?_
    refine WL.c rfl (o_mvh h7 ?_)
    refine WL.c rfl (o_fa 0 TI39 rfl TI9 rfl rfl ?_)
    refine WL.c rfl (o_ld TI9 rfl rfl (cell_of hC9 rfl) ?_)
    refine WL.c rfl (o_lkO MT88 rfl hMF rfl (keyS Try.underlying9 (by rw [maxLen_eq]; omega)) ?_)
    refine WL.c rfl (o_mvh (by first | exact (show _ = Value.tuple _ from rfl) | exact rfl) ?_)
    refine WL.c rfl (o_ext rfl rfl ?_)
    refine WL.c rfl (o_ext rfl rfl ?_)
    refine WL.c rfl (o_ash (show _ = Value.int _ _ from rfl) ?_)
    refine WL.c rfl (o_ash (show _ = Value.bool _ from rfl) ?_)
    refine WL.nil ?_
    refine W.seq ?_
    refine W.region ?_
    refine WL.c rfl (o_mvh (show _ = Value.bool _ from rfl) ?_)
    refine WL.c rfl (o_not' rfl ?_)
    refine WL.nil ?_
    refine W.cond rfl (fun c47 => ?_) (fun c47 => ?_)
    · try simp only [cs8] at c47
      refine W.region ?_
      refine WL.c rfl (o_mvh h7 ?_)
      refine WL.c rfl (o_fa 0 TI39 rfl TI9 rfl rfl ?_)
      refine WL.c rfl (o_ld TI9 rfl rfl (cell_of hC9 rfl) ?_)
      refine WL.c rfl (o_mvh (show _ = Value.int _ _ from rfl) ?_)
      refine WL.u (o_mu enS_inj MT88 rfl hMF rfl (keyS Try.underlying9 (by rw [maxLen_eq]; omega)) rfl (wf_i64 (by omega)) (by rw [maxLen_eq]; omega) ?_)
      intro wq hMq hoq hsq
      replace hC1 := hoq.blk hC1 (map_blk_ne hMF hC1)
      replace hC3 := hoq.blk hC3 (map_blk_ne hMF hC3)
      replace hx := hx.trans' hoq (fun _ h => h) (fun b hb he => by omega)
      replace hD := hD00.ext hx
      have hno : whereN (D.take k) D[k].name = none := by simpa using c47
      have hge : (fun c => if c = D[k].name then some (k : Int) else (whereN (D.take k) c).map Int.ofNat) = fun s => (whereN (D.take (k + 1)) s).map Int.ofNat := by
        funext s
        rw [where_take hk1]
        by_cases h : s = D[k].name
        · subst h; rw [hno]; simp
        have h2 : ¬ D[k].name = s := fun e => h e.symm
        simp [h, h2]
      rw [hge] at hMq
      clear hMF
      have hMF := hMq
      clear hMq
      refine WL.nil ?_
      refine W.region ?_
      refine WL.c rfl (o_addi h34 rfl (by omega) ?_)
      refine WL.c rfl (o_mvh (show _ = Value.int _ _ from rfl) ?_)
      refine WL.nil ?_
      refine ⟨⟨k + 1, by omega, h1, h3, h7, h32, h33, rfl, hD, hC1, hC3, hMF, hx⟩, ?_⟩
      show D.length - ((k : Int) + 1).toNat < _
      rw [hm34]; simp [intOf]; omega
    try simp only [cs8] at c47
    replace hMF := hMF.mono (Nat.le_succ k)
    have hge : (fun s => (whereN (D.take k) s).map Int.ofNat) = fun s => (whereN (D.take (k + 1)) s).map Int.ofNat := by
      funext s
      rw [where_take hk1]
      by_cases h : D[k].name = s
      · have hs : (whereN (D.take k) s).isSome = true := by rw [← h]; simpa using c47
        cases hw : whereN (D.take k) s with
        | none => rw [hw] at hs; cases hs
        | some j => rfl
      simp [h]
    rw [hge] at hMF
    refine W.skip ?_
    refine W.region ?_
    refine WL.c rfl (o_addi h34 rfl (by omega) ?_)
    refine WL.c rfl (o_mvh (show _ = Value.int _ _ from rfl) ?_)
    refine WL.nil ?_
    refine ⟨⟨k + 1, by omega, h1, h3, h7, h32, h33, rfl, hD, hC1, hC3, hMF, hx⟩, ?_⟩
    show D.length - ((k : Int) + 1).toNat < _
    rw [hm34]; simp [intOf]; omega
  try simp only [cs8] at c35
  have hk1 : k = D.length := by omega
  rw [hk1, List.take_length] at hMF
  refine W.exit ?_
  refine W.seq ?_
  refine W.seq ?_
  refine W.region ?_
  refine WL.c rfl (o_fa 0 TI25 rfl TI23 rfl h1 ?_)
  refine WL.c rfl (o_ld TI23 rfl rfl (cell_of hC1 rfl) ?_)
  refine WL.c rfl (o_lenR TI23 rfl hD.row ?_)
  refine WL.c rfl (o_mvh (show _ = Value.int _ _ from rfl) ?_)
  refine WL.nil ?_
  refine W.block ?_
  refine W.loop (fun e w => ∃ i : Nat, i ≤ D.length ∧ e 1 = .pointer (some ⟨b1, 0, none⟩) ∧ e 3 = .pointer (some ⟨c3, 0, none⟩) ∧ e 7 = .map (some fb) ∧ e 54 = dv ∧ e 55 = .int .i64 (D.length : Int) ∧ e 56 = .int .i64 (i : Int) ∧ (∀ j, j < i → defF D (TD D) j = none) ∧ DefR w D dv V ∧ w.heap[b1]? = some (.cells #[dv] 25 (0, 0)) ∧ w.heap[c3]? = some (.cells #[.int .i64 0, .int .i64 0] 28 (0, 0)) ∧ MapIs Try.prog 9 3 enS w fb D.length (fun s => (whereN D s).map Int.ofNat) ∧ Ext w0 w) (fun e w => D.length - (intOf (e 56)).toNat) ?_ ?_
  · exact ⟨0, Nat.zero_le _, h1, h3, h7, rfl, rfl, rfl, fun j hj => by omega, hD, hC1, hC3, hMF, hx⟩
  rintro e w ⟨i, hi, h1, h3, h7, h54, h55, h56, hno, hD, hC1, hC3, hMF, hx⟩
  have hm56 := h56
  refine W.seq ?_
  refine W.region ?_
  refine WL.c rfl (o_lt h56 h55 ?_)
  refine WL.nil ?_
  refine W.seq ?_
  refine W.cond rfl (fun c57 => ?_) (fun c57 => ?_)
  · try simp only [cs8] at c57
    have hi1 : i < D.length := by omega
    obtain ⟨tb, to_, tc, rfl, htc, hty⟩ := hD.atk hi1
    have hnm := hlim.nm _ (List.getElem_mem hi1)
    have hex := hlim.ex _ (List.getElem_mem hi1)
    have htl := hlim.ty _ (List.getElem_mem hi1)
    obtain ⟨js, hjs, hji⟩ := where_self hi1
    refine W.skip ?_
    refine W.seq ?_
    refine W.block ?_
    refine W.seq ?_
    refine W.region ?_
    refine WL.c rfl (o_mvh h56 ?_)
    refine WL.c rfl (o_ixB TI23 TI39 h54 h56 (by omega) ?_)
    refine WL.c rfl (o_ldA TI39 rfl rfl htc rfl ?_)
    refine WL.c rfl (o_alB TI39 ?_)
    intro wa hCa hxa hsa
    refine WL.c rfl (o_ash (show _ = Value.int _ _ from rfl) ?_)
    refine WL.u (o_stA TI39 rfl (show _ = Value.agg (dcell D[i] (V i)).toArray from rfl) rfl (by simp only [dcell, List.toArray, Array.toList, List.all_cons, List.all_nil, sl_one1 hty]; rfl) hCa rfl ?_)
    intro wb13 hC13 hob hsb
    have hxb := Ext.own hxa (Nat.le_refl _) hob
    obtain ⟨b13, hb13⟩ : ∃ b, b = w.heap.size := ⟨_, rfl⟩
    rw [← hb13] at hC13 ⊢
    clear hCa hxa hsa hob hsb
    replace hx := hx.tr hxb
    replace hD := hD.ext hxb
    replace hC1 := hxb.blk hC1 (fun h => h)
    replace hC3 := hxb.blk hC3 (fun h => h)
    replace hMF := hMF.ext hxb
    replace hty := hty.ext hxb
    clear hxb
    refine WL.nil ?_
    refine W.seq ?_
    refine W.seq ?_
    refine W.region ?_
    refine WL.c rfl (o_mvh h7 ?_)
    refine WL.c rfl (o_fa 0 TI39 rfl TI9 rfl rfl ?_)
    refine WL.c rfl (o_ld TI9 rfl rfl (cell_of hC13 rfl) ?_)
    refine WL.c rfl (o_lk MT88 rfl hMF rfl (keyS Try.underlying9 (by rw [maxLen_eq]; omega)) ?_)
    refine WL.c rfl (o_mvh (show _ = Value.int _ _ from rfl) ?_)
    refine WL.c rfl (o_ne rfl rfl ?_)
    refine WL.nil ?_
    refine W.cond rfl (fun c66 => ?_) (fun c66 => ?_)
    · try simp only [cs8] at c66
      have hwi : ¬ whereN D D[i].name = some i := by intro h; simp [h] at c66
      refine W.seq ?_
      refine W.region ?_
      refine WL.c rfl (o_fa 1 TI39 rfl TI3 rfl rfl ?_)
      refine WL.c rfl (o_ld TI3 rfl rfl (cell_of hC13 rfl) ?_)
      refine WL.c rfl (o_call Try.call80 (lc rfl (lc rfl ln)) ((fault_spec 80 D[i].at_ _).mono ?_))
      rintro v69 w69 ⟨rfl, hx69⟩
      replace hx := hx.tr hx69
      replace hD := hD.ext hx69
      replace hC1 := hx69.blk hC1 (fun h => h)
      replace hC3 := hx69.blk hC3 (fun h => h)
      replace hMF := hMF.ext hx69
      refine WL.c rfl (o_ash (by first | exact (show _ = Value.pointer _ from rfl) | exact rfl) ?_)
      refine WL.u (o_stA TI28 h3 (show _ = Value.agg #[.int .i64 80, .int .i64 D[i].at_] from rfl) rfl rfl hC3 rfl ?_)
      intro wz hCz hoz hsz
      replace hx := hx.trans' hoz (fun _ h => h) (fun b hb he => by omega)
      refine WL.nil ?_
      refine W.ret ?_
      refine retTC rfl TI28 rfl rfl h3 (show Cells _ c3 0 [.int .i64 80, .int .i64 D[i].at_] from Cells.of hCz 0 _ (by simp)) rfl ?_
      exact .inl ⟨80, D[i].at_, rfl, (by rw [resA_ok hck]; exact resF_hit hi1 (defF_twice hi1 hwi) hno), by decide, hx⟩
    try simp only [cs8] at c66
    have hwi : whereN D D[i].name = some i := by rw [hjs] at c66 ⊢; simp at c66; rw [show js = i by omega]
    refine W.skip ?_
    refine W.seq ?_
    have hfl := hMF.lt
    refine W.region ?_
    refine WL.c rfl (o_mkM ?_)
    have hMA := MapIs.made Try.prog 3 3 enI wb13
    have hxm : Ext wb13 (wb13.alloc (.map #[] 0)) := Only.alloc wb13 _
    obtain ⟨ab, hab⟩ : ∃ b, b = wb13.heap.size := ⟨_, rfl⟩
    have hzab : w0.heap.size ≤ ab := by rw [hab]; exact hx.size
    rw [← hab] at hMA ⊢
    generalize wb13.alloc (.map #[] 0) = wab at hMA hxm ⊢
    replace hx := hx.tr hxm
    replace hD := hD.ext hxm
    replace hC1 := hxm.blk hC1 (fun h => h)
    replace hC3 := hxm.blk hC3 (fun h => h)
    replace hMF := hMF.ext hxm
    replace hC13 := hxm.blk hC13 (fun h => h)
    replace hty := hty.ext hxm
    clear hxm
    refine WL.c rfl (o_as ?_)
    refine WL.nil ?_
    refine W.seq ?_
    refine W.region ?_
    refine WL.c rfl (o_fa 2 TI39 rfl TI37 rfl rfl ?_)
    refine WL.c rfl (o_ld TI37 rfl rfl (cell_of hC13 rfl) ?_)
    refine WL.c rfl (o_mv ?_)
    refine WL.c rfl (o_call Try.call94 (lc rfl (lc rfl (lc rfl ln))) ((twice_all _ (TD D i) (Nat.le_refl _) D[i].ty [] (V i) 0 ab 0 (fun _ => none) 0 0 _ (hT.wf i hi1) (by rw [hT.fl i hi1, tyD_at hi1, List.append_nil]; rfl) hty htl hMA (by rw [hT.fl i hi1, tyD_at hi1]; omega)).mono ?_))
    rintro v74 w74 ⟨rfl, ⟨ga, na, hna, hMA2, hga⟩, hoq⟩
    replace hC1 := hoq.blk hC1 (map_blk_ne hMA hC1)
    replace hC3 := hoq.blk hC3 (map_blk_ne hMA hC3)
    replace hC13 := hoq.blk hC13 (map_blk_ne hMA hC13)
    replace hMF := hMF.only hoq (fun h => by omega)
    replace hx := hx.trans' hoq (fun _ h => h) (fun b hb he => by omega)
    replace hD := hD00.ext hx
    replace hty := hD.tys i hi1
    rw [tyD_at hi1] at hty
    clear hMA
    have hMA := hMA2
    clear hMA2 hoq
    have hdup : ∀ q : Nat, (ga (q : Int)).isSome = decide (q ∈ dupT (TD D i) 0) := fun q => by
      rw [Bool.eq_iff_iff, hga, decide_eq_true_iff]
      constructor
      · rintro (h | ⟨p, hp, hq⟩)
        · cases h
        rw [show q = p by omega]; exact hp
      exact fun h => .inr ⟨q, h, rfl⟩
    refine WL.nil ?_
    refine W.seq ?_
    refine W.region ?_
    refine WL.c rfl (o_fa 2 TI39 rfl TI37 rfl rfl ?_)
    refine WL.c rfl (o_ld TI37 rfl rfl (cell_of hC13 rfl) ?_)
    refine WL.c rfl (o_lenR TI37 rfl hty ?_)
    refine WL.c rfl (o_mvh (show _ = Value.int _ _ from rfl) ?_)
    refine WL.nil ?_
    refine W.block ?_
    refine W.loop (fun e w => ∃ q : Nat, q ≤ D[i].ty.length ∧ e 1 = .pointer (some ⟨b1, 0, none⟩) ∧ e 3 = .pointer (some ⟨c3, 0, none⟩) ∧ e 7 = .map (some fb) ∧ e 14 = .map (some ab) ∧ e 54 = .slice (some ⟨tb, to_, none⟩) D.length tc ∧ e 55 = .int .i64 (D.length : Int) ∧ e 56 = .int .i64 (i : Int) ∧ e 76 = V i ∧ e 77 = .int .i64 (D[i].ty.length : Int) ∧ e 78 = .int .i64 (q : Int) ∧ (∀ j, j < q → nodeF D (dupT (TD D i) 0) D[i].ty j = none) ∧ MapIs Try.prog 3 3 enI w ab na ga ∧ Sl w 7 (V i) D[i].ty.length (exs D[i].ty) ∧ DefR w D (.slice (some ⟨tb, to_, none⟩) D.length tc) V ∧ w.heap[b1]? = some (.cells #[(.slice (some ⟨tb, to_, none⟩) D.length tc)] 25 (0, 0)) ∧ w.heap[c3]? = some (.cells #[.int .i64 0, .int .i64 0] 28 (0, 0)) ∧ MapIs Try.prog 9 3 enS w fb D.length (fun s => (whereN D s).map Int.ofNat) ∧ Ext w0 w) (fun e w => D[i].ty.length - (intOf (e 78)).toNat) ?_ ?_
    · exact ⟨0, Nat.zero_le _, h1, h3, h7, rfl, h54, h55, h56, rfl, rfl, rfl, fun j hj => by omega, hMA, hty, hD, hC1, hC3, hMF, hx⟩
    rintro e w ⟨q, hq, h1, h3, h7, h14, h54, h55, h56, h76, h77, h78, hnn, hMA, hty, hD, hC1, hC3, hMF, hx⟩
    have hm78 := h78
    refine W.seq ?_
    refine W.region ?_
    refine WL.c rfl (o_lt h78 h77 ?_)
    refine WL.nil ?_
    refine W.seq ?_
    refine W.cond rfl (fun c79 => ?_) (fun c79 => ?_)
    · try simp only [cs8] at c79
      have hq1 : q < D[i].ty.length := by omega
      obtain ⟨ub, uo, uc, hV1, huc⟩ := Sl.exq hty hq1
      rw [hV1] at h76
      have hnk := (hex _ (List.getElem_mem hq1)).1
      have hnf := nodeF_at (D := D) (dup := dupT (TD D i) 0) hq1
      refine W.skip ?_
      refine W.seq ?_
      refine W.block ?_
      refine W.seq ?_
      refine W.region ?_
      refine WL.c rfl (o_mvh h78 ?_)
      refine WL.c rfl (o_ixB TI37 TI41 h76 h78 (by omega) ?_)
      refine WL.c rfl (o_ldA TI41 rfl rfl huc rfl ?_)
      refine WL.c rfl (o_alB TI41 ?_)
      intro wa hCa hxa hsa
      refine WL.c rfl (o_ash (show _ = Value.int _ _ from rfl) ?_)
      refine WL.u (o_stA TI41 rfl (show _ = Value.agg (exV D[i].ty[q]).toArray from rfl) rfl rfl hCa rfl ?_)
      intro wb16 hC16 hob hsb
      have hxb := Ext.own hxa (Nat.le_refl _) hob
      obtain ⟨b16, hb16⟩ : ∃ b, b = w.heap.size := ⟨_, rfl⟩
      rw [← hb16] at hC16 ⊢
      clear hCa hxa hsa hob hsb
      replace hx := hx.tr hxb
      replace hD := hD.ext hxb
      replace hC1 := hxb.blk hC1 (fun h => h)
      replace hC3 := hxb.blk hC3 (fun h => h)
      replace hMF := hMF.ext hxb
      replace hty := hty.ext hxb
      replace hMA := hMA.ext hxb
      clear hxb
      refine WL.nil ?_
      refine W.seq ?_
      refine W.region ?_
      refine WL.c rfl (o_mvh h14 ?_)
      refine WL.c rfl (o_mvh (show _ = Value.int _ _ from rfl) ?_)
      refine WL.c rfl (o_lkO MT141 rfl hMA rfl (keyI Try.underlying3 (by omega)) ?_)
      refine WL.c rfl (o_mvh (by first | exact (show _ = Value.tuple _ from rfl) | exact rfl) ?_)
      refine WL.c rfl (o_ext rfl rfl ?_)
      refine WL.c rfl (o_ext rfl rfl ?_)
      refine WL.c rfl (o_ash (show _ = Value.int _ _ from rfl) ?_)
      refine WL.c rfl (o_ash (show _ = Value.bool _ from rfl) ?_)
      refine WL.nil ?_
      refine W.seq ?_
      refine W.region ?_
      refine WL.c rfl (o_mvh h7 ?_)
      refine WL.c rfl (o_fa 2 TI41 rfl TI9 rfl rfl ?_)
      refine WL.c rfl (o_ld TI9 rfl rfl (cell_of hC16 rfl) ?_)
      refine WL.c rfl (o_lkO MT88 rfl hMF rfl (keyS Try.underlying9 (by rw [maxLen_eq]; omega)) ?_)
      refine WL.c rfl (o_mvh (by first | exact (show _ = Value.tuple _ from rfl) | exact rfl) ?_)
      refine WL.c rfl (o_ext rfl rfl ?_)
      refine WL.c rfl (o_ext rfl rfl ?_)
      refine WL.c rfl (o_ash (show _ = Value.int _ _ from rfl) ?_)
      refine WL.c rfl (o_ash (show _ = Value.bool _ from rfl) ?_)
      refine WL.nil ?_
      refine W.block ?_
      refine W.seq ?_
      refine W.region ?_
      refine WL.c rfl (o_mvh (show _ = Value.bool _ from rfl) ?_)
      refine WL.c rfl (o_ash (show _ = Value.bool _ from rfl) ?_)
      refine WL.nil ?_
      refine W.cond rfl (fun c96 => ?_) (fun c96 => ?_)
      · try simp only [cs8] at c96
        rw [hdup q] at c96
        replace c96 := of_decide_eq_true c96
        refine W.seq ?_
        refine W.region ?_
        refine WL.c rfl (o_fa 6 TI41 rfl TI3 rfl rfl ?_)
        refine WL.c rfl (o_ld TI3 rfl rfl (cell_of hC16 rfl) ?_)
        refine WL.c rfl (o_call Try.call80 (lc rfl (lc rfl ln)) ((fault_spec 80 D[i].ty[q].at_ _).mono ?_))
        rintro v100 w100 ⟨rfl, hx100⟩
        replace hx := hx.tr hx100
        replace hD := hD.ext hx100
        replace hC1 := hx100.blk hC1 (fun h => h)
        replace hC3 := hx100.blk hC3 (fun h => h)
        replace hMF := hMF.ext hx100
        refine WL.c rfl (o_ash (by first | exact (show _ = Value.pointer _ from rfl) | exact rfl) ?_)
        refine WL.u (o_stA TI28 h3 (show _ = Value.agg #[.int .i64 80, .int .i64 D[i].ty[q].at_] from rfl) rfl rfl hC3 rfl ?_)
        intro wz hCz hoz hsz
        replace hx := hx.trans' hoz (fun _ h => h) (fun b hb he => by omega)
        refine WL.nil ?_
        refine W.ret ?_
        refine retTC rfl TI28 rfl rfl h3 (show Cells _ c3 0 [.int .i64 80, .int .i64 D[i].ty[q].at_] from Cells.of hCz 0 _ (by simp)) rfl ?_
        exact .inl ⟨80, D[i].ty[q].at_, rfl, (by rw [resA_ok hck]; exact resF_hit hi1 (by rw [defF_nodes hi1 hwi]; exact firstN_hit hq1 (by rw [hnf, if_pos c96]) hnn) hno), by decide, hx⟩
      try simp only [cs8] at c96
      rw [hdup q] at c96
      replace c96 := of_decide_eq_false c96
      refine W.seq ?_
      by_cases hk9 : D[i].ty[q].kind = 9
      · skip
        skip
        refine W.region ?_
        refine WL.c rfl (o_fa 0 TI41 rfl TI3 rfl rfl ?_)
        refine WL.c rfl (o_ld TI3 rfl rfl (cell_of hC16 rfl) ?_)
        refine WL.c rfl (o_eq rfl rfl ?_)
        refine WL.c rfl (o_mvh (show _ = Value.bool _ from rfl) ?_)
        refine WL.g rfl (by simp [hk9]) rfl (o_mvh (show _ = Value.bool _ from rfl) ?_)
        refine WL.g rfl (by simp [hk9]) rfl (o_not' rfl ?_)
        refine WL.c rfl (o_pickA rfl rfl ?_)
        refine WL.c rfl (o_ash (show _ = Value.bool _ from rfl) ?_)
        refine WL.nil ?_
        refine W.cond rfl (fun c101 => ?_) (fun c101 => ?_)
        · try simp only [cs8] at c101
          have hwn : whereN D D[i].ty[q].name = none := by simpa [hk9] using c101
          refine W.seq ?_
          refine W.region ?_
          refine WL.c rfl (o_fa 6 TI41 rfl TI3 rfl rfl ?_)
          refine WL.c rfl (o_ld TI3 rfl rfl (cell_of hC16 rfl) ?_)
          refine WL.c rfl (o_call Try.call80 (lc rfl (lc rfl ln)) ((fault_spec 81 D[i].ty[q].at_ _).mono ?_))
          rintro v111 w111 ⟨rfl, hx111⟩
          replace hx := hx.tr hx111
          replace hD := hD.ext hx111
          replace hC1 := hx111.blk hC1 (fun h => h)
          replace hC3 := hx111.blk hC3 (fun h => h)
          replace hMF := hMF.ext hx111
          refine WL.c rfl (o_ash (by first | exact (show _ = Value.pointer _ from rfl) | exact rfl) ?_)
          refine WL.u (o_stA TI28 h3 (show _ = Value.agg #[.int .i64 81, .int .i64 D[i].ty[q].at_] from rfl) rfl rfl hC3 rfl ?_)
          intro wz hCz hoz hsz
          replace hx := hx.trans' hoz (fun _ h => h) (fun b hb he => by omega)
          refine WL.nil ?_
          refine W.ret ?_
          refine retTC rfl TI28 rfl rfl h3 (show Cells _ c3 0 [.int .i64 81, .int .i64 D[i].ty[q].at_] from Cells.of hCz 0 _ (by simp)) rfl ?_
          exact .inl ⟨81, D[i].ty[q].at_, rfl, (by rw [resA_ok hck]; exact resF_hit hi1 (by rw [defF_nodes hi1 hwi]; exact firstN_hit hq1 (by rw [hnf, if_neg c96, if_pos ⟨hk9, hwn⟩]) hnn) hno), by decide, hx⟩
        try simp only [cs8] at c101
        have hwn : ¬ whereN D D[i].ty[q].name = none := by
          have h1 := c101
          simp [hk9] at h1
          intro h
          rw [h] at h1
          simp at h1
        refine W.skip ?_
        have hnq : nodeF D (dupT (TD D i) 0) D[i].ty q = none := by
          rw [hnf, if_neg c96, if_neg (by first | exact fun h => hwn h.2 | exact fun h => hk9 h.1)]
        refine W.region ?_
        refine WL.c rfl (o_addi h78 rfl (by omega) ?_)
        refine WL.c rfl (o_mvh (show _ = Value.int _ _ from rfl) ?_)
        refine WL.nil ?_
        refine ⟨⟨q + 1, by omega, h1, h3, h7, h14, h54, h55, h56, h76.trans hV1.symm, h77, rfl, fun j hj => ?_, hMA, hty, hD, hC1, hC3, hMF, hx⟩, ?_⟩
        · rcases Nat.lt_or_ge j q with h | h
          · exact hnn j h
          rw [show j = q by omega]; exact hnq
        show D[i].ty.length - ((q : Int) + 1).toNat < _
        rw [hm78]; simp [intOf]; omega
      skip
      skip
      refine W.region ?_
      refine WL.c rfl (o_fa 0 TI41 rfl TI3 rfl rfl ?_)
      refine WL.c rfl (o_ld TI3 rfl rfl (cell_of hC16 rfl) ?_)
      refine WL.c rfl (o_eq rfl rfl ?_)
      refine WL.c rfl (o_mvh (show _ = Value.bool _ from rfl) ?_)
      refine WL.s rfl (by simp [hk9]) rfl ?_
      refine WL.s rfl (by simp [hk9]) rfl ?_
      refine WL.c rfl (o_pickF rfl (by simp [hk9]) ?_)
      refine WL.c rfl (o_ash (show _ = Value.bool _ from rfl) ?_)
      refine WL.nil ?_
      refine W.condF' rfl (rfl) ?_
      refine W.skip ?_
      have hnq : nodeF D (dupT (TD D i) 0) D[i].ty q = none := by
        rw [hnf, if_neg c96, if_neg (by first | exact fun h => hwn h.2 | exact fun h => hk9 h.1)]
      refine W.region ?_
      refine WL.c rfl (o_addi h78 rfl (by omega) ?_)
      refine WL.c rfl (o_mvh (show _ = Value.int _ _ from rfl) ?_)
      refine WL.nil ?_
      refine ⟨⟨q + 1, by omega, h1, h3, h7, h14, h54, h55, h56, h76.trans hV1.symm, h77, rfl, fun j hj => ?_, hMA, hty, hD, hC1, hC3, hMF, hx⟩, ?_⟩
      · rcases Nat.lt_or_ge j q with h | h
        · exact hnn j h
        rw [show j = q by omega]; exact hnq
      show D[i].ty.length - ((q : Int) + 1).toNat < _
      rw [hm78]; simp [intOf]; omega
    try simp only [cs8] at c79
    have hq1 : q = D[i].ty.length := by omega
    rw [hq1] at hnn
    refine W.exit ?_
    refine W.region ?_
    refine WL.c rfl (o_addi h56 rfl (by omega) ?_)
    refine WL.c rfl (o_mvh (show _ = Value.int _ _ from rfl) ?_)
    refine WL.nil ?_
    refine ⟨⟨i + 1, by omega, h1, h3, h7, h54, h55, rfl, fun j hj => ?_, hD, hC1, hC3, hMF, hx⟩, ?_⟩
    · rcases Nat.lt_or_ge j i with h | h
      · exact hno j h
      rw [show j = i by omega, defF_nodes hi1 hwi]; exact firstN_miss hnn
    show D.length - ((i : Int) + 1).toNat < _
    rw [hm56]; simp [intOf]; omega
  try simp only [cs8] at c57
  have hi1 : i = D.length := by omega
  have hnone : resA D = none := by rw [resA_ok hck]; exact resF_miss (fun j hj => hno j (by omega))
  refine W.exit ?_
  refine W.seq ?_
  have hdv1 := sl_one1 hD.row
  refine W.region ?_
  refine WL.c rfl (o_fa 0 TI25 rfl TI23 rfl h1 ?_)
  refine WL.c rfl (o_ld TI23 rfl rfl (cell_of hC1 rfl) ?_)
  refine WL.c rfl (o_mvh h7 ?_)
  refine WL.c rfl (o_bldC (cs := [dv, .map (some fb)]) TI136 (Sizes.cons TI23 (Sizes.cons TI88 Sizes.nil)) rfl (lcp (show _ = dv from rfl) (lcp (show _ = Value.map (some fb) from rfl) lnp)) (by simp only [List.all_cons, List.all_nil, hdv1]; rfl) rfl ?_)
  refine WL.c rfl (o_boxB rfl ?_)
  have hxq := hx
  have hC3w := hC3
  intro wp hCp hxp hsp
  replace hx := hx.tr hxp
  replace hD := hD.ext hxp
  replace hC1 := hxp.blk hC1 (fun h => h)
  replace hC3 := hxp.blk hC3 (fun h => h)
  replace hMF := hMF.ext hxp
  obtain ⟨pb, hpb⟩ : ∃ b, b = w.heap.size := ⟨_, rfl⟩
  rw [← hpb] at hCp ⊢
  have hzp : w0.heap.size ≤ pb := by rw [hpb]; exact hxq.size
  have hlp := (Array.getElem?_eq_some_iff.1 hC3w).1
  refine WL.c rfl (o_bldC (cs := [(.int .i64 0), (.int .i64 0)]) TI28 (Sizes.cons TI26 (Sizes.cons TI3 Sizes.nil)) rfl lnp rfl rfl ?_)
  refine WL.c rfl (o_ash (by first | exact (show _ = Value.pointer _ from rfl) | exact rfl) ?_)
  refine WL.u (o_stA TI28 h3 (show _ = Value.agg #[.int .i64 0, .int .i64 0] from rfl) rfl rfl hC3 rfl ?_)
  intro wz hCz hoz hsz
  replace hx := hx.trans' hoz (fun _ h => h) (fun b hb he => by omega)
  refine WL.nil ?_
  refine W.ret ?_
  refine retTC rfl TI28 rfl (show _ = Value.pointer (some ⟨pb, 0, none⟩) from rfl) h3 (show Cells _ c3 0 [.int .i64 0, .int .i64 0] from Cells.of hCz 0 _ (by simp)) rfl ?_
  exact .inr ⟨hnone, hck, pb, fb, rfl, ⟨hoz.blk hCp (by omega), hD00.ext hx, hMF.only hoz (fun h => map_blk_ne hMF hC3 h.symm)⟩, hx⟩
end Go.Proofs.Ytpbflfgigfdohaa

set_option linter.unusedSimpArgs false
set_option linter.unusedVariables false
set_option maxRecDepth 100000
namespace Go.Proofs.Ytpbflfgigfdohaa
open Go Go.Vc Go.RowKit Go.Proofs

section
open Go.Vc
theorem retTTC {fn : Func} {P : Program} {e : Env} {w : World} {R : Value → World → Prop} {t u a : Tmp} {T : TypeId} {d : TypeDesc} {s bs b o : Nat} {z v1 v2 : Value} {xs : List Value} (hr : fn.results = #[.tmp t, .tmp u, .cell a T]) (ht : Ty P T d s bs z) (hd : isAggD d = true) (h1 : e t = v1) (h3 : e u = v2) (h2 : e a = .pointer (some ⟨b, o, none⟩)) (hc : Cells w b o xs) (hl : xs.length = s)
    (h : R (.tuple #[v1, v2, .agg xs.toArray]) w) : Rt fn P R e w :=
  ⟨fun _ ac ha => ⟨.tuple #[v1, v2, .agg xs.toArray], by
    have g1 : ac.tmps.getD t undef = v1 := by rw [ha.get]; exact h1
    have g3 : ac.tmps.getD u undef = v2 := by rw [ha.get]; exact h3
    have g2 : ac.tmps.getD a undef = .pointer (some ⟨b, o, none⟩) := by rw [ha.get]; exact h2
    simp only [Array.getD_eq_getD_getElem?] at g1 g2 g3
    simp [results, hr, asAddr, g1, g2, g3, run_loadA ht hd hc hl], h⟩⟩
end
noncomputable def fA (D : List Df) : Option (Int × Int) := (resA D).or ((ringF D).or (deepF D (TD D)))
noncomputable def flt (D : List Df) : Int × Int := (fA D).getD (0, 0)
noncomputable def ordR (D : List Df) : List Nat := if fA D = none then ordN D else []
noncomputable def depR (D : List Df) : List Nat := if fA D = none then (List.range D.length).map (depN D (TD D)) else []
theorem PRes.form {D : List Df} {dv : Value} {V : Nat → Value} {w0 w' : World} {v : Value} (h : PRes D dv V w0 v w') : ∃ (pv : Value) (er at_ : Int), v = .tuple #[pv, .agg #[.int .i64 er, .int .i64 at_]] ∧ ((¬ er = 0 ∧ pv = .pointer none ∧ resA D = some (er, at_)) ∨ (er = 0 ∧ at_ = 0 ∧ resA D = none ∧ (chkS D).2.2 = 0 ∧ ∃ pb mb, pv = .pointer (some ⟨pb, 0, none⟩) ∧ Bk w' pb mb D dv V)) ∧ Ext w0 w' := by
  rcases h with ⟨er, at_, rfl, h1, h2, h3⟩ | ⟨h1, h2, pb, mb, rfl, h3, h4⟩
  · exact ⟨_, er, at_, rfl, .inl ⟨h2, rfl, h1⟩, h3⟩
  exact ⟨_, 0, 0, rfl, .inr ⟨rfl, rfl, h1, h2, pb, mb, rfl, h3⟩, h4⟩
/-- what checked answers -/
def PChk (D : List Df) (dv : Value) (V : Nat → Value) (w0 : World) (v : Value) (w' : World) : Prop :=
  ∃ (pv dpv : Value) (er at_ : Int), v = .tuple #[pv, dpv, .agg #[.int .i64 er, .int .i64 at_]] ∧ flt D = (er, at_) ∧ ((¬ er = 0 ∧ ¬ fA D = none ∧ dpv = .slice none 0 0) ∨ (er = 0 ∧ fA D = none ∧ (chkS D).2.2 = 0 ∧ ∃ pb mb, pv = .pointer (some ⟨pb, 0, none⟩) ∧ Bk w' pb mb D dv V)) ∧ w'.ownsRow w0.heap.size 3 1 dpv (depR D).length ((depR D).map iv) ∧ Ext w0 w'
theorem kn9_of {D : List Df} (hr : resA D = none) (hck : (chkS D).2.2 = 0) : kn9 D := resF_known (by rw [← resA_ok hck]; exact hr)
theorem fA_res {D : List Df} {v : Int × Int} (h : resA D = some v) : fA D = some v := by unfold fA; rw [h]; rfl
theorem fA_ring {D : List Df} {i : Nat} (h : resA D = none) (hi : i < D.length) (ht : Relation.TransGen (Us (usesD D)) i i) (hb : ∀ j, j < i → ¬ Relation.TransGen (Us (usesD D)) j j) : fA D = some (82, D[i].at_) := by
  unfold fA ringF
  rw [h, Option.none_or, firstN_hit hi (v := (82, D[i].at_)) (by rw [if_pos ht, getD_at hi]) (fun j hj => if_neg (hb j hj))]
  rfl
theorem ring_none {D : List Df} (hb : ∀ j, j < D.length → ¬ Relation.TransGen (Us (usesD D)) j j) : ringF D = none := firstN_miss fun j hj => if_neg (hb j hj)
theorem fA_deep {D : List Df} {i : Nat} (h : resA D = none) (hr : ringF D = none) (hi : i < D.length) (ht : 64 < depN D (TD D) i) (hb : ∀ j, j < i → ¬ 64 < depN D (TD D) j) : fA D = some (83, D[i].at_) := by
  unfold fA deepF
  rw [h, hr, Option.none_or, Option.none_or]
  exact firstN_hit hi (by rw [if_pos ht, getD_at hi]) (fun j hj => if_neg (hb j hj))
theorem fA_none {D : List Df} (h : resA D = none) (hr : ringF D = none) (hb : ∀ j, j < D.length → ¬ 64 < depN D (TD D) j) : fA D = none := by
  unfold fA deepF
  rw [h, hr, Option.none_or, Option.none_or]
  exact firstN_miss (fun j hj => if_neg (hb j hj))
theorem fA_back {D : List Df} (h : fA D = none) : resA D = none ∧ ringF D = none ∧ deepF D (TD D) = none := by
  unfold fA at h
  cases h1 : resA D with
  | some v => rw [h1] at h; cases h
  | none =>
    rw [h1, Option.none_or] at h
    cases h2 : ringF D with
    | some v => rw [h2] at h; cases h
    | none => rw [h2, Option.none_or] at h; exact ⟨rfl, rfl, h⟩
theorem dps_map (n : Nat) (f : Nat → Nat) : dps n f = ((List.range n).map f).map iv := by unfold dps; rw [List.map_map]; rfl
theorem flt_some {D : List Df} {v : Int × Int} (h : fA D = some v) : flt D = v := by unfold flt; rw [h]; rfl
theorem flt_none {D : List Df} (h : fA D = none) : flt D = (0, 0) := by unfold flt; rw [h]; rfl
theorem depR_bad {D : List Df} (h : ¬ fA D = none) : depR D = [] := if_neg h
theorem depR_ok {D : List Df} (h : fA D = none) : depR D = (List.range D.length).map (depN D (TD D)) := if_pos h
theorem Bk.only {w w' : World} {pb mb c : Nat} {D : List Df} {dv : Value} {V : Nat → Value} {cs : Array Value} {fr : Nat × Nat} (h : Bk w pb mb D dv V) (ho : Only (fun k => k = c) w w') (hc : w.heap[c]? = some (.cells cs 28 fr)) (hd : DefR w' D dv V) : Bk w' pb mb D dv V :=
  ⟨ho.blk h.cell (fun e => by
    have h1 := h.cell
    rw [e, hc] at h1
    simp at h1), hd, h.mp.only ho (fun e => map_blk_ne h.mp hc e.symm)⟩
theorem some_ne {D : List Df} {v : Int × Int} (h : fA D = some v) : ¬ fA D = none := by rw [h]; simp

set_option maxHeartbeats 4000000 in
theorem names_checked_spec (D : List Df) (dv : Value) (V : Nat → Value) (w0 : World) (hD : DefR w0 D dv V) (hlim : DOk D) : Ca Try.prog 55 #[.agg #[dv]] w0 (PChk D dv V w0) := by
  have hlen := hlim.len
  have hD00 := hD
  refine Ca.of Try.func55 Try.ntmps55 rfl rfl ?_
  refine W.seq ?_
  refine W.region ?_
  refine WL.c rfl (o_boxB rfl ?_)
  intro w1 hC1 hx1 hs1
  obtain ⟨b1, hb1⟩ : ∃ b, b = w0.heap.size := ⟨_, rfl⟩
  rw [← hb1] at hC1 ⊢
  replace hC1 : w1.heap[b1]? = some (.cells ([dv]).toArray 25 (0, 0)) := hC1
  have hx := hx1
  replace hD := hD.ext hx1
  refine WL.c rfl (o_ash (by first | exact (show _ = Value.pointer _ from rfl) | exact rfl) ?_)
  refine WL.c rfl (o_ash (by first | exact (show _ = Value.slice _ _ _ from rfl) | exact rfl) ?_)
  refine WL.c rfl (o_alB TI28 ?_)
  have hxq := hx
  intro wb hC4 hxb hsb
  replace hx := hx.tr hxb
  replace hD := hD.ext hxb
  replace hC1 := hxb.blk hC1 (fun h => h)
  obtain ⟨c4, hc4⟩ : ∃ c, c = w1.heap.size := ⟨_, rfl⟩
  rw [← hc4] at hC4 ⊢
  replace hC4 : wb.heap[c4]? = some (.cells #[.int .i64 0, .int .i64 0] 28 (0, 0)) := hC4
  have hz4 : w0.heap.size ≤ c4 := by rw [hc4]; exact hxq.size
  clear hxq hxb
  refine WL.nil ?_
  refine W.seq ?_
  refine W.region ?_
  refine WL.c rfl (o_ldA TI25 rfl rfl (show Cells _ b1 0 [dv] from Cells.of hC1 0 _ (by simp)) rfl ?_)
  refine WL.c rfl (o_call Try.call78 (lc rfl ln) ((resolved_spec D dv V _ hD hlim).mono ?_))
  intro v14 w14 hP
  obtain ⟨pv, er, at_, rfl, hpv, hx14⟩ := hP.form
  clear hP
  replace hx := hx.tr hx14
  replace hD := hD.ext hx14
  replace hC1 := hx14.blk hC1 (fun h => h)
  replace hC4 := hx14.blk hC4 (fun h => h)
  refine WL.c rfl (o_mvh (by first | exact (show _ = Value.tuple _ from rfl) | exact rfl) ?_)
  refine WL.c rfl (o_ext rfl rfl ?_)
  refine WL.c rfl (o_ext rfl rfl ?_)
  refine WL.c rfl (o_alB TI28 ?_)
  intro wa hCa hxa hsa
  refine WL.c rfl (o_ash (by first | exact (show _ = Value.pointer _ from rfl) | exact rfl) ?_)
  refine WL.u (o_stA TI28 rfl (show _ = Value.agg ([.int .i64 er, .int .i64 at_]).toArray from rfl) rfl rfl hCa rfl ?_)
  intro wb6 hC6 hob hsb
  have hxb := Ext.own hxa (Nat.le_refl _) hob
  obtain ⟨b6, hb6⟩ : ∃ b, b = w14.heap.size := ⟨_, rfl⟩
  rw [← hb6] at hC6 ⊢
  clear hCa hxa hsa hob hsb
  replace hx := hx.tr hxb
  replace hD := hD.ext hxb
  replace hC1 := hxb.blk hC1 (fun h => h)
  replace hC4 := hxb.blk hC4 (fun h => h)
  have hx6b := hxb
  clear hxb
  refine WL.nil ?_
  refine W.seq ?_
  refine W.seq ?_
  refine W.region ?_
  refine WL.c rfl (o_fa 0 TI28 rfl TI26 rfl rfl ?_)
  refine WL.c rfl (o_ld TI26 rfl rfl (cell_of hC6 rfl) ?_)
  refine WL.c rfl (o_ne rfl rfl ?_)
  refine WL.nil ?_
  refine W.cond rfl (fun c19 => ?_) (fun c19 => ?_)
  · try simp only [cs8] at c19
    have hne : ¬ er = 0 := by simpa using c19
    obtain ⟨-, rfl, hra⟩ : _ ∧ pv = .pointer none ∧ resA D = some (er, at_) := by
      rcases hpv with h | h
      · exact h
      exact absurd h.1 hne
    refine W.seq ?_
    refine W.tail 3 rfl (by kernel_rfl) ?_
    refine WS.c rfl ((SO.o rfl (o_ldA TI28 rfl rfl (show Cells _ b6 0 [.int .i64 er, .int .i64 at_] from Cells.of hC6 0 _ (by simp)) rfl ⟨rfl, rfl⟩))) ?_
    refine WS.c rfl ((SO.o rfl (o_ash (by first | exact (show _ = Value.pointer _ from rfl) | exact rfl) ⟨rfl, rfl⟩))) ?_
    refine WS.c rfl ((SO.o rfl (o_ash (by first | exact (show _ = Value.slice _ _ _ from rfl) | exact rfl) ⟨rfl, rfl⟩))) ?_
    refine WS.nil ?_
    replace hx := hx.tr (Only.drew _)
    replace hC4 : (World.drew _).heap[c4]? = some (.cells #[.int .i64 0, .int .i64 0] 28 (0, 0)) := hC4
    refine WL.u (o_stA TI28 rfl (show _ = Value.agg #[.int .i64 er, .int .i64 at_] from rfl) rfl rfl hC4 rfl ?_)
    intro wz hCz hoz hsz
    replace hx := hx.trans' hoz (fun _ h => h) (fun b hb he => by omega)
    refine WL.nil ?_
    refine W.ret ?_
    refine retTTC rfl TI28 rfl (show _ = Value.pointer none from rfl) (show _ = Value.slice none 0 0 from rfl) rfl (show Cells _ c4 0 [.int .i64 er, .int .i64 at_] from Cells.of hCz 0 _ (by simp)) rfl ?_
    have hfa := fA_res hra
    exact ⟨_, _, er, at_, rfl, flt_some hfa, .inl ⟨by first | exact hne | decide, some_ne hfa, rfl⟩, by rw [depR_bad (some_ne hfa)]; exact World.ownsRow_nil _ _ _ _, hx⟩
  try simp only [cs8] at c19
  have her : er = 0 := by simpa using c19
  obtain ⟨hra, hck, pb, mb, rfl, hB14⟩ : resA D = none ∧ (chkS D).2.2 = 0 ∧ ∃ pb mb, pv = .pointer (some ⟨pb, 0, none⟩) ∧ Bk w14 pb mb D dv V := by
    rcases hpv with h | h
    · exact absurd her h.1
    exact h.2.2
  have hB := hB14.ext hx6b
  have hT := trd_of hck
  have hkn := kn9_of hra hck
  have hU : ∀ i, i < D.length → ∀ j ∈ usesD D i, j < D.length := fun i hi => uses_lt hkn hi
  clear hD hC1
  refine W.skip ?_
  refine W.seq ?_
  refine W.seq ?_
  refine W.region ?_
  refine WL.c rfl (o_mvh (by first | exact (show _ = Value.pointer _ from rfl) | exact rfl) ?_)
  refine WL.c rfl (o_nil rfl ?_)
  refine WL.c rfl (o_fa 0 TI136 rfl TI23 rfl rfl ?_)
  refine WL.c rfl (o_ld TI23 rfl rfl (cell_of hB.cell rfl) ?_)
  refine WL.c rfl (o_lenR TI23 rfl hB.rd.row ?_)
  refine WL.c rfl (o_mvh (show _ = Value.int _ _ from rfl) ?_)
  refine WL.nil ?_
  refine W.block ?_
  refine W.loop (fun e w => ∃ i : Nat, i ≤ D.length ∧ e 4 = .pointer (some ⟨c4, 0, none⟩) ∧ e 5 = .pointer (some ⟨pb, 0, none⟩) ∧ e 24 = dv ∧ e 25 = .int .i64 (D.length : Int) ∧ e 26 = .int .i64 (i : Int) ∧ (∀ j, j < i → ¬ Relation.TransGen (Us (usesD D)) j j) ∧ Bk w pb mb D dv V ∧ w.heap[c4]? = some (.cells #[.int .i64 0, .int .i64 0] 28 (0, 0)) ∧ Ext w0 w) (fun e w => D.length - (intOf (e 26)).toNat) ?_ ?_
  · exact ⟨0, Nat.zero_le _, rfl, rfl, rfl, rfl, rfl, fun j hj => by omega, hB, hC4, hx⟩
  rintro e w ⟨i, hi, h4, h5, h24, h25, h26, hno, hB, hC4, hx⟩
  have hm26 := h26
  refine W.seq ?_
  refine W.region ?_
  refine WL.c rfl (o_lt h26 h25 ?_)
  refine WL.nil ?_
  refine W.seq ?_
  refine W.cond rfl (fun c27 => ?_) (fun c27 => ?_)
  · try simp only [cs8] at c27
    have hi1 : i < D.length := by omega
    obtain ⟨tb, to_, tc, rfl, htc, hty⟩ := hB.rd.atk hi1
    refine W.skip ?_
    refine W.seq ?_
    refine W.block ?_
    refine W.seq ?_
    refine W.region ?_
    refine WL.c rfl (o_mvh h26 ?_)
    refine WL.c rfl (o_ixB TI23 TI39 h24 h26 (by omega) ?_)
    refine WL.c rfl (o_ldA TI39 rfl rfl htc rfl ?_)
    refine WL.c rfl (o_alB TI39 ?_)
    intro wa hCa hxa hsa
    refine WL.c rfl (o_ash (show _ = Value.int _ _ from rfl) ?_)
    refine WL.u (o_stA TI39 rfl (show _ = Value.agg (dcell D[i] (V i)).toArray from rfl) rfl (by simp only [dcell, List.toArray, Array.toList, List.all_cons, List.all_nil, sl_one1 hty]; rfl) hCa rfl ?_)
    intro wb8 hC8 hob hsb
    have hxb := Ext.own hxa (Nat.le_refl _) hob
    obtain ⟨b8, hb8⟩ : ∃ b, b = w.heap.size := ⟨_, rfl⟩
    rw [← hb8] at hC8 ⊢
    clear hCa hxa hsa hob hsb
    replace hx := hx.tr hxb
    replace hB := hB.ext hxb
    replace hC4 := hxb.blk hC4 (fun h => h)
    replace hty := hty.ext hxb
    clear hxb
    refine WL.nil ?_
    refine W.seq ?_
    refine W.region ?_
    refine WL.c rfl (o_mvh h5 ?_)
    refine WL.c rfl (o_mvh (show _ = Value.int _ _ from rfl) ?_)
    refine WL.c rfl (o_call Try.call79 (lc rfl (lc rfl ln)) ((ringed_spec pb mb i D _ V _ hB hlim hU hi1).mono ?_))
    rintro v33 w33 ⟨⟨rb, rfl, hrb⟩, hx33⟩
    replace hx := hx.tr hx33
    replace hB := hB.ext hx33
    replace hC4 := hx33.blk hC4 (fun h => h)
    replace hC8 := hx33.blk hC8 (fun h => h)
    refine WL.nil ?_
    refine W.cond rfl (fun c33 => ?_) (fun c33 => ?_)
    · try simp only [cs8] at c33
      have hring := hrb.1 c33
      refine W.seq ?_
      refine W.region ?_
      refine WL.c rfl (o_fa 1 TI39 rfl TI3 rfl rfl ?_)
      refine WL.c rfl (o_ld TI3 rfl rfl (cell_of hC8 rfl) ?_)
      refine WL.c rfl (o_call Try.call80 (lc rfl (lc rfl ln)) ((fault_spec 82 D[i].at_ _).mono ?_))
      rintro v36 w36 ⟨rfl, hx36⟩
      replace hx := hx.tr hx36
      replace hB := hB.ext hx36
      replace hC4 := hx36.blk hC4 (fun h => h)
      refine WL.c rfl (o_ash (by first | exact (show _ = Value.pointer _ from rfl) | exact rfl) ?_)
      refine WL.c rfl (o_ash (by first | exact (show _ = Value.slice _ _ _ from rfl) | exact rfl) ?_)
      refine WL.u (o_stA TI28 h4 (show _ = Value.agg #[.int .i64 82, .int .i64 D[i].at_] from rfl) rfl rfl hC4 rfl ?_)
      intro wz hCz hoz hsz
      replace hx := hx.trans' hoz (fun _ h => h) (fun b hb he => by omega)
      refine WL.nil ?_
      refine W.ret ?_
      refine retTTC rfl TI28 rfl (show _ = Value.pointer none from rfl) (show _ = Value.slice none 0 0 from rfl) h4 (show Cells _ c4 0 [.int .i64 82, .int .i64 D[i].at_] from Cells.of hCz 0 _ (by simp)) rfl ?_
      have hfa := fA_ring hra hi1 hring hno
      exact ⟨_, _, 82, D[i].at_, rfl, flt_some hfa, .inl ⟨by first | exact hne | decide, some_ne hfa, rfl⟩, by rw [depR_bad (some_ne hfa)]; exact World.ownsRow_nil _ _ _ _, hx⟩
    try simp only [cs8] at c33
    have hnr : ¬ Relation.TransGen (Us (usesD D)) i i := fun h => by have := hrb.2 h; rw [this] at c33; cases c33
    refine W.skip ?_
    refine W.region ?_
    refine WL.c rfl (o_addi h26 rfl (by omega) ?_)
    refine WL.c rfl (o_mvh (show _ = Value.int _ _ from rfl) ?_)
    refine WL.nil ?_
    refine ⟨⟨i + 1, by omega, h4, h5, h24, h25, rfl, fun j hj => ?_, hB, hC4, hx⟩, ?_⟩
    · rcases Nat.lt_or_ge j i with h | h
      · exact hno j h
      rw [show j = i by omega]; exact hnr
    show D.length - ((i : Int) + 1).toNat < _
    rw [hm26]; simp [intOf]; omega
  try simp only [cs8] at c27
  have hi1 : i = D.length := by omega
  rw [hi1] at hno
  have hrn := ring_none hno
  refine W.exit ?_
  refine W.seq ?_
  refine W.region ?_
  refine WL.c rfl (o_mvh h5 ?_)
  refine WL.c rfl (o_call Try.call81 (lc rfl ln) ((depths_spec pb mb D (TD D) dv V _ hB hlim hT hkn hno).mono ?_))
  rintro v39 w39 ⟨hdp, hx39⟩
  replace hdp := own_mono hdp hx.size
  replace hx := hx.tr hx39
  replace hB := hB.ext hx39
  replace hC4 := hx39.blk hC4 (fun h => h)
  refine WL.c rfl (o_ash (by first | exact (show _ = Value.slice _ _ _ from rfl) | exact rfl) ?_)
  refine WL.nil ?_
  refine W.seq ?_
  refine W.seq ?_
  refine W.region ?_
  refine WL.c rfl (o_mvh h5 ?_)
  refine WL.c rfl (o_nil rfl ?_)
  refine WL.c rfl (o_fa 0 TI136 rfl TI23 rfl rfl ?_)
  refine WL.c rfl (o_ld TI23 rfl rfl (cell_of hB.cell rfl) ?_)
  refine WL.c rfl (o_lenR TI23 rfl hB.rd.row ?_)
  refine WL.c rfl (o_mvh (show _ = Value.int _ _ from rfl) ?_)
  refine WL.nil ?_
  refine W.block ?_
  refine W.loop (fun e w => ∃ i : Nat, i ≤ D.length ∧ e 4 = .pointer (some ⟨c4, 0, none⟩) ∧ e 5 = .pointer (some ⟨pb, 0, none⟩) ∧ e 9 = v39 ∧ e 43 = dv ∧ e 44 = .int .i64 (D.length : Int) ∧ e 45 = .int .i64 (i : Int) ∧ (∀ j, j < i → ¬ 64 < depN D (TD D) j) ∧ w.ownsRow w0.heap.size 3 1 v39 D.length (dps D.length (depN D (TD D))) ∧ Bk w pb mb D dv V ∧ w.heap[c4]? = some (.cells #[.int .i64 0, .int .i64 0] 28 (0, 0)) ∧ Ext w0 w) (fun e w => D.length - (intOf (e 45)).toNat) ?_ ?_
  · exact ⟨0, Nat.zero_le _, h4, h5, rfl, rfl, rfl, rfl, fun j hj => by omega, hdp, hB, hC4, hx⟩
  rintro e w ⟨i, hi, h4, h5, h9, h43, h44, h45, hnd, hdp, hB, hC4, hx⟩
  have hm45 := h45
  refine W.seq ?_
  refine W.region ?_
  refine WL.c rfl (o_lt h45 h44 ?_)
  refine WL.nil ?_
  refine W.seq ?_
  refine W.cond rfl (fun c46 => ?_) (fun c46 => ?_)
  · try simp only [cs8] at c46
    have hi1 : i < D.length := by omega
    obtain ⟨tb, to_, tc, rfl, htc, hty⟩ := hB.rd.atk hi1
    obtain ⟨ub, uo, uc, hVd, hcell⟩ := Sl.at1 (Sl.own hdp) hi1 (dps_at hi1)
    rw [hVd] at h9
    have hdw := hdp
    refine W.skip ?_
    refine W.seq ?_
    refine W.block ?_
    refine W.seq ?_
    refine W.region ?_
    refine WL.c rfl (o_mvh h45 ?_)
    refine WL.c rfl (o_ixB TI23 TI39 h43 h45 (by omega) ?_)
    refine WL.c rfl (o_ldA TI39 rfl rfl htc rfl ?_)
    refine WL.c rfl (o_alB TI39 ?_)
    intro wa hCa hxa hsa
    refine WL.c rfl (o_ash (show _ = Value.int _ _ from rfl) ?_)
    refine WL.u (o_stA TI39 rfl (show _ = Value.agg (dcell D[i] (V i)).toArray from rfl) rfl (by simp only [dcell, List.toArray, Array.toList, List.all_cons, List.all_nil, sl_one1 hty]; rfl) hCa rfl ?_)
    intro wb11 hC11 hob hsb
    have hxb := Ext.own hxa (Nat.le_refl _) hob
    obtain ⟨b11, hb11⟩ : ∃ b, b = w.heap.size := ⟨_, rfl⟩
    rw [← hb11] at hC11 ⊢
    clear hCa hxa hsa hob hsb
    replace hx := hx.tr hxb
    replace hB := hB.ext hxb
    replace hC4 := hxb.blk hC4 (fun h => h)
    replace hty := hty.ext hxb
    replace hdp := own_ext hdp hxb
    clear hxb
    refine WL.nil ?_
    refine W.seq ?_
    refine W.region ?_
    refine WL.c rfl (o_mvh h9 ?_)
    refine WL.c rfl (o_mvh (show _ = Value.int _ _ from rfl) ?_)
    refine WL.c rfl (o_ixB (i := i) TI79 TI3 (show _ = Value.slice (some ⟨ub, uo, none⟩) D.length uc from rfl) rfl (by omega) ?_)
    refine WL.c rfl (o_ld TI3 rfl rfl (by
        have hq := Sl.own hdp
        obtain ⟨ub2, uo2, uc2, hV2, hcell2⟩ := Sl.at1 hq hi1 (dps_at hi1)
        rw [hVd] at hV2
        simp only [Value.slice.injEq, Option.some.injEq, Addr.mk.injEq] at hV2
        obtain ⟨⟨rfl, rfl, -⟩, -, -⟩ := hV2
        exact hcell2) ?_)
    refine WL.c rfl (o_gt rfl rfl ?_)
    refine WL.nil ?_
    refine W.cond rfl (fun c54 => ?_) (fun c54 => ?_)
    · try simp only [cs8] at c54
      have hdeep : 64 < depN D (TD D) i := by omega
      refine W.seq ?_
      refine W.region ?_
      refine WL.c rfl (o_fa 1 TI39 rfl TI3 rfl rfl ?_)
      refine WL.c rfl (o_ld TI3 rfl rfl (cell_of hC11 rfl) ?_)
      refine WL.c rfl (o_call Try.call80 (lc rfl (lc rfl ln)) ((fault_spec 83 D[i].at_ _).mono ?_))
      rintro v57 w57 ⟨rfl, hx57⟩
      replace hx := hx.tr hx57
      replace hB := hB.ext hx57
      replace hC4 := hx57.blk hC4 (fun h => h)
      refine WL.c rfl (o_ash (by first | exact (show _ = Value.pointer _ from rfl) | exact rfl) ?_)
      refine WL.c rfl (o_ash (by first | exact (show _ = Value.slice _ _ _ from rfl) | exact rfl) ?_)
      refine WL.u (o_stA TI28 h4 (show _ = Value.agg #[.int .i64 83, .int .i64 D[i].at_] from rfl) rfl rfl hC4 rfl ?_)
      intro wz hCz hoz hsz
      replace hx := hx.trans' hoz (fun _ h => h) (fun b hb he => by omega)
      refine WL.nil ?_
      refine W.ret ?_
      refine retTTC rfl TI28 rfl (show _ = Value.pointer none from rfl) (show _ = Value.slice none 0 0 from rfl) h4 (show Cells _ c4 0 [.int .i64 83, .int .i64 D[i].at_] from Cells.of hCz 0 _ (by simp)) rfl ?_
      have hfa := fA_deep hra hrn hi1 hdeep hnd
      exact ⟨_, _, 83, D[i].at_, rfl, flt_some hfa, .inl ⟨by first | exact hne | decide, some_ne hfa, rfl⟩, by rw [depR_bad (some_ne hfa)]; exact World.ownsRow_nil _ _ _ _, hx⟩
    try simp only [cs8] at c54
    have hdeep : ¬ 64 < depN D (TD D) i := by omega
    refine W.skip ?_
    refine W.region ?_
    refine WL.c rfl (o_addi h45 rfl (by omega) ?_)
    refine WL.c rfl (o_mvh (show _ = Value.int _ _ from rfl) ?_)
    refine WL.nil ?_
    refine ⟨⟨i + 1, by omega, h4, h5, h9.trans hVd.symm, h43, h44, rfl, fun j hj => ?_, hdp, hB, hC4, hx⟩, ?_⟩
    · rcases Nat.lt_or_ge j i with h | h
      · exact hnd j h
      rw [show j = i by omega]; omega
    show D.length - ((i : Int) + 1).toNat < _
    rw [hm45]; simp [intOf]; omega
  try simp only [cs8] at c46
  have hi1 : i = D.length := by omega
  rw [hi1] at hnd
  have hfn := fA_none hra hrn hnd
  refine W.exit ?_
  refine W.seq ?_
  refine W.region ?_
  refine WL.c rfl (o_mvh h5 ?_)
  refine WL.c rfl (o_mvh h9 ?_)
  refine WL.c rfl (o_bldC (cs := [(.int .i64 0), (.int .i64 0)]) TI28 (Sizes.cons TI26 (Sizes.cons TI3 Sizes.nil)) rfl lnp rfl rfl ?_)
  refine WL.c rfl (o_ash (by first | exact (show _ = Value.pointer _ from rfl) | exact rfl) ?_)
  refine WL.c rfl (o_ash (by first | exact (show _ = Value.slice _ _ _ from rfl) | exact rfl) ?_)
  refine WL.u (o_stA TI28 h4 (show _ = Value.agg #[.int .i64 0, .int .i64 0] from rfl) rfl rfl hC4 rfl ?_)
  intro wz hCz hoz hsz
  replace hx := hx.trans' hoz (fun _ h => h) (fun b hb he => by omega)
  refine WL.nil ?_
  refine W.ret ?_
  have hB2 := hB.only hoz hC4 (hD00.ext hx)
  refine retTTC rfl TI28 rfl (show _ = Value.pointer (some ⟨pb, 0, none⟩) from rfl) (show _ = v39 from rfl) h4 (show Cells _ c4 0 [.int .i64 0, .int .i64 0] from Cells.of hCz 0 _ (by simp)) rfl ?_
  exact ⟨_, _, 0, 0, rfl, flt_none hfn, .inr ⟨rfl, hfn, hck, pb, mb, rfl, hB2⟩, by rw [depR_ok hfn, List.length_map, List.length_range, ← dps_map]; exact own_only hdp hoz (fun b hb he => by subst he; exact own_off hdp hC4 (by decide) hb), hx⟩
end Go.Proofs.Ytpbflfgigfdohaa

set_option linter.unusedSimpArgs false
set_option linter.unusedVariables false
set_option maxRecDepth 100000
namespace Go.Proofs.Ytpbflfgigfdohaa
open Go Go.Vc Go.RowKit Go.Proofs

theorem nat_flt {D : List Df} {er at_ : Int} (h : flt D = (er, at_)) : (flt D).1 = er ∧ (flt D).2 = at_ := by rw [h]; exact ⟨rfl, rfl⟩
theorem ordR_bad {D : List Df} (h : ¬ fA D = none) : ordR D = [] := if_neg h
theorem ordR_ok {D : List Df} (h : fA D = none) : ordR D = ordN D := if_pos h

set_option maxHeartbeats 1000000 in
theorem names_order_spec (D : List Df) (dv : Value) (V : Nat → Value) (w0 : World) (hD : DefR w0 D dv V) (hlim : DOk D) : Ca Try.prog 29 #[.agg #[dv]] w0 (fun v w' => ∃ ov, v = .tuple #[ov, .agg #[.int .i64 (flt D).1, .int .i64 (flt D).2]] ∧ w'.ownsRow w0.heap.size 3 1 ov (ordR D).length ((ordR D).map iv) ∧ Ext w0 w') := by
  refine Ca.of Try.func29 Try.ntmps29 rfl rfl ?_
  refine W.seq ?_
  refine W.region ?_
  refine WL.c rfl (o_boxB rfl ?_)
  intro w1 hC1 hx1 hs1
  obtain ⟨b1, hb1⟩ : ∃ b, b = w0.heap.size := ⟨_, rfl⟩
  rw [← hb1] at hC1 ⊢
  replace hC1 : w1.heap[b1]? = some (.cells ([dv]).toArray 25 (0, 0)) := hC1
  have hx := hx1
  replace hD := hD.ext hx1
  have hD00 := hD
  refine WL.c rfl (o_ash (by first | exact (show _ = Value.slice _ _ _ from rfl) | exact rfl) ?_)
  try have h2r := h18r
  refine WL.c rfl (o_alB TI28 ?_)
  have hxq := hx
  intro wb hC3 hxb hsb
  replace hx := hx.tr hxb
  replace hD := hD.ext hxb
  replace hC1 := hxb.blk hC1 (fun h => h)
  obtain ⟨c3, hc3⟩ : ∃ c, c = w1.heap.size := ⟨_, rfl⟩
  rw [← hc3] at hC3 ⊢
  replace hC3 : wb.heap[c3]? = some (.cells #[.int .i64 0, .int .i64 0] 28 (0, 0)) := hC3
  have hz3 : w0.heap.size ≤ c3 := by rw [hc3]; exact hxq.size
  clear hxq hxb
  refine WL.nil ?_
  refine W.seq ?_
  refine W.region ?_
  refine WL.c rfl (o_ldA TI25 rfl rfl (show Cells _ b1 0 [dv] from Cells.of hC1 0 _ (by simp)) rfl ?_)
  refine WL.c rfl (o_call Try.call55 (lc rfl ln) ((names_checked_spec D dv V _ hD hlim).mono ?_))
  rintro v9 w9 ⟨pv, dpv, er, at_, rfl, hf, hcase, hdp, hx9⟩
  obtain ⟨hf1, hf2⟩ := nat_flt hf
  replace hx := hx.tr hx9
  replace hD := hD.ext hx9
  replace hC1 := hx9.blk hC1 (fun h => h)
  replace hC3 := hx9.blk hC3 (fun h => h)
  refine WL.c rfl (o_mvh (by first | exact (show _ = Value.tuple _ from rfl) | exact rfl) ?_)
  refine WL.c rfl (o_ext rfl rfl ?_)
  refine WL.c rfl (o_ext rfl rfl ?_)
  refine WL.c rfl (o_ext rfl rfl ?_)
  refine WL.c rfl (o_alB TI28 ?_)
  intro wa hCa hxa hsa
  refine WL.c rfl (o_ash (by first | exact (show _ = Value.pointer _ from rfl) | exact rfl) ?_)
  refine WL.c rfl (o_ash (by first | exact (show _ = Value.slice _ _ _ from rfl) | exact rfl) ?_)
  refine WL.u (o_stA TI28 rfl (show _ = Value.agg ([.int .i64 er, .int .i64 at_]).toArray from rfl) rfl rfl hCa rfl ?_)
  intro wb6 hC6 hob hsb
  have hxb := Ext.own hxa (Nat.le_refl _) hob
  obtain ⟨b6, hb6⟩ : ∃ b, b = w9.heap.size := ⟨_, rfl⟩
  rw [← hb6] at hC6 ⊢
  clear hCa hxa hsa hob hsb
  replace hx := hx.tr hxb
  replace hD := hD.ext hxb
  replace hC3 := hxb.blk hC3 (fun h => h)
  have hx6b := hxb
  clear hxb
  refine WL.nil ?_
  refine W.seq ?_
  refine W.seq ?_
  refine W.region ?_
  refine WL.c rfl (o_fa 0 TI28 rfl TI26 rfl rfl ?_)
  refine WL.c rfl (o_ld TI26 rfl rfl (cell_of hC6 rfl) ?_)
  refine WL.c rfl (o_ne rfl rfl ?_)
  refine WL.nil ?_
  refine W.cond rfl (fun c15 => ?_) (fun c15 => ?_)
  · try simp only [cs8] at c15
    have hne : ¬ er = 0 := by simpa using c15
    have hbad : ¬ fA D = none := by
      rcases hcase with h | h
      · exact h.2.1
      exact absurd h.1 hne
    refine W.seq ?_
    refine W.tail 2 rfl (by kernel_rfl) ?_
    refine WS.c rfl ((SO.o rfl (o_ldA TI28 rfl rfl (show Cells _ b6 0 [.int .i64 er, .int .i64 at_] from Cells.of hC6 0 _ (by simp)) rfl ⟨rfl, rfl⟩))) ?_
    refine WS.c rfl ((SO.o rfl (o_ash (by first | exact (show _ = Value.slice _ _ _ from rfl) | exact rfl) ⟨rfl, rfl⟩))) ?_
    refine WS.nil ?_
    replace hx := hx.tr (Only.drew _)
    replace hC3 : (World.drew _).heap[c3]? = some (.cells #[.int .i64 0, .int .i64 0] 28 (0, 0)) := hC3
    refine WL.u (o_stA TI28 (by first | exact h3 | rfl) (by first | exact h19 | exact (show _ = Value.agg #[.int .i64 er, .int .i64 at_] from rfl)) rfl rfl (by first | exact hR.blk hC3 (fun h => h) | exact hC3) rfl ?_)
    intro wz hCz hoz hsz
    try replace hx := hx.tr hR
    replace hx := hx.trans' hoz (fun _ h => h) (fun b hb he => by omega)
    try replace h2r := own_only h2r hoz (fun b hb he => by subst he; exact own_off h2r (hR.blk hC3 (fun h => h)) (by decide) hb)
    refine WL.nil ?_
    refine W.ret ?_
    refine retTC rfl TI28 rfl (show _ = Value.slice none 0 0 from rfl) rfl (show Cells _ c3 0 [.int .i64 er, .int .i64 at_] from Cells.of hCz 0 _ (by simp)) rfl ?_
    subst hb1
    exact ⟨_, by rw [hf1, hf2], by rw [ordR_bad hbad]; exact World.ownsRow_nil _ _ _ _, hx⟩
  try simp only [cs8] at c15
  have her : er = 0 := by simpa using c15
  obtain ⟨hfn, hck, pb, mb, rfl, hB9⟩ : fA D = none ∧ (chkS D).2.2 = 0 ∧ ∃ pb mb, pv = .pointer (some ⟨pb, 0, none⟩) ∧ Bk w9 pb mb D dv V := by
    rcases hcase with h | h
    · exact absurd her h.1
    exact h.2
  have hB := hB9.ext hx6b
  have hkn := kn9_of (fA_back hfn).1 hck
  have hac := ringF_none (fA_back hfn).2.1
  refine W.skip ?_
  refine W.seq ?_
  obtain ⟨wd, hwd⟩ : ∃ wd, wd = wb6.drew := ⟨_, rfl⟩
  have hxd : Ext wb6 wd := hwd ▸ Only.drew wb6
  replace hx := hx.tr hxd
  replace hB := hB.ext hxd
  replace hC3 := hxd.blk hC3 (fun h => h)
  replace hC6 := hxd.blk hC6 (fun h => h)
  have hzd : w0.heap.size ≤ wd.heap.size := hx.size
  refine W.states (fun kS e w => match kS with | 0 => e 3 = (.pointer (some ⟨c3, 0, none⟩)) ∧ e 4 = (.pointer (some ⟨pb, 0, none⟩)) ∧ e 6 = (.pointer (some ⟨b6, 0, none⟩)) ∧ Ext wd w | 1 => e 3 = (.pointer (some ⟨c3, 0, none⟩)) ∧ e 4 = (.pointer (some ⟨pb, 0, none⟩)) ∧ e 6 = (.pointer (some ⟨b6, 0, none⟩)) ∧ e 17 = (.pointer (some ⟨pb, 0, none⟩)) ∧ Ext wd w | 2 => e 3 = (.pointer (some ⟨c3, 0, none⟩)) ∧ e 4 = (.pointer (some ⟨pb, 0, none⟩)) ∧ e 6 = (.pointer (some ⟨b6, 0, none⟩)) ∧ e 19 = (.agg #[.int .i64 er, .int .i64 at_]) ∧ Ext wd w | 3 => e 3 = (.pointer (some ⟨c3, 0, none⟩)) ∧ e 4 = (.pointer (some ⟨pb, 0, none⟩)) ∧ e 6 = (.pointer (some ⟨b6, 0, none⟩)) ∧ e 17 = (.pointer (some ⟨pb, 0, none⟩)) ∧ Ext wd w ∧ w.ownsRow wd.heap.size 3 1 (e 18) (ordN D).length ((ordN D).map iv) | 4 => e 3 = (.pointer (some ⟨c3, 0, none⟩)) ∧ e 4 = (.pointer (some ⟨pb, 0, none⟩)) ∧ e 6 = (.pointer (some ⟨b6, 0, none⟩)) ∧ e 17 = (.pointer (some ⟨pb, 0, none⟩)) ∧ e 19 = (.agg #[.int .i64 er, .int .i64 at_]) ∧ Ext wd w | 5 => e 3 = (.pointer (some ⟨c3, 0, none⟩)) ∧ e 4 = (.pointer (some ⟨pb, 0, none⟩)) ∧ e 6 = (.pointer (some ⟨b6, 0, none⟩)) ∧ e 17 = (.pointer (some ⟨pb, 0, none⟩)) ∧ e 19 = (.agg #[.int .i64 er, .int .i64 at_]) ∧ Ext wd w ∧ w.ownsRow wd.heap.size 3 1 (e 18) (ordN D).length ((ordN D).map iv) | 6 => e 3 = (.pointer (some ⟨c3, 0, none⟩)) ∧ e 4 = (.pointer (some ⟨pb, 0, none⟩)) ∧ e 6 = (.pointer (some ⟨b6, 0, none⟩)) ∧ e 17 = (.pointer (some ⟨pb, 0, none⟩)) ∧ Ext wd w ∧ w.ownsRow wd.heap.size 3 1 (e 18) (ordN D).length ((ordN D).map iv) ∧ w.ownsRow wd.heap.size 3 1 (e 2) (ordN D).length ((ordN D).map iv) | 7 => e 3 = (.pointer (some ⟨c3, 0, none⟩)) ∧ e 4 = (.pointer (some ⟨pb, 0, none⟩)) ∧ e 6 = (.pointer (some ⟨b6, 0, none⟩)) ∧ e 17 = (.pointer (some ⟨pb, 0, none⟩)) ∧ e 19 = (.agg #[.int .i64 er, .int .i64 at_]) ∧ Ext wd w ∧ w.ownsRow wd.heap.size 3 1 (e 18) (ordN D).length ((ordN D).map iv) ∧ w.ownsRow wd.heap.size 3 1 (e 2) (ordN D).length ((ordN D).map iv) | 8 => e 3 = (.pointer (some ⟨c3, 0, none⟩)) ∧ e 4 = (.pointer (some ⟨pb, 0, none⟩)) ∧ e 6 = (.pointer (some ⟨b6, 0, none⟩)) ∧ e 17 = (.pointer (some ⟨pb, 0, none⟩)) ∧ e 19 = (.agg #[.int .i64 er, .int .i64 at_]) ∧ w.ownsRow wd.heap.size 3 1 (e 2) (ordN D).length ((ordN D).map iv) ∧ w.heap[c3]? = some (.cells #[.int .i64 er, .int .i64 at_] 28 (0, 0)) ∧ Ext w0 w | _ => False) ([([false, false, false, false, false], [(0, 1), (2, 2)]), ([true, false, false, false, false], [(1, 3), (2, 4)]), ([false, false, true, false, false], [(0, 4)]), ([true, true, false, false, false], [(2, 5), (3, 6)]), ([true, false, true, false, false], [(1, 5)]), ([true, true, true, false, false], [(3, 7)]), ([true, true, false, true, false], [(2, 7)]), ([true, true, true, true, false], [(4, 8)]), ([true, true, true, true, true], [])]) rfl (by kernel_rfl) rfl ⟨rfl, rfl, rfl, by rw [hwd]; exact Only.refl _ _⟩ ?_
  refine ⟨?_, ?_, ?_, ?_, ?_, ?_, ?_, ?_, ?_, trivial⟩
  · -- state 0 of region 4
    rintro e w ⟨h3, h4, h6, hR⟩
    refine ⟨?_, ?_, trivial⟩
    · skip
      refine WO.c rfl rfl (o_mvh h4 ?_)
      exact ⟨h3, h4, h6, rfl, hR⟩
    skip
    refine WO.c rfl rfl (o_ldA TI28 rfl h6 (show Cells _ b6 0 [.int .i64 er, .int .i64 at_] from Cells.of (hR.blk hC6 (fun h => h)) 0 _ (by simp)) rfl ?_)
    exact ⟨h3, h4, h6, rfl, hR⟩
  · -- state 1 of region 4
    rintro e w ⟨h3, h4, h6, h17, hR⟩
    refine ⟨?_, ?_, trivial⟩
    · skip
      refine WO.c rfl rfl (o_call Try.call56 (lc h17 ln) ((order_spec pb mb D dv V _ (hB.ext hR) hlim (fun i hi => uses_lt hkn hi) hac).mono ?_))
      rintro v18 w18 ⟨h18a, hx18⟩
      have h18r := own_mono h18a hR.size
      replace hR := hR.tr hx18
      exact ⟨h3, h4, h6, h17, hR, h18r⟩
    skip
    refine WO.c rfl rfl (o_ldA TI28 rfl h6 (show Cells _ b6 0 [.int .i64 er, .int .i64 at_] from Cells.of (hR.blk hC6 (fun h => h)) 0 _ (by simp)) rfl ?_)
    exact ⟨h3, h4, h6, h17, rfl, hR⟩
  · -- state 2 of region 4
    rintro e w ⟨h3, h4, h6, h19, hR⟩
    refine ⟨?_, trivial⟩
    skip
    refine WO.c rfl rfl (o_mvh h4 ?_)
    exact ⟨h3, h4, h6, rfl, h19, hR⟩
  · -- state 3 of region 4
    rintro e w ⟨h3, h4, h6, h17, hR, h18r⟩
    refine ⟨?_, ?_, trivial⟩
    · skip
      refine WO.c rfl rfl (o_ldA TI28 rfl h6 (show Cells _ b6 0 [.int .i64 er, .int .i64 at_] from Cells.of (hR.blk hC6 (fun h => h)) 0 _ (by simp)) rfl ?_)
      exact ⟨h3, h4, h6, h17, rfl, hR, h18r⟩
    skip
    refine WO.c rfl rfl (o_as ?_)
    try have h2r := h18r
    exact ⟨h3, h4, h6, h17, hR, h18r, h2r⟩
  · -- state 4 of region 4
    rintro e w ⟨h3, h4, h6, h17, h19, hR⟩
    refine ⟨?_, trivial⟩
    skip
    refine WO.c rfl rfl (o_call Try.call56 (lc h17 ln) ((order_spec pb mb D dv V _ (hB.ext hR) hlim (fun i hi => uses_lt hkn hi) hac).mono ?_))
    rintro v18 w18 ⟨h18a, hx18⟩
    have h18r := own_mono h18a hR.size
    replace hR := hR.tr hx18
    exact ⟨h3, h4, h6, h17, h19, hR, h18r⟩
  · -- state 5 of region 4
    rintro e w ⟨h3, h4, h6, h17, h19, hR, h18r⟩
    refine ⟨?_, trivial⟩
    skip
    refine WO.c rfl rfl (o_as ?_)
    try have h2r := h18r
    exact ⟨h3, h4, h6, h17, h19, hR, h18r, h2r⟩
  · -- state 6 of region 4
    rintro e w ⟨h3, h4, h6, h17, hR, h18r, h2r⟩
    refine ⟨?_, trivial⟩
    skip
    refine WO.c rfl rfl (o_ldA TI28 rfl h6 (show Cells _ b6 0 [.int .i64 er, .int .i64 at_] from Cells.of (hR.blk hC6 (fun h => h)) 0 _ (by simp)) rfl ?_)
    exact ⟨h3, h4, h6, h17, rfl, hR, h18r, h2r⟩
  · -- state 7 of region 4
    rintro e w ⟨h3, h4, h6, h17, h19, hR, h18r, h2r⟩
    refine ⟨?_, trivial⟩
    skip
    refine WO.u rfl (o_stA TI28 (by first | exact h3 | rfl) (by first | exact h19 | exact (show _ = Value.agg #[.int .i64 er, .int .i64 at_] from rfl)) rfl rfl (by first | exact hR.blk hC3 (fun h => h) | exact hC3) rfl ?_)
    intro wz hCz hoz hsz
    try replace hx := hx.tr hR
    replace hx := hx.trans' hoz (fun _ h => h) (fun b hb he => by omega)
    try replace h2r := own_only h2r hoz (fun b hb he => by subst he; exact own_off h2r (hR.blk hC3 (fun h => h)) (by decide) hb)
    exact ⟨h3, h4, h6, h17, h19, ⟨h2r, hCz, hx⟩⟩
  -- state 8 of region 4
  rintro e w ⟨h3, h4, h6, h17, h19, ⟨h2r, hCz, hx⟩⟩
  refine W.ret ?_
  refine retTC rfl TI28 rfl rfl h3 (show Cells _ c3 0 [.int .i64 er, .int .i64 at_] from Cells.of hCz 0 _ (by simp)) rfl ?_
  subst hb1
  exact ⟨_, by rw [hf1, hf2], by rw [ordR_ok hfn]; exact own_mono h2r hzd, hx⟩
end Go.Proofs.Ytpbflfgigfdohaa

set_option linter.unusedSimpArgs false
set_option linter.unusedVariables false
set_option maxRecDepth 100000
namespace Go.Proofs.Ytpbflfgigfdohaa
open Go Go.Vc Go.RowKit Go.Proofs

/-- a struct's field, or a union's arm -/
structure Pa where
  label : List UInt8
  tag : Int
  ty : Int
deriving DecidableEq
structure Tp where
  kind : Int
  n : Int
  elem : Int
  parts : List Pa
deriving DecidableEq
structure Ro where
  name : List UInt8
  ty : Int
deriving DecidableEq
def paV (p : Pa) : List Value := [st p.label, .int .i64 p.tag, .int .i64 p.ty]
def pas (L : List Pa) : List Value := L.flatMap paV
def tcell (t : Tp) (v : Value) : List Value := [.int .i64 t.kind, .int .i64 t.n, .int .i64 t.elem, v]
def roV (r : Ro) : List Value := [st r.name, .int .i64 r.ty]
def ros (L : List Ro) : List Value := L.flatMap roV
def tp0 : Tp := ⟨0, 0, 0, []⟩
def pasT (L : List Tp) (j : Nat) : List Pa := (L.getD j tp0).parts
def trows (L : List Tp) (V : Nat → Value) : List Value := (List.range L.length).flatMap fun j => tcell (L.getD j tp0) (V j)

def many7 (k : Int) : Prop := k = 7 ∨ k = 8
instance (k : Int) : Decidable (many7 k) := by unfold many7; infer_instance
mutual
/-- the number of a type expression's type, by the roots of the names; the types, with its own behind -/
def mkT (rt : List UInt8 → Int) : Tr → List Tp → Int × List Tp
  | .node y ks, L => if y.kind = 9 then (rt y.name, L) else (((mkK rt y.kind ks L 0 []).2.2.length : Int), (mkK rt y.kind ks L 0 []).2.2 ++ [⟨y.kind, y.n, (mkK rt y.kind ks L 0 []).1, (mkK rt y.kind ks L 0 []).2.1⟩])
def mkK (rt : List UInt8 → Int) (kind : Int) : Trs → List Tp → Int → List Pa → Int × List Pa × List Tp
  | .nil, L, el, ps => (el, ps, L)
  | .cons t ts, L, el, ps => if many7 kind then mkK rt kind ts (mkT rt t L).2 el (ps ++ [⟨t.top.label, t.top.tag, (mkT rt t L).1⟩]) else mkK rt kind ts (mkT rt t L).2 (mkT rt t L).1 ps
end
def upI (f : Nat → Int) (i : Nat) (v : Int) : Nat → Int := fun j => if j = i then v else f j
/-- definition behind definition: their roots, the types -/
def mkO (wh : List UInt8 → Nat) (T : Nat → Tr) : List Nat → (Nat → Int) → List Tp → (Nat → Int) × List Tp
  | [], f, L => (f, L)
  | i :: l, f, L => mkO wh T l (upI f i (mkT (fun nm => f (wh nm)) (T i) L).1) (mkT (fun nm => f (wh nm)) (T i) L).2
theorem mkO_snoc {wh : List UInt8 → Nat} {T : Nat → Tr} : ∀ (l : List Nat) (f : Nat → Int) (L : List Tp) (i : Nat), mkO wh T (l ++ [i]) f L = (upI (mkO wh T l f L).1 i (mkT (fun nm => (mkO wh T l f L).1 (wh nm)) (T i) (mkO wh T l f L).2).1, (mkT (fun nm => (mkO wh T l f L).1 (wh nm)) (T i) (mkO wh T l f L).2).2)
  | [], f, L, i => rfl
  | j :: l, f, L, i => by rw [List.cons_append, mkO, mkO_snoc l, mkO]
theorem mkO_take {wh : List UInt8 → Nat} {T : Nat → Tr} {l : List Nat} {f : Nat → Int} {L : List Tp} {k : Nat} (hk : k < l.length) : mkO wh T (l.take (k + 1)) f L = (upI (mkO wh T (l.take k) f L).1 l[k] (mkT (fun nm => (mkO wh T (l.take k) f L).1 (wh nm)) (T l[k]) (mkO wh T (l.take k) f L).2).1, (mkT (fun nm => (mkO wh T (l.take k) f L).1 (wh nm)) (T l[k]) (mkO wh T (l.take k) f L).2).2) := by
  rw [List.take_succ_eq_append_getElem hk, mkO_snoc]
/-- a node out of its bounds -/
def outB (x : Ex) : Bool := (decide (x.kind = 4) || decide (x.kind = 5)) && (decide (x.n < 1) || decide (1048576 < x.n)) || decide (255 < x.tag)
def bndN (L : List Ex) (j : Nat) : Option (Int × Int) := if outB (L.getD j ex0) then some (90, (L.getD j ex0).at_) else none
def bndD (D : List Df) (i : Nat) : Option (Int × Int) := firstN (tyD D i).length (bndN (tyD D i))
def bndF (D : List Df) : Option (Int × Int) := firstN D.length (bndD D)
def rooN (D : List Df) (f : Nat → Int) : List Ro := (List.range D.length).map (fun i => ⟨(D.getD i df0).name, f i⟩)
/-- the schema of a source that is all right -/
noncomputable def schT (D : List Df) : List Tp := (mkO (whD D) (TD D) (ordN D) (fun _ => 0) []).2
noncomputable def schR (D : List Df) : List Ro := rooN D (mkO (whD D) (TD D) (ordN D) (fun _ => 0) []).1
/-- its fault -/
noncomputable def bldF (D : List Df) : Option (Int × Int) := if (chkS D).2.2 = 0 then (fA D).or (bndF D) else some (((chkS D).2.2 : Int), 0)
noncomputable def bldT (D : List Df) : List Tp := if bldF D = none then schT D else []
noncomputable def bldR (D : List Df) : List Ro := if bldF D = none then schR D else []

end Go.Proofs.Ytpbflfgigfdohaa

set_option linter.unusedSimpArgs false
set_option linter.unusedVariables false
set_option maxRecDepth 100000
namespace Go.Proofs.Ytpbflfgigfdohaa
open Go Go.Vc Go.RowKit Go.Proofs

theorem paV_len (p : Pa) : (paV p).length = 3 := rfl
theorem roV_len (r : Ro) : (roV r).length = 2 := rfl
theorem flm_len {α : Type} {f : α → List Value} {s : Nat} (hs : ∀ a, (f a).length = s) (L : List α) : (L.flatMap f).length = L.length * s := by
  induction L with
  | nil => simp
  | cons a l ih => rw [List.flatMap_cons, List.length_append, hs, ih, List.length_cons, Nat.succ_mul]; omega
theorem pas_len (L : List Pa) : (pas L).length = L.length * 3 := flm_len paV_len L
theorem ros_len (L : List Ro) : (ros L).length = L.length * 2 := flm_len roV_len L
theorem trows_len (L : List Tp) (V : Nat → Value) : (trows L V).length = L.length * 4 := by
  have h := flm_len (f := fun j => tcell (L.getD j tp0) (V j)) (s := 4) (fun _ => rfl) (List.range L.length)
  rw [List.length_range] at h
  exact h
theorem pas_snoc (L : List Pa) (x : Pa) : pas (L ++ [x]) = pas L ++ paV x := by simp [pas]
theorem ros_snoc (L : List Ro) (x : Ro) : ros (L ++ [x]) = ros L ++ roV x := by simp [ros]
theorem one_pas (L : List Pa) : ∀ a ∈ pas L, a.oneCell' = true := by
  intro a ha
  obtain ⟨x, -, hx⟩ := List.mem_flatMap.1 ha
  have : ∀ a ∈ paV x, a.oneCell' = true := by simp [paV, Value.oneCell', st]
  exact this a hx
theorem one_ros (L : List Ro) : ∀ a ∈ ros L, a.oneCell' = true := by
  intro a ha
  obtain ⟨x, -, hx⟩ := List.mem_flatMap.1 ha
  have : ∀ a ∈ roV x, a.oneCell' = true := by simp [roV, Value.oneCell', st]
  exact this a hx
/-- an element of a row that is read -/
theorem Sl.fm {α : Type} {f : α → List Value} {s : Nat} (hs : ∀ a, (f a).length = s) {w : World} {v : Value} {ts : List α} (h : Sl w s v ts.length (ts.flatMap f)) {k : Nat} (hk : k < ts.length) : ∃ b o c, v = .slice (some ⟨b, o, none⟩) ts.length c ∧ Cells w b (o + k * s) (f ts[k]) := by
  rcases h.val with ⟨hz, h0⟩ | ⟨b, o, c, rfl, hnc, hc⟩
  · omega
  exact ⟨b, o, c, rfl, by rw [← fm_at hs ts k hk]; exact hc.sub _ _⟩
theorem Sl.paq {w : World} {v : Value} {ts : List Pa} (h : Sl w 3 v ts.length (pas ts)) {k : Nat} (hk : k < ts.length) : ∃ b o c, v = .slice (some ⟨b, o, none⟩) ts.length c ∧ Cells w b (o + k * 3) (paV ts[k]) := Sl.fm paV_len h hk
theorem Sl.roq {w : World} {v : Value} {ts : List Ro} (h : Sl w 2 v ts.length (ros ts)) {k : Nat} (hk : k < ts.length) : ∃ b o c, v = .slice (some ⟨b, o, none⟩) ts.length c ∧ Cells w b (o + k * 2) (roV ts[k]) := Sl.fm roV_len h hk
theorem Sl.paw {w : World} {b o c : Nat} {ts : List Pa} (h : Sl w 3 (.slice (some ⟨b, o, none⟩) ts.length c) ts.length (pas ts)) {k : Nat} (hk : k < ts.length) : Cells w b (o + k * 3) (paV ts[k]) := by
  obtain ⟨b', o', c', he, hc⟩ := Sl.paq h hk
  simp only [Value.slice.injEq, Option.some.injEq, Addr.mk.injEq] at he
  obtain ⟨⟨rfl, rfl, -⟩, -, -⟩ := he
  exact hc
theorem Sl.row {w : World} {b o c : Nat} {ts : List Ro} (h : Sl w 2 (.slice (some ⟨b, o, none⟩) ts.length c) ts.length (ros ts)) {k : Nat} (hk : k < ts.length) : Cells w b (o + k * 2) (roV ts[k]) := by
  obtain ⟨b', o', c', he, hc⟩ := Sl.roq h hk
  simp only [Value.slice.injEq, Option.some.injEq, Addr.mk.injEq] at he
  obtain ⟨⟨rfl, rfl, -⟩, -, -⟩ := he
  exact hc
theorem tgetD_at {L : List Tp} {k : Nat} (hk : k < L.length) : L.getD k tp0 = L[k] := by simp [List.getD_eq_getElem?_getD, hk]
theorem pasT_at {L : List Tp} {k : Nat} (hk : k < L.length) : pasT L k = L[k].parts := by rw [pasT, tgetD_at hk]
theorem trows_snoc (D : List Tp) (V : Nat → Value) (d : Tp) (v : Value) : trows (D ++ [d]) (fun j => if j = D.length then v else V j) = trows D V ++ tcell d v := by
  rw [trows, List.length_append, List.length_singleton, List.range_succ, List.flatMap_append, List.flatMap_singleton, if_pos rfl]
  congr 1
  · refine dfm_congr fun j hj => ?_
    have hj := List.mem_range.1 hj
    rw [if_neg (by omega)]
    congr 1
    simp [List.getD_eq_getElem?_getD, List.getElem?_append_left hj]
  congr 1
  simp [List.getD_eq_getElem?_getD]
theorem trows_at (D : List Tp) (V : Nat → Value) {k : Nat} (hk : k < D.length) : ((trows D V).drop (k * 4)).take 4 = tcell (D.getD k tp0) (V k) := by
  have h := fm_at (f := fun j => tcell (D.getD j tp0) (V j)) (s := 4) (fun _ => rfl) (List.range D.length) k (by simpa using hk)
  rw [trows, h, List.getElem_range]
/-- types in a row of our own, each list of parts in a block of its own -/
structure Typs (w : World) (H : Nat) (D : List Tp) (dv : Value) (V : Nat → Value) : Prop where
  row : w.ownsRow H 50 4 dv D.length (trows D V)
  tys : Many w H 52 3 D.length V (fun j => (pasT D j).length) (fun j => pas (pasT D j))
theorem Typs.only {w w' : World} {H : Nat} {D : List Tp} {dv : Value} {V : Nat → Value} {F : Nat → Prop} (h : Typs w H D dv V) (ho : Only F w w') (hn : ∀ k, DF dv V D.length k → ¬ F k) : Typs w' H D dv V :=
  ⟨own_only h.row ho (fun k hk => hn k (.inl hk)), h.tys.only ho (fun j hj k hk => hn k (.inr ⟨j, hj, hk⟩))⟩
theorem Typs.ext {w w' : World} {H : Nat} {D : List Tp} {dv : Value} {V : Nat → Value} (h : Typs w H D dv V) (ho : Ext w w') : Typs w' H D dv V := h.only ho (fun _ _ h => h)
theorem Typs.lt {w : World} {H : Nat} {D : List Tp} {dv : Value} {V : Nat → Value} (h : Typs w H D dv V) : ∀ k, DF dv V D.length k → H ≤ k ∧ k < w.heap.size := fun k hk => by
  rcases hk with hk | ⟨j, hj, hk⟩
  · exact h.row.lt k hk
  exact h.tys.lt hj hk
theorem Typs.nil (w : World) (H : Nat) (V : Nat → Value) : Typs w H [] (.slice none 0 0) V := ⟨World.ownsRow_nil _ _ _ _, Many.zero⟩
theorem Typs.mono {w : World} {H H' : Nat} {D : List Tp} {dv : Value} {V : Nat → Value} (h : Typs w H D dv V) (hH : H' ≤ H) : Typs w H' D dv V := ⟨own_mono h.row hH, fun j hj => own_mono (h.tys.row j hj) hH, h.tys.off⟩
theorem Typs.snoc {w : World} {H B : Nat} {D : List Tp} {d : Tp} {V : Nat → Value} {dv v : Value} (hr : w.ownsRow H 50 4 dv (D.length + 1) (trows D V ++ tcell d v)) (ht : Many w H 52 3 D.length V (fun j => (pasT D j).length) (fun j => pas (pasT D j)))
    (hf : w.ownsRow B 52 3 v d.parts.length (pas d.parts)) (hB : H ≤ B) (hlt : ∀ j, j < D.length → ∀ k, (V j).ownBlock = some k → k < B) : Typs w H (D ++ [d]) dv (fun j => if j = D.length then v else V j) := by
  have e1 : ∀ j, j < D.length → pasT (D ++ [d]) j = pasT D j := fun j hj => by simp [pasT, List.getD_eq_getElem?_getD, List.getElem?_append_left hj]
  have e2 : pasT (D ++ [d]) D.length = d.parts := by simp [pasT, List.getD_eq_getElem?_getD]
  refine ⟨by rw [List.length_append, List.length_singleton, trows_snoc]; exact hr, ?_⟩
  rw [List.length_append, List.length_singleton]
  exact Many.snocG (ht.congr (fun _ _ => rfl) (fun j hj => by rw [e1 j hj]) (fun j hj => by rw [e1 j hj])) hf hB hlt (by rw [e2]) (by rw [e2])
/-- types that are read -/
structure TypR (w : World) (D : List Tp) (dv : Value) (V : Nat → Value) : Prop where
  row : Sl w 4 dv D.length (trows D V)
  tys : ∀ j, j < D.length → Sl w 3 (V j) (pasT D j).length (pas (pasT D j))
theorem TypR.only {w w' : World} {D : List Tp} {dv : Value} {V : Nat → Value} {F : Nat → Prop} (h : TypR w D dv V) (ho : Only F w w') (hn : ∀ k, DF dv V D.length k → ¬ F k) : TypR w' D dv V :=
  ⟨h.row.only ho (fun k hk => hn k (.inl hk)), fun j hj => (h.tys j hj).only ho (fun k hk => hn k (.inr ⟨j, hj, hk⟩))⟩
theorem TypR.ext {w w' : World} {D : List Tp} {dv : Value} {V : Nat → Value} (h : TypR w D dv V) (ho : Ext w w') : TypR w' D dv V := h.only ho (fun _ _ h => h)
theorem Typs.rd {w : World} {H : Nat} {D : List Tp} {dv : Value} {V : Nat → Value} (h : Typs w H D dv V) : TypR w D dv V := ⟨Sl.own h.row, fun j hj => Sl.own (h.tys.row j hj)⟩
theorem TypR.atk {w : World} {D : List Tp} {dv : Value} {V : Nat → Value} (h : TypR w D dv V) {k : Nat} (hk : k < D.length) : ∃ b o c, dv = .slice (some ⟨b, o, none⟩) D.length c ∧ Cells w b (o + k * 4) (tcell D[k] (V k)) ∧ Sl w 3 (V k) D[k].parts.length (pas D[k].parts) := by
  have h3 := h.tys k hk
  rw [pasT_at hk] at h3
  rcases h.row.val with ⟨hz, h0⟩ | ⟨b, o, c, rfl, hnc, hc⟩
  · omega
  exact ⟨b, o, c, rfl, by rw [← tgetD_at hk, ← trows_at D V hk]; exact hc.sub _ _, h3⟩
/-- a schema that is read: its types, its roots -/
structure SchR (w : World) (L : List Tp) (R : List Ro) (tv rv : Value) (V : Nat → Value) : Prop where
  ty : TypR w L tv V
  ro : Sl w 2 rv R.length (ros R)
theorem SchR.ext {w w' : World} {L : List Tp} {R : List Ro} {tv rv : Value} {V : Nat → Value} (h : SchR w L R tv rv V) (ho : Ext w w') : SchR w' L R tv rv V := ⟨h.ty.ext ho, h.ro.ext ho⟩
/-- sizes that a machine can hold -/
structure SOk (L : List Tp) (R : List Ro) : Prop where
  len : L.length * 48 ≤ 140737488351232
  pa : ∀ t ∈ L, t.parts.length * 32 ≤ 140737488351232
  ro : R.length * 24 ≤ 140737488351232
  lb : ∀ t ∈ L, ∀ p ∈ t.parts, p.label.length ≤ 9223372036854775807
  nm : ∀ r ∈ R, r.name.length ≤ 9223372036854775807
/-- a schema of ours -/
structure Schs (w : World) (H : Nat) (L : List Tp) (R : List Ro) (tv rv : Value) (V : Nat → Value) : Prop where
  ty : Typs w H L tv V
  ro : w.ownsRow H 47 2 rv R.length (ros R)
theorem Schs.rd {w : World} {H : Nat} {L : List Tp} {R : List Ro} {tv rv : Value} {V : Nat → Value} (h : Schs w H L R tv rv V) : SchR w L R tv rv V := ⟨h.ty.rd, Sl.own h.ro⟩
theorem Schs.ext {w w' : World} {H : Nat} {L : List Tp} {R : List Ro} {tv rv : Value} {V : Nat → Value} (h : Schs w H L R tv rv V) (ho : Ext w w') : Schs w' H L R tv rv V := ⟨h.ty.ext ho, own_ext h.ro ho⟩

end Go.Proofs.Ytpbflfgigfdohaa

set_option linter.unusedSimpArgs false
set_option linter.unusedVariables false
set_option maxRecDepth 100000
namespace Go.Proofs.Ytpbflfgigfdohaa
open Go Go.Vc Go.RowKit Go.Proofs

def numOk (kind n : Int) : Prop := if kind = 1 then n = 1 ∨ n = 2 ∨ n = 4 ∨ n = 8 else if kind = 4 ∨ kind = 5 then 1 ≤ n ∧ n ≤ 1048576 else n = 0
/-- a part: its label or tag, its type; none ahead of it is like it -/
def paOk (t : Tp) (at_ : Int) (k : Nat) : Prop := ∃ hk : k < t.parts.length,
  (if t.kind = 8 then nameB t.parts[k].label = true ∧ t.parts[k].tag = 0 else t.parts[k].label = [] ∧ 0 ≤ t.parts[k].tag ∧ t.parts[k].tag ≤ 255) ∧ 0 ≤ t.parts[k].ty ∧ t.parts[k].ty < at_ ∧
  ∀ j (hj : j < k), ¬ (t.parts[j].label = t.parts[k].label ∧ t.parts[j].tag = t.parts[k].tag)
def partsOk (t : Tp) (at_ : Int) : Prop := 1 ≤ t.parts.length ∧ t.parts.length ≤ 64 ∧ ∀ k, k < t.parts.length → paOk t at_ k
def tpOk (t : Tp) (at_ : Int) : Prop := numOk t.kind t.n ∧
  (if t.kind = 1 ∨ t.kind = 2 ∨ t.kind = 3 then t.elem = 0 ∧ t.parts = []
   else if t.kind = 4 ∨ t.kind = 5 ∨ t.kind = 6 then 0 ≤ t.elem ∧ t.elem < at_ ∧ t.parts = []
   else (t.kind = 7 ∨ t.kind = 8) ∧ t.elem = 0 ∧ partsOk t at_)
open Classical in
noncomputable def tpF (L : List Tp) : Option (Int × Int) := firstN L.length fun i => if tpOk (L.getD i tp0) (i : Int) then none else some (92, (i : Int))
/-- how deep a type is, by the depths of those ahead -/
def dpT1 (t : Tp) (d : List Nat) : Nat := t.parts.foldl (fun m p => max m (d.getD p.ty.toNat 0)) (if t.kind = 4 ∨ t.kind = 5 ∨ t.kind = 6 then d.getD t.elem.toNat 0 else 0) + 1
def depL : List Tp → List Nat → List Nat
  | [], d => d
  | t :: L, d => depL L (d ++ [dpT1 t d])
theorem depL_snoc : ∀ (L : List Tp) (t : Tp) (d : List Nat), depL (L ++ [t]) d = depL L d ++ [dpT1 t (depL L d)]
  | [], t, d => rfl
  | a :: L, t, d => by rw [List.cons_append, depL, depL_snoc L, depL]
theorem depL_len : ∀ (L : List Tp) (d : List Nat), (depL L d).length = d.length + L.length
  | [], d => rfl
  | a :: L, d => by rw [depL, depL_len L, List.length_append]; simp; omega
theorem depL_take {L : List Tp} {k : Nat} (hk : k < L.length) : depL (L.take (k + 1)) [] = depL (L.take k) [] ++ [dpT1 L[k] (depL (L.take k) [])] := by
  rw [List.take_succ_eq_append_getElem hk, depL_snoc]
theorem depL_app : ∀ (L M : List Tp) (d : List Nat), depL (L ++ M) d = depL M (depL L d)
  | [], M, d => rfl
  | a :: L, M, d => by rw [List.cons_append, depL, depL_app L, depL]
theorem depL_pre : ∀ (M : List Tp) (d : List Nat), ∃ r, depL M d = d ++ r
  | [], d => ⟨[], by simp [depL]⟩
  | a :: M, d => by
    obtain ⟨r, hr⟩ := depL_pre M (d ++ [dpT1 a d])
    exact ⟨dpT1 a d :: r, by rw [depL, hr, List.append_assoc]; rfl⟩
/-- the depth of a type among all -/
def dpI (L : List Tp) (i : Nat) : Nat := (depL L []).getD i 0
theorem depL_take_eq (L : List Tp) (k : Nat) (hk : k ≤ L.length) : depL (L.take k) [] = (depL L []).take k := by
  obtain ⟨r, hr⟩ := depL_pre (L.drop k) (depL (L.take k) [])
  rw [← depL_app, List.take_append_drop] at hr
  rw [hr, List.take_left' (by rw [depL_len]; simp; omega)]
theorem dpI_at {L : List Tp} {i : Nat} (hi : i < L.length) : dpI L i = dpT1 L[i] (depL (L.take i) []) := by
  have h1 := depL_take hi
  have h2 := depL_take_eq L (i + 1) (by omega)
  unfold dpI
  have hl : (depL (L.take i) []).length = i := by rw [depL_len]; simp; omega
  have h3 : ((depL L []).take (i + 1))[i]? = some (dpT1 L[i] (depL (L.take i) [])) := by
    rw [← h2, h1, List.getElem?_append_right (by omega), hl]; simp
  rw [List.getElem?_take] at h3
  simp at h3
  rw [List.getD_eq_getElem?_getD, h3]; rfl
def dpF (L : List Tp) : Option (Int × Int) := firstN L.length fun i => if 64 < dpI L i then some (83, (i : Int)) else none
def ro0 : Ro := ⟨[], 0⟩
/-- a root: its name, unlike those ahead; its type; its number -/
def roOk (n : Nat) (R : List Ro) (i : Nat) : Prop := i < 256 ∧ nameB (R.getD i ro0).name = true ∧ 0 ≤ (R.getD i ro0).ty ∧ (R.getD i ro0).ty < (n : Int) ∧ ∀ j, j < i → (R.getD j ro0).name ≠ (R.getD i ro0).name
open Classical in
noncomputable def roF (n : Nat) (R : List Ro) : Option (Int × Int) := firstN R.length fun i => if roOk n R i then none else some (92, (n : Int) + (i : Int))
noncomputable def scF (L : List Tp) (R : List Ro) : Option (Int × Int) := (tpF L).or ((dpF L).or (roF L.length R))
def whR (R : List Ro) (nm : List UInt8) : Option Nat := R.findIdx? (fun r => decide (r.name = nm))

end Go.Proofs.Ytpbflfgigfdohaa

set_option linter.unusedSimpArgs false
set_option linter.unusedVariables false
set_option maxRecDepth 100000
namespace Go.Proofs.Ytpbflfgigfdohaa
open Go Go.Vc Go.RowKit Go.Proofs

/-- how many nodes are no names -/
def cntN (L : List Ex) : Nat := (L.filter (fun x => decide (x.kind ≠ 9))).length
theorem cntN_app (L M : List Ex) : cntN (L ++ M) = cntN L + cntN M := by simp [cntN]
mutual
theorem mkT_pre (rt : List UInt8 → Int) : ∀ (t : Tr) (L : List Tp), t.leafy → ∃ M, (mkT rt t L).2 = L ++ M ∧ M.length = cntN t.flat
  | .node y ks, L, h => by
    obtain ⟨h9, hl⟩ := h
    unfold mkT
    split
    · rename_i hk
      have := h9 hk
      subst this
      exact ⟨[], by simp, by simp [Tr.flat, Trs.flat, cntN, hk]⟩
    rename_i hk
    obtain ⟨M, h1, h2⟩ := mkK_pre rt y.kind ks L 0 [] hl
    refine ⟨M ++ [⟨y.kind, y.n, (mkK rt y.kind ks L 0 []).1, (mkK rt y.kind ks L 0 []).2.1⟩], by show (mkK rt y.kind ks L 0 []).2.2 ++ _ = _; rw [h1, List.append_assoc], ?_⟩
    rw [List.length_append, h2]
    show cntN ks.flat + 1 = cntN (y :: ks.flat)
    simp [cntN, hk]
theorem mkK_pre (rt : List UInt8 → Int) (kind : Int) : ∀ (ts : Trs) (L : List Tp) (el : Int) (ps : List Pa), ts.leafy → ∃ M, (mkK rt kind ts L el ps).2.2 = L ++ M ∧ M.length = cntN ts.flat
  | .nil, L, el, ps, _ => ⟨[], by simp [mkK], rfl⟩
  | .cons t ts, L, el, ps, h => by
    obtain ⟨M, h1, h2⟩ := mkT_pre rt t L h.1
    have key : ∀ el ps, ∃ N, (mkK rt kind ts (mkT rt t L).2 el ps).2.2 = L ++ N ∧ N.length = cntN (Trs.cons t ts).flat := fun el ps => by
      obtain ⟨N, h3, h4⟩ := mkK_pre rt kind ts (mkT rt t L).2 el ps h.2
      refine ⟨M ++ N, by rw [h3, h1, List.append_assoc], ?_⟩
      rw [List.length_append, h2, h4]
      show _ = cntN (t.flat ++ ts.flat)
      rw [cntN_app]
    unfold mkK
    split
    · exact key _ _
    exact key _ _
end
/-- parts, so far -/
def PsOk (kind : Int) (n : Int) (ps : List Pa) : Prop := ∀ k (hk : k < ps.length), (if kind = 8 then nameB ps[k].label = true ∧ ps[k].tag = 0 else ps[k].label = [] ∧ 0 ≤ ps[k].tag ∧ ps[k].tag ≤ 255) ∧ 0 ≤ ps[k].ty ∧ ps[k].ty < n ∧ ∀ j (hj : j < k), ¬ (ps[j].label = ps[k].label ∧ ps[j].tag = ps[k].tag)
theorem PsOk.mono {kind n m : Int} {ps : List Pa} (h : PsOk kind n ps) (hm : n ≤ m) : PsOk kind m ps := fun k hk => by
  obtain ⟨h1, h2, h3, h4⟩ := h k hk
  exact ⟨h1, h2, by omega, h4⟩
theorem PsOk.nil (kind n : Int) : PsOk kind n [] := fun k hk => by simp at hk
theorem PsOk.snoc {kind n : Int} {ps : List Pa} {p : Pa} (h : PsOk kind n ps) (h1 : if kind = 8 then nameB p.label = true ∧ p.tag = 0 else p.label = [] ∧ 0 ≤ p.tag ∧ p.tag ≤ 255) (h2 : 0 ≤ p.ty) (h3 : p.ty < n) (h4 : ∀ q ∈ ps, ¬ (q.label = p.label ∧ q.tag = p.tag)) : PsOk kind n (ps ++ [p]) := fun k hk => by
  have hl : (ps ++ [p]).length = ps.length + 1 := by simp
  rcases Nat.lt_or_ge k ps.length with hk1 | hk1
  · obtain ⟨g1, g2, g3, g4⟩ := h k hk1
    refine ⟨?_, ?_, ?_, fun j hj => ?_⟩
    · rw [List.getElem_append_left hk1]; exact g1
    · rw [List.getElem_append_left hk1]; exact g2
    · rw [List.getElem_append_left hk1]; exact g3
    rw [List.getElem_append_left hk1, List.getElem_append_left (by omega)]; exact g4 j hj
  have e : k = ps.length := by omega
  subst e
  have ee : (ps ++ [p])[ps.length] = p := by simp
  refine ⟨by rw [ee]; exact h1, by rw [ee]; exact h2, by rw [ee]; exact h3, fun j hj => ?_⟩
  rw [ee, List.getElem_append_left hj]
  exact h4 _ (List.getElem_mem hj)
/-- a list of types that are right, none deeper than 64 -/
structure LOk (L : List Tp) : Prop where
  ok : ∀ i (hi : i < L.length), tpOk L[i] (i : Int)
  dp : ∀ i, i < L.length → dpI L i ≤ 64
theorem dpI_app {L M : List Tp} {i : Nat} (hi : i < L.length) : dpI (L ++ M) i = dpI L i := by
  obtain ⟨r, hr⟩ := depL_pre M (depL L [])
  unfold dpI
  rw [depL_app, hr, List.getD_eq_getElem?_getD, List.getD_eq_getElem?_getD, List.getElem?_append_left (by rw [depL_len]; simpa using hi)]
theorem dpI_last (L : List Tp) (t : Tp) : dpI (L ++ [t]) L.length = dpT1 t (depL L []) := by
  unfold dpI
  rw [depL_snoc, List.getD_eq_getElem?_getD, List.getElem?_append_right (by rw [depL_len]; simp), depL_len]
  simp
theorem LOk.nil : LOk [] := ⟨fun i hi => by simp at hi, fun i hi => by simp at hi⟩
theorem LOk.snoc {L : List Tp} {t : Tp} (h : LOk L) (h1 : tpOk t (L.length : Int)) (h2 : dpT1 t (depL L []) ≤ 64) : LOk (L ++ [t]) := by
  refine ⟨fun i hi => ?_, fun i hi => ?_⟩
  · rcases Nat.lt_or_ge i L.length with hk | hk
    · rw [List.getElem_append_left hk]; exact h.ok i hk
    have e : i = L.length := by simp at hi; omega
    subst e
    rw [List.getElem_append_right (Nat.le_refl _)]
    simpa using h1
  rcases Nat.lt_or_ge i L.length with hk | hk
  · rw [dpI_app hk]; exact h.dp i hk
  have e : i = L.length := by simp at hi; omega
  subst e
  rw [dpI_last]; exact h2
/-- the depth of what the parts hold -/
def dpP (L : List Tp) (ps : List Pa) : Nat := ps.foldl (fun m p => max m (dpI L p.ty.toNat)) 0
theorem foldl_congr {ps : List Pa} {f g : Nat → Pa → Nat} {a : Nat} (h : ∀ p ∈ ps, ∀ m, f m p = g m p) : ps.foldl f a = ps.foldl g a := by
  induction ps generalizing a with
  | nil => rfl
  | cons p l ih => rw [List.foldl_cons, List.foldl_cons, h p (List.mem_cons_self ..), ih (fun q hq => h q (List.mem_cons_of_mem _ hq))]
theorem dpP_app {L M : List Tp} {ps : List Pa} (h : ∀ p ∈ ps, 0 ≤ p.ty ∧ p.ty < (L.length : Int)) : dpP (L ++ M) ps = dpP L ps :=
  foldl_congr fun p hp m => by
    obtain ⟨h1, h2⟩ := h p hp
    rw [dpI_app (by omega)]
theorem dpP_snoc (L : List Tp) (ps : List Pa) (p : Pa) : dpP L (ps ++ [p]) = max (dpP L ps) (dpI L p.ty.toNat) := by simp [dpP]
theorem PsOk.rng {kind n : Int} {ps : List Pa} (h : PsOk kind n ps) : ∀ p ∈ ps, 0 ≤ p.ty ∧ p.ty < n := fun p hp => by
  obtain ⟨k, hk, rfl⟩ := List.getElem_of_mem hp
  obtain ⟨-, h1, h2, -⟩ := h k hk
  exact ⟨h1, h2⟩
theorem depK_ge1 {wh : List UInt8 → Nat} {dp : Nat → Nat} : ∀ (ts : Trs) (m : Nat), m ≤ depK wh dp ts m
  | .nil, m => Nat.le_refl _
  | .cons t ts, m => by unfold depK; exact Nat.le_trans (Nat.le_max_left _ _) (depK_ge1 ts _)
theorem depK_kid {wh : List UInt8 → Nat} {dp : Nat → Nat} {t : Tr} {ts : Trs} {m : Nat} : depT wh dp t ≤ depK wh dp (.cons t ts) m := by unfold depK; exact Nat.le_trans (Nat.le_max_right _ _) (depK_ge1 ts _)
theorem top_right {t : Tr} {a : Int} {d : Nat} (h : t.wf a d) : rightB t.top a = true := by cases t; exact h.2.2.1
/-- of names: their roots are types, asx deep asx they -/
def Nmd (wh : List UInt8 → Nat) (dp : Nat → Nat) (rt : List UInt8 → Int) (L : List Tp) (F : List Ex) : Prop := ∀ x ∈ F, x.kind = 9 → 0 ≤ rt x.name ∧ rt x.name < (L.length : Int) ∧ dpI L (rt x.name).toNat = dp (wh x.name)
theorem Nmd.app {wh : List UInt8 → Nat} {dp : Nat → Nat} {rt : List UInt8 → Int} {L M : List Tp} {F : List Ex} (h : Nmd wh dp rt L F) : Nmd wh dp rt (L ++ M) F := fun x hx h9 => by
  obtain ⟨h1, h2, h3⟩ := h x hx h9
  exact ⟨h1, by rw [List.length_append]; omega, by rw [dpI_app (by omega)]; exact h3⟩
mutual
theorem mkT_ok {wh : List UInt8 → Nat} {dp : Nat → Nat} {rt : List UInt8 → Int} : ∀ (t : Tr) (L : List Tp) (a : Int) (d p : Nat), t.wf a d → dupT t p = [] → (∀ x ∈ t.flat, outB x = false) → Nmd wh dp rt L t.flat → LOk L → depT wh dp t ≤ 64 →
    LOk (mkT rt t L).2 ∧ 0 ≤ (mkT rt t L).1 ∧ (mkT rt t L).1 < ((mkT rt t L).2.length : Int) ∧ dpI (mkT rt t L).2 (mkT rt t L).1.toNat = depT wh dp t
  | .node y ks, L, a, d, p, hw, hdup, hout, hnm, hL, hd => by
    by_cases hk : y.kind = 9
    · obtain ⟨h1, h2, h3⟩ := hnm y (List.mem_cons_self ..) hk
      unfold mkT depT
      rw [if_pos hk, if_pos hk]
      exact ⟨hL, h1, h2, h3⟩
    obtain ⟨-, hmany, hr, hkids, hks⟩ := hw
    obtain ⟨hok, -, -, -⟩ := rightB_iff hr
    have hdd : depT wh dp (.node y ks) = depK wh dp ks 0 + 1 := by unfold depT; rw [if_neg hk]
    rw [hdd] at hd
    have hoy := hout y (List.mem_cons_self ..)
    have hot : ∀ x ∈ ks.flat, outB x = false := fun x hx => hout x (List.mem_cons_of_mem _ hx)
    have hnt : Nmd wh dp rt L ks.flat := fun x hx => hnm x (List.mem_cons_of_mem _ hx)
    obtain ⟨g1, g2, g3, g4, g5⟩ := mkK_ok (wh := wh) (dp := dp) (rt := rt) y.kind ks L 0 (d + 1) (p + 1) [] [] 0 hks (by rw [dupT] at hdup; exact hdup) hot hnt hL (by omega) (PsOk.nil _ _) (fun _ => rfl) (fun _ => rfl)
    have hm : mkT rt (.node y ks) L = (((mkK rt y.kind ks L 0 []).2.2.length : Int), (mkK rt y.kind ks L 0 []).2.2 ++ [⟨y.kind, y.n, (mkK rt y.kind ks L 0 []).1, (mkK rt y.kind ks L 0 []).2.1⟩]) := by rw [mkT, if_neg hk]
    rw [hm, hdd]
    obtain ⟨K, hK⟩ : ∃ K, K = mkK rt y.kind ks L 0 [] := ⟨_, rfl⟩
    rw [← hK] at g1 g3 g4 g5 ⊢
    have hdep : dpT1 ⟨y.kind, y.n, K.1, K.2.1⟩ (depL K.2.2 []) = depK wh dp ks 0 + 1 ∧ tpOk ⟨y.kind, y.n, K.1, K.2.1⟩ (K.2.2.length : Int) := by
      have hfold : ∀ (ps : List Pa) (m : Nat), ps.foldl (fun m p => max m ((depL K.2.2 []).getD p.ty.toNat 0)) m = ps.foldl (fun m p => max m (dpI K.2.2 p.ty.toNat)) m := fun ps m => rfl
      unfold dpT1
      by_cases h7 : many7 y.kind
      · obtain ⟨q1, q2, q3⟩ := g4 h7
        have hn4 : ¬ (y.kind = 4 ∨ y.kind = 5 ∨ y.kind = 6) := by unfold many7 at h7; omega
        refine ⟨?_, ?_, ?_⟩
        · show List.foldl _ (if y.kind = 4 ∨ y.kind = 5 ∨ y.kind = 6 then _ else 0) K.2.1 + 1 = _
          rw [if_neg hn4, hfold]
          show dpP K.2.2 K.2.1 + 1 = _
          rw [q2]
        · show numOk y.kind y.n
          unfold numOk
          rw [if_neg (by unfold many7 at h7; omega), if_neg (by omega)]
          rcases okB_cases hok with g | g | g | g | g <;> unfold many7 at h7 <;> omega
        show (if y.kind = 1 ∨ y.kind = 2 ∨ y.kind = 3 then _ else _)
        rw [if_neg (by unfold many7 at h7; omega), if_neg (show ¬ (y.kind = 4 ∨ y.kind = 5 ∨ y.kind = 6) from hn4)]
        refine ⟨h7, q3, ?_, ?_, fun k hk2 => ⟨hk2, g3 k hk2⟩⟩
        · show 1 ≤ K.2.1.length
          have := q1
          rcases okB_cases hok with g | g | g | g | g <;> unfold many7 at h7 <;> simp at this <;> omega
        show K.2.1.length ≤ 64
        have := (rightB_kids hr hmany).2
        simp at q1; omega
      obtain ⟨q1, q2⟩ := g5 h7
      have hp : K.2.1 = [] := q1
      rcases okB_cases hok with g | g | g | g | g
      · have hnil : ks = .nil := trs_nil (by omega)
        subst hnil
        have hel : K.1 = 0 := by rw [hK]; rfl
        refine ⟨?_, ?_, ?_⟩
        · show List.foldl _ (if y.kind = 4 ∨ y.kind = 5 ∨ y.kind = 6 then _ else 0) K.2.1 + 1 = _
          rw [if_neg (by omega), hp]; rfl
        · show numOk y.kind y.n
          unfold numOk
          rw [if_pos g.1]; exact g.2.1
        show (if y.kind = 1 ∨ y.kind = 2 ∨ y.kind = 3 then _ else _)
        rw [if_pos (by omega)]; exact ⟨hel, hp⟩
      · have hnil : ks = .nil := trs_nil (by omega)
        subst hnil
        have hel : K.1 = 0 := by rw [hK]; rfl
        refine ⟨?_, ?_, ?_⟩
        · show List.foldl _ (if y.kind = 4 ∨ y.kind = 5 ∨ y.kind = 6 then _ else 0) K.2.1 + 1 = _
          rw [if_neg (by omega), hp]; rfl
        · show numOk y.kind y.n
          unfold numOk
          rw [if_neg (by omega), if_neg (by omega)]; exact g.2.1
        show (if y.kind = 1 ∨ y.kind = 2 ∨ y.kind = 3 then _ else _)
        rw [if_pos (by omega)]; exact ⟨hel, hp⟩
      · obtain ⟨t, rfl⟩ := trs_one (show ks.len = 1 by omega)
        obtain ⟨r1, r2, r3⟩ := q2 t rfl
        refine ⟨?_, ?_, ?_⟩
        · show List.foldl _ (if y.kind = 4 ∨ y.kind = 5 ∨ y.kind = 6 then (depL K.2.2 []).getD K.1.toNat 0 else 0) K.2.1 + 1 = _
          rw [if_pos (by omega), hp]
          show dpI K.2.2 K.1.toNat + 1 = _
          rw [r3]; unfold depK depK; simp
        · show numOk y.kind y.n
          unfold numOk
          rw [if_neg (by omega), if_pos (by omega)]
          unfold outB at hoy
          simp at hoy
          omega
        show (if y.kind = 1 ∨ y.kind = 2 ∨ y.kind = 3 then _ else _)
        rw [if_neg (by omega), if_pos (show y.kind = 4 ∨ y.kind = 5 ∨ y.kind = 6 by omega)]; exact ⟨r1, r2, hp⟩
      · obtain ⟨t, rfl⟩ := trs_one (show ks.len = 1 by omega)
        obtain ⟨r1, r2, r3⟩ := q2 t rfl
        refine ⟨?_, ?_, ?_⟩
        · show List.foldl _ (if y.kind = 4 ∨ y.kind = 5 ∨ y.kind = 6 then (depL K.2.2 []).getD K.1.toNat 0 else 0) K.2.1 + 1 = _
          rw [if_pos (by omega), hp]
          show dpI K.2.2 K.1.toNat + 1 = _
          rw [r3]; unfold depK depK; simp
        · show numOk y.kind y.n
          unfold numOk
          rw [if_neg (by omega), if_neg (by omega)]; exact g.2.1
        show (if y.kind = 1 ∨ y.kind = 2 ∨ y.kind = 3 then _ else _)
        rw [if_neg (by omega), if_pos (show y.kind = 4 ∨ y.kind = 5 ∨ y.kind = 6 by omega)]; exact ⟨r1, r2, hp⟩
      exact absurd g.1 h7
    refine ⟨g1.snoc hdep.2 (by rw [hdep.1]; exact hd), by show (0 : Int) ≤ (K.2.2.length : Int); omega, by show (K.2.2.length : Int) < ((K.2.2 ++ _).length : Int); rw [List.length_append]; simp; omega, ?_⟩
    show dpI (K.2.2 ++ _) ((K.2.2.length : Int)).toNat = _
    rw [Int.toNat_natCast, dpI_last, hdep.1]
theorem mkK_ok {wh : List UInt8 → Nat} {dp : Nat → Nat} {rt : List UInt8 → Int} (kind : Int) : ∀ (ts : Trs) (L : List Tp) (el : Int) (d p : Nat) (seen : List Ex) (ps : List Pa) (m : Nat), ts.wf kind d → dupK kind ts p seen = [] → (∀ x ∈ ts.flat, outB x = false) → Nmd wh dp rt L ts.flat → LOk L → depK wh dp ts m ≤ 64 → PsOk kind (L.length : Int) ps →
    (many7 kind → ps.map (fun q => (q.label, q.tag)) = seen.map (fun x => (x.label, x.tag))) → (many7 kind → dpP L ps = m) →
    LOk (mkK rt kind ts L el ps).2.2 ∧ True ∧ PsOk kind ((mkK rt kind ts L el ps).2.2.length : Int) (mkK rt kind ts L el ps).2.1 ∧
      (many7 kind → (mkK rt kind ts L el ps).2.1.length = ps.length + ts.len ∧ dpP (mkK rt kind ts L el ps).2.2 (mkK rt kind ts L el ps).2.1 = depK wh dp ts m ∧ (mkK rt kind ts L el ps).1 = el) ∧
      (¬ many7 kind → (mkK rt kind ts L el ps).2.1 = ps ∧ ∀ t, ts = .cons t .nil → 0 ≤ (mkK rt kind ts L el ps).1 ∧ (mkK rt kind ts L el ps).1 < ((mkK rt kind ts L el ps).2.2.length : Int) ∧ dpI (mkK rt kind ts L el ps).2.2 (mkK rt kind ts L el ps).1.toNat = depT wh dp t)
  | .nil, L, el, d, p, seen, ps, m, hw, hdup, hout, hnm, hL, hd, hps, hsn, hm => ⟨hL, trivial, hps, fun h => ⟨by simp [mkK, Trs.len], hm h, rfl⟩, fun h => ⟨rfl, fun t ht => by cases ht⟩⟩
  | .cons t ts, L, el, d, p, seen, ps, m, hw, hdup, hout, hnm, hL, hd, hps, hsn, hm => by
    rw [dupK, List.append_eq_nil_iff, List.append_eq_nil_iff] at hdup
    obtain ⟨hd1, hd2, hd3⟩ := hdup
    have hnd : dupB kind seen t.top = false := by
      cases hb : dupB kind seen t.top with
      | false => rfl
      | true => rw [hb, if_pos rfl] at hd1; cases hd1
    have hkid : depT wh dp t ≤ 64 := Nat.le_trans depK_kid hd
    obtain ⟨g1, g2, g3, g4⟩ := mkT_ok (wh := wh) (dp := dp) (rt := rt) t L kind d p hw.1 hd2 (fun x hx => hout x (List.mem_append_left _ hx)) (fun x hx => hnm x (List.mem_append_left _ hx)) hL hkid
    obtain ⟨M, hM, -⟩ := mkT_pre rt t L (wf_leafy t _ _ hw.1)
    obtain ⟨r, hr⟩ : ∃ r, r = mkT rt t L := ⟨_, rfl⟩
    rw [← hr] at g1 g2 g3 g4 hM
    have hlen : (L.length : Int) ≤ (r.2.length : Int) := by rw [hM, List.length_append]; omega
    have hnm2 : Nmd wh dp rt r.2 ts.flat := by rw [hM]; exact Nmd.app (fun x hx => hnm x (List.mem_append_right _ hx))
    have hd' : depK wh dp ts (max m (depT wh dp t)) ≤ 64 := hd
    by_cases h7 : many7 kind
    · have htr := top_right hw.1
      obtain ⟨-, -, hlb, htg⟩ := rightB_iff htr
      have hob : outB t.top = false := hout _ (List.mem_append_left _ (by cases t; exact List.mem_cons_self ..))
      have hp1 : if kind = 8 then nameB t.top.label = true ∧ t.top.tag = 0 else t.top.label = [] ∧ 0 ≤ t.top.tag ∧ t.top.tag ≤ 255 := by
        unfold labB at hlb
        unfold tagB at htg
        unfold outB at hob
        simp at htg hob
        unfold many7 at h7
        split
        · rename_i h8
          rw [if_pos h8] at hlb
          exact ⟨hlb, by omega⟩
        rename_i h8
        rw [if_neg h8] at hlb
        exact ⟨by simpa using hlb, by omega, by omega⟩
      have hp4 : ∀ q ∈ ps, ¬ (q.label = t.top.label ∧ q.tag = t.top.tag) := fun q hq ⟨e1, e2⟩ => by
        have h1 : (q.label, q.tag) ∈ ps.map (fun q => (q.label, q.tag)) := List.mem_map.2 ⟨q, hq, rfl⟩
        rw [hsn h7] at h1
        obtain ⟨s, hs, he⟩ := List.mem_map.1 h1
        simp only [Prod.mk.injEq] at he
        unfold dupB at hnd
        unfold many7 at h7
        split at hnd
        · have := List.any_eq_false.1 hnd s hs
          simp at this
          exact this (he.1.trans e1)
        rw [if_pos (by omega)] at hnd
        have := List.any_eq_false.1 hnd s hs
        simp at this
        exact this (he.2.trans e2)
      have hps2 : PsOk kind (r.2.length : Int) (ps ++ [⟨t.top.label, t.top.tag, r.1⟩]) := (hps.mono hlen).snoc hp1 g2 g3 hp4
      have hm2 : dpP r.2 (ps ++ [⟨t.top.label, t.top.tag, r.1⟩]) = max m (depT wh dp t) := by
        rw [dpP_snoc, g4, hM, dpP_app hps.rng, hm h7]
      obtain ⟨k1, k2, k3, k4, k5⟩ := mkK_ok (wh := wh) (dp := dp) (rt := rt) kind ts r.2 el d _ (seen ++ [t.top]) (ps ++ [⟨t.top.label, t.top.tag, r.1⟩]) _ hw.2 hd3 (fun x hx => hout x (List.mem_append_right _ hx)) hnm2 g1 hd' hps2 (fun h => by rw [List.map_append, List.map_append, hsn h]; rfl) (fun _ => hm2)
      have he : mkK rt kind (.cons t ts) L el ps = mkK rt kind ts r.2 el (ps ++ [⟨t.top.label, t.top.tag, r.1⟩]) := by rw [mkK, if_pos h7, hr]
      rw [he]
      refine ⟨k1, trivial, k3, fun h => ?_, fun h => absurd h7 h⟩
      obtain ⟨q1, q2, q3⟩ := k4 h
      exact ⟨by rw [q1]; simp [Trs.len]; omega, q2, q3⟩
    obtain ⟨k1, k2, k3, k4, k5⟩ := mkK_ok (wh := wh) (dp := dp) (rt := rt) kind ts r.2 r.1 d _ (seen ++ [t.top]) ps _ hw.2 hd3 (fun x hx => hout x (List.mem_append_right _ hx)) hnm2 g1 hd' (hps.mono hlen) (fun h => absurd h h7) (fun h => absurd h h7)
    have he : mkK rt kind (.cons t ts) L el ps = mkK rt kind ts r.2 r.1 ps := by rw [mkK, if_neg h7, hr]
    rw [he]
    refine ⟨k1, trivial, k3, fun h => absurd h h7, fun h => ⟨(k5 h).1, fun t' ht => ?_⟩⟩
    cases ht
    exact ⟨g2, g3, g4⟩
end

end Go.Proofs.Ytpbflfgigfdohaa

set_option linter.unusedSimpArgs false
set_option linter.unusedVariables false
set_option maxRecDepth 100000
namespace Go.Proofs.Ytpbflfgigfdohaa
open Go Go.Vc Go.RowKit Go.Proofs

/-- used by a type -/
def Usd (L : List Tp) (j : Nat) : Prop := ∃ i, ∃ hi : i < L.length, ((L[i].kind = 4 ∨ L[i].kind = 5 ∨ L[i].kind = 6) ∧ L[i].elem = (j : Int)) ∨ ∃ p ∈ L[i].parts, p.ty = (j : Int)
theorem Usd.app {L M : List Tp} {j : Nat} (h : Usd L j) : Usd (L ++ M) j := by
  obtain ⟨i, hi, h1⟩ := h
  exact ⟨i, by rw [List.length_append]; omega, by rw [List.getElem_append_left hi]; exact h1⟩
mutual
theorem mkT_used (rt : List UInt8 → Int) : ∀ (t : Tr) (L : List Tp) (a : Int) (d : Nat), t.wf a d → ∀ j, L.length ≤ j → j < (mkT rt t L).2.length → (j : Int) = (mkT rt t L).1 ∨ Usd (mkT rt t L).2 j
  | .node y ks, L, a, d, hw, j, hj1, hj2 => by
    by_cases hk : y.kind = 9
    · have hm : mkT rt (.node y ks) L = (rt y.name, L) := by rw [mkT, if_pos hk]
      rw [hm] at hj2
      exact absurd hj2 (by show ¬ j < L.length; omega)
    have hm : mkT rt (.node y ks) L = (((mkK rt y.kind ks L 0 []).2.2.length : Int), (mkK rt y.kind ks L 0 []).2.2 ++ [⟨y.kind, y.n, (mkK rt y.kind ks L 0 []).1, (mkK rt y.kind ks L 0 []).2.1⟩]) := by rw [mkT, if_neg hk]
    rw [hm] at hj2 ⊢
    obtain ⟨-, -, hr, hkids, hks⟩ := hw
    obtain ⟨hok, -, -, -⟩ := rightB_iff hr
    have hone : ¬ many7 y.kind → ks.len ≤ 1 ∧ (ks.len = 1 → y.kind = 4 ∨ y.kind = 5 ∨ y.kind = 6) := fun h7 => by
      unfold many7 at h7
      rcases okB_cases hok with g | g | g | g | g <;> omega
    have hu := mkK_used rt y.kind ks L 0 [] (d + 1) hks (fun h => (hone h).1) j hj1
    obtain ⟨K, hK⟩ : ∃ K, K = mkK rt y.kind ks L 0 [] := ⟨_, rfl⟩
    rw [← hK] at hu hj2 ⊢
    have hl : (K.2.2 ++ [(⟨y.kind, y.n, K.1, K.2.1⟩ : Tp)]).length = K.2.2.length + 1 := by simp
    have hlast : (K.2.2 ++ [(⟨y.kind, y.n, K.1, K.2.1⟩ : Tp)])[K.2.2.length]'(by omega) = ⟨y.kind, y.n, K.1, K.2.1⟩ := by simp
    rcases Nat.lt_or_ge j K.2.2.length with h | h
    · right
      rcases hu h with h1 | h1 | h1
      · refine ⟨K.2.2.length, by show _ < (K.2.2 ++ _).length; omega, .inr ?_⟩
        show ∃ p ∈ ((K.2.2 ++ [(⟨y.kind, y.n, K.1, K.2.1⟩ : Tp)])[K.2.2.length]'(by omega)).parts, _
        rw [hlast]; exact h1.2
      · refine ⟨K.2.2.length, by show _ < (K.2.2 ++ _).length; omega, .inl ?_⟩
        show (((K.2.2 ++ [(⟨y.kind, y.n, K.1, K.2.1⟩ : Tp)])[K.2.2.length]'(by omega)).kind = 4 ∨ _) ∧ _
        rw [hlast]
        exact ⟨(hone h1.1).2 h1.2.1, h1.2.2.symm⟩
      exact h1.app
    left
    show (j : Int) = (K.2.2.length : Int)
    have : j < (K.2.2 ++ [(⟨y.kind, y.n, K.1, K.2.1⟩ : Tp)]).length := hj2
    omega
theorem mkK_used (rt : List UInt8 → Int) (kind : Int) : ∀ (ts : Trs) (L : List Tp) (el : Int) (ps : List Pa) (d : Nat), ts.wf kind d → (¬ many7 kind → ts.len ≤ 1) → ∀ j, L.length ≤ j → j < (mkK rt kind ts L el ps).2.2.length →
    (many7 kind ∧ ∃ p ∈ (mkK rt kind ts L el ps).2.1, p.ty = (j : Int)) ∨ (¬ many7 kind ∧ ts.len = 1 ∧ (j : Int) = (mkK rt kind ts L el ps).1) ∨ Usd (mkK rt kind ts L el ps).2.2 j
  | .nil, L, el, ps, d, hw, hone, j, hj1, hj2 => by
    have : j < L.length := hj2
    omega
  | .cons t ts, L, el, ps, d, hw, hone, j, hj1, hj2 => by
    have ht := mkT_used rt t L kind d hw.1 j hj1
    obtain ⟨M, hM, -⟩ := mkT_pre rt t L (wf_leafy t _ _ hw.1)
    by_cases h7 : many7 kind
    · have he : mkK rt kind (.cons t ts) L el ps = mkK rt kind ts (mkT rt t L).2 el (ps ++ [⟨t.top.label, t.top.tag, (mkT rt t L).1⟩]) := by rw [mkK, if_pos h7]
      rw [he] at hj2 ⊢
      rcases Nat.lt_or_ge j (mkT rt t L).2.length with h | h
      · obtain ⟨N, hN, -⟩ := mkK_pre rt kind ts (mkT rt t L).2 el (ps ++ [⟨t.top.label, t.top.tag, (mkT rt t L).1⟩]) (wfs_leafy ts _ _ hw.2)
        rcases ht h with h1 | h1
        · left
          refine ⟨h7, ⟨t.top.label, t.top.tag, (mkT rt t L).1⟩, ?_, h1.symm⟩
          obtain ⟨q, hq⟩ := mkK_ps rt kind ts (mkT rt t L).2 el (ps ++ [⟨t.top.label, t.top.tag, (mkT rt t L).1⟩])
          rw [hq]; simp
        right; right
        rw [hN]; exact h1.app
      rcases mkK_used rt kind ts (mkT rt t L).2 el (ps ++ [⟨t.top.label, t.top.tag, (mkT rt t L).1⟩]) d hw.2 (fun h => absurd h7 h) j h hj2 with h1 | h1 | h1
      · exact .inl h1
      · exact absurd h7 h1.1
      exact .inr (.inr h1)
    have he : mkK rt kind (.cons t ts) L el ps = mkK rt kind ts (mkT rt t L).2 (mkT rt t L).1 ps := by rw [mkK, if_neg h7]
    have hnil : ts = .nil := by
      cases ts with
      | nil => rfl
      | cons a b => have := hone h7; simp [Trs.len] at this
    subst hnil
    rw [he] at hj2 ⊢
    rcases ht hj2 with h1 | h1
    · exact .inr (.inl ⟨h7, rfl, h1⟩)
    exact .inr (.inr h1)
theorem mkK_ps (rt : List UInt8 → Int) (kind : Int) : ∀ (ts : Trs) (L : List Tp) (el : Int) (ps : List Pa), ∃ q, (mkK rt kind ts L el ps).2.1 = ps ++ q
  | .nil, L, el, ps => ⟨[], by simp [mkK]⟩
  | .cons t ts, L, el, ps => by
    rw [mkK]
    split
    · obtain ⟨q, hq⟩ := mkK_ps rt kind ts (mkT rt t L).2 el (ps ++ [⟨t.top.label, t.top.tag, (mkT rt t L).1⟩])
      exact ⟨⟨t.top.label, t.top.tag, (mkT rt t L).1⟩ :: q, by rw [hq, List.append_assoc]; rfl⟩
    exact mkK_ps rt kind ts _ _ ps
end

end Go.Proofs.Ytpbflfgigfdohaa

set_option linter.unusedSimpArgs false
set_option linter.unusedVariables false
set_option maxRecDepth 100000
namespace Go.Proofs.Ytpbflfgigfdohaa
open Go Go.Vc Go.RowKit Go.Proofs

mutual
theorem tr_uniq : ∀ (t1 t2 : Tr) (r1 r2 : List Ex) (a1 a2 : Int) (d1 d2 : Nat), t1.wf a1 d1 → t2.wf a2 d2 → t1.flat ++ r1 = t2.flat ++ r2 → t1 = t2 ∧ r1 = r2
  | .node y ks, .node z ls, r1, r2, a1, a2, d1, d2, h1, h2, h => by
    simp only [Tr.flat, List.cons_append, List.cons.injEq] at h
    obtain ⟨rfl, h⟩ := h
    obtain ⟨-, -, -, hk1, hw1⟩ := h1
    obtain ⟨-, -, -, hk2, hw2⟩ := h2
    obtain ⟨rfl, rfl⟩ := trs_uniq ks ls r1 r2 _ _ _ _ hw1 hw2 (by omega) h
    exact ⟨rfl, rfl⟩
theorem trs_uniq : ∀ (s1 s2 : Trs) (r1 r2 : List Ex) (a1 a2 : Int) (d1 d2 : Nat), s1.wf a1 d1 → s2.wf a2 d2 → s1.len = s2.len → s1.flat ++ r1 = s2.flat ++ r2 → s1 = s2 ∧ r1 = r2
  | .nil, .nil, r1, r2, _, _, _, _, _, _, _, h => ⟨rfl, h⟩
  | .nil, .cons t ts, _, _, _, _, _, _, _, _, hl, _ => by simp [Trs.len] at hl
  | .cons t ts, .nil, _, _, _, _, _, _, _, _, hl, _ => by simp [Trs.len] at hl
  | .cons t ts, .cons u us, r1, r2, a1, a2, d1, d2, h1, h2, hl, h => by
    simp only [Trs.flat, List.append_assoc] at h
    obtain ⟨he, h'⟩ := tr_uniq t u _ _ _ _ _ _ h1.1 h2.1 h
    subst he
    obtain ⟨rfl, rfl⟩ := trs_uniq ts us r1 r2 _ _ _ _ h1.2 h2.2 (by simp [Trs.len] at hl; omega) h'
    exact ⟨rfl, rfl⟩
end
theorem Trd.uniq {D : List Df} {T U : Nat → Tr} (h : Trd D T) (k : Trd D U) : ∀ i, i < D.length → T i = U i := fun i hi =>
  (tr_uniq (T i) (U i) [] [] 0 0 0 0 (h.wf i hi) (k.wf i hi) (by rw [h.fl i hi, k.fl i hi])).1
theorem firstN_congr {α : Type} {n : Nat} {f g : Nat → Option α} (h : ∀ i, i < n → f i = g i) : firstN n f = firstN n g := by
  unfold firstN
  induction n with
  | zero => rfl
  | succ n ih =>
    rw [List.range_succ, List.findSome?_append, List.findSome?_append, ih (fun i hi => h i (by omega))]
    simp [h n (Nat.lt_succ_self n)]
theorem resF_congr {D : List Df} {T U : Nat → Tr} (h : ∀ i, i < D.length → T i = U i) : resF D T = resF D U := firstN_congr fun i hi => by unfold defF; rw [h i hi]
theorem depO_congr {wh : List UInt8 → Nat} {T U : Nat → Tr} : ∀ (l : List Nat) (f : Nat → Nat), (∀ i ∈ l, T i = U i) → depO wh T l f = depO wh U l f
  | [], f, _ => rfl
  | i :: l, f, h => by
    unfold depO
    rw [h i (List.mem_cons_self ..)]
    exact depO_congr l _ (fun j hj => h j (List.mem_cons_of_mem _ hj))
theorem ord_lt {n : Nat} {U : Nat → List Nat} : ∀ (f : Nat) (out : List Nat), (∀ i ∈ out, i < n) → ∀ i ∈ orderF n U f out, i < n
  | 0, out, h, i, hi => h i hi
  | f + 1, out, h, i, hi => by
    unfold orderF at hi
    split at hi
    · exact h i hi
    rename_i j hj
    refine ord_lt f _ (fun k hk => ?_) i hi
    rcases List.mem_append.1 hk with hk | hk
    · exact h k hk
    rw [List.mem_singleton.1 hk]; exact (nextO_some hj).1
theorem depN_congr {D : List Df} {T U : Nat → Tr} (h : ∀ i, i < D.length → T i = U i) : depN D T = depN D U := depO_congr _ _ fun i hi => h i (ord_lt _ _ (fun _ h => by cases h) i hi)
theorem deepF_congr {D : List Df} {T U : Nat → Tr} (h : ∀ i, i < D.length → T i = U i) : deepF D T = deepF D U := by unfold deepF; rw [depN_congr h]
/-- the fault, by any trees of it -/
theorem fA_of {D : List Df} {T : Nat → Tr} (hck : (chkS D).2.2 = 0) (hT : Trd D T) : fA D = (resF D T).or ((ringF D).or (deepF D T)) := by
  unfold fA
  rw [resA_ok hck, resF_congr ((trd_of hck).uniq hT), deepF_congr ((trd_of hck).uniq hT)]
/-- a rank that falls along uses: no ring -/
theorem rank_no {U : Nat → List Nat} (r : Nat → Nat) (h : ∀ i, ∀ j ∈ U i, r j < r i) : ∀ i, ¬ Relation.TransGen (Us U) i i := by
  have key : ∀ i k, Relation.TransGen (Us U) i k → r k < r i := by
    intro i k hk
    induction hk with
    | single h1 => exact h _ _ h1
    | tail _ h1 ih => exact Nat.lt_trans (h _ _ h1) ih
  exact fun i hi => Nat.lt_irrefl _ (key i i hi)
end Go.Proofs.Ytpbflfgigfdohaa

set_option linter.unusedSimpArgs false
set_option linter.unusedVariables false
namespace Go.Vc
open Go Go.RowKit
theorem fold_set : ∀ (xs : List Value) (k off : Nat) (cs : Array Value), off + k + xs.length ≤ cs.size →
    ((xs.zipIdx k).foldl (fun cs (x : Value × Nat) => cs.setIfInBounds (off + x.2) x.1) cs) = (cs.toList.take (off + k) ++ xs ++ cs.toList.drop (off + k + xs.length)).toArray
  | [], k, off, cs, h => by simp
  | x :: xs, k, off, cs, h => by
    simp only [List.length_cons] at h
    rw [List.zipIdx_cons, List.foldl_cons, fold_set xs (k + 1) off _ (by simp; omega)]
    congr 1
    simp only [Array.toList_setIfInBounds]
    rw [List.drop_set_of_lt (by omega), show off + (k + 1) = (off + k) + 1 by omega, List.take_succ_eq_append_getElem (by simp; omega), List.take_set_of_le (by omega)]
    rw [List.append_assoc, List.append_assoc, List.append_assoc]
    simp only [List.getElem_set_self, List.singleton_append, List.cons_append, List.nil_append, List.length_cons]
    congr 4
    omega
theorem fill_rows {s : Nat} : ∀ (vs : List Value) (k : Nat) (cells : Array Value), (∀ v ∈ vs, v.cells.size = s) → (k + vs.length) * s = cells.size →
    Instr.fill (fun i => some (i * s, s)) cells ((vs.zipIdx k).map fun x => (x.2, x.1)) = some ((cells.toList.take (k * s) ++ vs.flatMap (fun v => v.cells.toList)).toArray)
  | [], k, cells, _, h => by
    simp at h
    have : cells.toList.take (k * s) = cells.toList := List.take_of_length_le (by simp [h])
    simp [Instr.fill, this]
  | v :: vs, k, cells, h1, h => by
    have hv := h1 v (List.mem_cons_self ..)
    have hsz : k * s + s ≤ cells.size := by
      rw [← h, List.length_cons, show k + (vs.length + 1) = (k + 1) + vs.length by omega, Nat.add_mul (k + 1), Nat.succ_mul]
      omega
    have hf : v.cells.zipIdx.foldl (fun cs (x : Value × Nat) => cs.setIfInBounds (k * s + x.2) x.1) cells = (cells.toList.take (k * s) ++ v.cells.toList ++ cells.toList.drop (k * s + s)).toArray := by
      have h2 := fold_set v.cells.toList 0 (k * s) cells (by simp; omega)
      rw [← Array.foldl_toList, Array.toList_zipIdx, h2]
      simp [hv]
    rw [List.zipIdx_cons, List.map_cons, Instr.fill]
    show (if (decide (v.cells.size ≠ s) || decide (k * s + v.cells.size > cells.size)) = true then none else Instr.fill (fun i => some (i * s, s)) (v.cells.zipIdx.foldl (fun cs (x : Value × Nat) => cs.setIfInBounds (k * s + x.2) x.1) cells) (List.map (fun x => (x.snd, x.fst)) (vs.zipIdx (k + 1)))) = _
    rw [if_neg (by simp [hv]; omega), hf, fill_rows vs (k + 1) _ (fun v hv => h1 v (List.mem_cons_of_mem _ hv)) (by
      simp [hv]
      simp only [List.length_cons] at h
      rw [← h, show k + (vs.length + 1) = (k + 1) + vs.length by omega, Nat.add_mul (k + 1), Nat.succ_mul, Nat.min_eq_left (by omega)]
      omega)]
    congr 2
    simp only [List.flatMap_cons]
    rw [← List.append_assoc]
    congr 1
    rw [List.take_append_of_le_length (by simp [hv]; rw [Nat.succ_mul]; omega), List.take_of_length_le (by simp [hv]; rw [Nat.succ_mul]; omega)]
section
variable {P : Program} {e : Env} {w : World} {K : Value → World → Prop} {ty : TypeId}
theorem o_bsA {t el : TypeId} {len s bs s' bs' : Nat} {z z' : Value} {d' : TypeDesc} {xs : List Operand} {vs : List Value} {cs : List Value} {parts : Array (Nat × Operand)} (ht : Ty P t (.slice el) s bs z) (hel : Ty P el d' s' bs' z') (hp : parts = ((xs.zipIdx 0).map fun x => (x.2, x.1)).toArray) (hx : xs.map (ev e) = vs) (hv : vs.all (fun v => v.cells.size == s') = true) (hl : vs.length = len) (h0 : 0 < len * s') (hs : len * s' ≤ 16777216) (hc : vs.flatMap (fun v => v.cells.toList) = cs)
    (k : K (.slice (some ⟨w.heap.size, 0, none⟩) len len) (w.alloc (.cells cs.toArray el))) : OP P e (.buildSlice t len parts) ty w K := by
  subst hp
  refine o_bs ht hel (by simp; omega) (cells := cs.toArray) ?_ (by simp; omega) k
  have hm : ((((xs.zipIdx 0).map fun x => (x.2, x.1)).toArray.map fun (x : Nat × Operand) => (x.1, ev e x.2))).toList = (vs.zipIdx 0).map fun x => (x.2, x.1) := by
    subst hx
    simp only [List.map_toArray, List.map_map]
    have gen : ∀ (l : List Operand) (k : Nat), (l.zipIdx k).map ((fun (x : Nat × Operand) => (x.1, ev e x.2)) ∘ fun x => (x.2, x.1)) = ((l.map (ev e)).zipIdx k).map fun x => (x.2, x.1) := by
      intro l
      induction l with
      | nil => intro k; rfl
      | cons a l ih => intro k; simp only [List.zipIdx_cons, List.map_cons, ih (k + 1)]; rfl
    exact gen xs 0
  rw [hm, fill_rows vs 0 _ (fun v hv' => by simpa using List.all_eq_true.1 hv v hv') (by simp [hl]), hc]
  simp
end
end Go.Vc

set_option linter.unusedSimpArgs false
set_option linter.unusedVariables false
set_option maxRecDepth 100000
namespace Go.Proofs.Ytpbflfgigfdohaa
open Go Go.Vc Go.RowKit Go.Proofs

theorem order_call (D : List Df) (dv : Value) (V : Nat → Value) (w0 : World) (hD : DefR w0 D dv V) (hlim : DOk D) {er at_ : Int} (hf : flt D = (er, at_)) : Ca Try.prog 29 #[.agg #[dv]] w0 (fun v w' => ∃ ov, v = .tuple #[ov, .agg #[.int .i64 er, .int .i64 at_]] ∧ w'.ownsRow w0.heap.size 3 1 ov (ordR D).length ((ordR D).map iv) ∧ Ext w0 w') := by
  have h := names_order_spec D dv V w0 hD hlim
  rw [hf] at h
  exact h
theorem find_call (D : List Df) (dv : Value) (V : Nat → Value) (nm : List UInt8) (w0 : World) (hD : DefR w0 D dv V) (hlen : D.length * 48 ≤ 140737488351232) {k : Nat} (hk : whereN D nm = some k) : Ca Try.prog 57 #[.agg #[dv], st nm] w0 (fun v w' => v = .tuple #[.int .i64 (k : Int), .int .i64 0] ∧ Ext w0 w') := by
  have h := find_spec D dv V nm w0 hD hlen
  rw [hk] at h
  exact h
theorem Sl.ofRow {w : World} {s n : Nat} {cs : List Value} {el : TypeId} (hl : cs.length = n * s) : Sl (w.alloc (.cells cs.toArray el)) s (.slice (some ⟨w.heap.size, 0, none⟩) n n) n cs :=
  Sl.blk (heap_alloc_new w _) 0 cs hl (Nat.le_refl _) (fun i v h => by simpa using h)


end Go.Proofs.Ytpbflfgigfdohaa

set_option linter.unusedSimpArgs false
set_option linter.unusedVariables false
set_option maxRecDepth 100000
namespace Go.Proofs.Ytpbflfgigfdohaa
open Go Go.Vc Go.RowKit Go.Proofs

theorem firstN_some {α : Type} {n : Nat} {f : Nat → Option α} {v : α} (h : firstN n f = some v) : ∃ i, i < n ∧ f i = some v := by
  unfold firstN at h
  obtain ⟨i, hi, hv⟩ := List.exists_of_findSome?_eq_some h
  exact ⟨i, List.mem_range.1 hi, hv⟩
theorem nodeF_nz {D : List Df} {dup : List Nat} {L : List Ex} {j : Nat} {v : Int × Int} (h : nodeF D dup L j = some v) : v.1 = 80 ∨ v.1 = 81 := by
  unfold nodeF at h
  split at h
  · cases h; exact .inl rfl
  split at h
  · cases h; exact .inr rfl
  cases h
theorem resF_nz {D : List Df} {T : Nat → Tr} {v : Int × Int} (h : resF D T = some v) : v.1 = 80 ∨ v.1 = 81 := by
  obtain ⟨i, hi, hd⟩ := firstN_some h
  unfold defF at hd
  split at hd
  · obtain ⟨j, hj, hn⟩ := firstN_some hd
    exact nodeF_nz hn
  cases hd; exact .inl rfl
theorem resA_nz {D : List Df} {v : Int × Int} (h : resA D = some v) : v.1 = 62 ∨ v.1 = 80 ∨ v.1 = 81 := by
  unfold resA at h
  split at h
  · exact .inr (resF_nz h)
  cases h; exact .inl rfl
theorem ringF_nz {D : List Df} {v : Int × Int} (h : ringF D = some v) : v.1 = 82 := by
  obtain ⟨i, hi, hd⟩ := firstN_some h
  split at hd
  · cases hd; rfl
  cases hd
theorem deepF_nz {D : List Df} {T : Nat → Tr} {v : Int × Int} (h : deepF D T = some v) : v.1 = 83 := by
  obtain ⟨i, hi, hd⟩ := firstN_some h
  split at hd
  · cases hd; rfl
  cases hd
theorem fA_cases {D : List Df} {v : Int × Int} (h : fA D = some v) : resA D = some v ∨ (resA D = none ∧ ringF D = some v) ∨ (resA D = none ∧ ringF D = none ∧ deepF D (TD D) = some v) := by
  unfold fA at h
  cases h1 : resA D with
  | some u => rw [h1] at h; exact .inl h
  | none =>
    rw [h1, Option.none_or] at h
    cases h2 : ringF D with
    | some u => rw [h2] at h; exact .inr (.inl ⟨rfl, h⟩)
    | none => rw [h2, Option.none_or] at h; exact .inr (.inr ⟨rfl, rfl, h⟩)
theorem fA_nz {D : List Df} {v : Int × Int} (h : fA D = some v) : v.1 = 62 ∨ v.1 = 80 ∨ v.1 = 81 ∨ v.1 = 82 ∨ v.1 = 83 := by
  rcases fA_cases h with h | ⟨-, h⟩ | ⟨-, -, h⟩
  · have := resA_nz h; omega
  · have := ringF_nz h; omega
  have := deepF_nz h; omega
theorem flt_bad {D : List Df} {er at_ : Int} (h : flt D = (er, at_)) (he : ¬ er = 0) : ¬ fA D = none := fun hn => by rw [flt_none hn] at h; cases h; exact he rfl
theorem flt_good {D : List Df} {er at_ : Int} (h : flt D = (er, at_)) (he : er = 0) : fA D = none := by
  cases hf : fA D with
  | none => rfl
  | some v =>
    rw [flt_some hf] at h
    have := fA_nz hf
    rw [h] at this
    simp at this
    omega
theorem nodup_len : ∀ (n : Nat) (l : List Nat), l.Nodup → (∀ x ∈ l, x < n) → l.length ≤ n
  | 0, l, _, h => by
    cases l with
    | nil => exact Nat.le_refl _
    | cons a l => exact absurd (h a (List.mem_cons_self ..)) (by omega)
  | n + 1, l, hn, h => by
    have h1 := nodup_len n (l.erase n) (hn.erase n) (fun x hx => by
      have h2 := h x (List.mem_of_mem_erase hx)
      have h3 : x ≠ n := fun e => by
        subst e
        exact (hn.mem_erase_iff.1 hx).1 rfl
      omega)
    by_cases hm : n ∈ l
    · rw [List.length_erase_of_mem hm] at h1
      have := List.length_pos_of_mem hm
      omega
    rw [List.erase_of_not_mem hm] at h1
    omega
theorem Told.all {n : Nat} {U : Nat → List Nat} {l : List Nat} (h : Told n U l) (hl : l.length = n) : ∀ i, i < n → i ∈ l := by
  intro i hi
  refine Classical.byContradiction fun hm => ?_
  have := nodup_len n (i :: l) (List.nodup_cons.2 ⟨hm, h.nd⟩) (fun x hx => by
    rcases List.mem_cons.1 hx with rfl | hx
    · exact hi
    exact h.lt x hx)
  rw [List.length_cons] at this
  omega
/-- of a source that is all right -/
structure Good (D : List Df) : Prop where
  ck : (chkS D).2.2 = 0
  res : resA D = none
  rn : ringF D = none
  dn : deepF D (TD D) = none
theorem good_of {D : List Df} (h : fA D = none) : Good D := by
  obtain ⟨h1, h2, h3⟩ := fA_back h
  refine ⟨?_, h1, h2, h3⟩
  refine Classical.byContradiction fun hc => ?_
  rw [resA_src hc] at h1
  cases h1
theorem Good.trd {D : List Df} (h : Good D) : Trd D (TD D) := trd_of h.ck
theorem Good.kn {D : List Df} (h : Good D) : kn9 D := kn9_of h.res h.ck
theorem Good.ac {D : List Df} (h : Good D) : ∀ i, i < D.length → ¬ Relation.TransGen (Us (usesD D)) i i := ringF_none h.rn
theorem Good.ord {D : List Df} (h : Good D) : Told D.length (usesD D) (ordN D) ∧ (ordN D).length = D.length := ord_told h.kn h.ac
theorem Good.deep {D : List Df} (h : Good D) : ∀ i, i < D.length → depN D (TD D) i ≤ 64 := by
  intro i hi
  have := firstN_none h.dn i hi
  split at this
  · cases this
  omega
end Go.Proofs.Ytpbflfgigfdohaa

set_option linter.unusedSimpArgs false
set_option linter.unusedVariables false
set_option maxRecDepth 100000
namespace Go.Proofs.Ytpbflfgigfdohaa
open Go Go.Vc Go.RowKit Go.Proofs

inductive F2 {α β : Type} (S : α → β → Prop) : List α → List β → Prop
  | nil : F2 S [] []
  | cons {x : α} {y : β} {l : List α} {m : List β} : S x y → F2 S l m → F2 S (x :: l) (y :: m)
theorem F2.len {α β : Type} {S : α → β → Prop} {l : List α} {m : List β} (h : F2 S l m) : l.length = m.length := by
  induction h with
  | nil => rfl
  | cons _ _ ih => rw [List.length_cons, List.length_cons, ih]
theorem F2.at {α β : Type} {S : α → β → Prop} {l : List α} {m : List β} (h : F2 S l m) : ∀ (i : Nat) (h1 : i < l.length) (h2 : i < m.length), S l[i] m[i] := by
  induction h with
  | nil => intro i h1; simp at h1
  | cons hs _ ih =>
    intro i h1 h2
    cases i with
    | zero => exact hs
    | succ i => exact ih i (by simpa using h1) (by simpa using h2)
theorem F2.of {α β : Type} {S : α → β → Prop} : ∀ {l : List α} {m : List β}, l.length = m.length → (∀ (i : Nat) (h1 : i < l.length) (h2 : i < m.length), S l[i] m[i]) → F2 S l m
  | [], [], _, _ => .nil
  | [], y :: m, hl, _ => by simp at hl
  | x :: l, [], hl, _ => by simp at hl
  | x :: l, y :: m, hl, h => .cons (h 0 (by simp) (by simp)) (F2.of (by simpa using hl) (fun i h1 h2 => h (i + 1) (by simpa using h1) (by simpa using h2)))
theorem F2.snoc {α β : Type} {S : α → β → Prop} {l : List α} {m : List β} (h : F2 S l m) {x : α} {y : β} (hs : S x y) : F2 S (l ++ [x]) (m ++ [y]) := by
  induction h with
  | nil => exact .cons hs .nil
  | cons h1 _ ih => exact .cons h1 ih
/-- a node like another -/
structure Sx (x x' : Ex) : Prop where
  kind : x'.kind = x.kind
  tag : x'.tag = x.tag
  kids : x'.kids = x.kids
  at_ : x'.at_ = x.at_
  rt : ∀ above, rightB x above = true → rightB x' above = true
mutual
def TSim (S : Ex → Ex → Prop) : Tr → Tr → Prop
  | .node y ks, .node z ls => S y z ∧ TsSim S ks ls
def TsSim (S : Ex → Ex → Prop) : Trs → Trs → Prop
  | .nil, .nil => True
  | .cons t ts, .cons u us => TSim S t u ∧ TsSim S ts us
  | _, _ => False
end
mutual
theorem tsim_of {S : Ex → Ex → Prop} (hS : ∀ x x', S x x' → Sx x x') : ∀ (t u : Tr) (r s : List Ex) (a b : Int) (d e : Nat), t.wf a d → u.wf b e → F2 S (t.flat ++ r) (u.flat ++ s) → TSim S t u ∧ F2 S r s
  | .node y ks, .node z ls, r, s, a, b, d, e, h1, h2, h => by
    simp only [Tr.flat, List.cons_append] at h
    cases h with
    | cons hs h =>
      obtain ⟨-, -, -, hk1, hw1⟩ := h1
      obtain ⟨-, -, -, hk2, hw2⟩ := h2
      have hkk := (hS _ _ hs).kids
      obtain ⟨g1, g2⟩ := tssim_of hS ks ls r s _ _ _ _ hw1 hw2 (by omega) h
      exact ⟨by unfold TSim; exact ⟨hs, g1⟩, g2⟩
theorem tssim_of {S : Ex → Ex → Prop} (hS : ∀ x x', S x x' → Sx x x') : ∀ (t u : Trs) (r s : List Ex) (a b : Int) (d e : Nat), t.wf a d → u.wf b e → t.len = u.len → F2 S (t.flat ++ r) (u.flat ++ s) → TsSim S t u ∧ F2 S r s
  | .nil, .nil, r, s, _, _, _, _, _, _, _, h => ⟨by unfold TsSim; trivial, h⟩
  | .nil, .cons t ts, _, _, _, _, _, _, _, _, hl, _ => by simp [Trs.len] at hl
  | .cons t ts, .nil, _, _, _, _, _, _, _, _, hl, _ => by simp [Trs.len] at hl
  | .cons t ts, .cons u us, r, s, a, b, d, e, h1, h2, hl, h => by
    simp only [Trs.flat, List.append_assoc] at h
    obtain ⟨g1, g2⟩ := tsim_of hS t u _ _ _ _ _ _ h1.1 h2.1 h
    obtain ⟨g3, g4⟩ := tssim_of hS ts us r s _ _ _ _ h1.2 h2.2 (by simp [Trs.len] at hl; omega) g2
    exact ⟨by unfold TsSim; exact ⟨g1, g3⟩, g4⟩
end
mutual
theorem tsim_len {S : Ex → Ex → Prop} : ∀ (t u : Tr), TSim S t u → t.flat.length = u.flat.length
  | .node y ks, .node z ls, h => by
    unfold TSim at h
    simp only [Tr.flat, List.length_cons, tssim_len ks ls h.2]
theorem tssim_len {S : Ex → Ex → Prop} : ∀ (t u : Trs), TsSim S t u → t.flat.length = u.flat.length
  | .nil, .nil, _ => rfl
  | .nil, .cons t ts, h => by unfold TsSim at h; exact h.elim
  | .cons t ts, .nil, h => by unfold TsSim at h; exact h.elim
  | .cons t ts, .cons u us, h => by
    unfold TsSim at h
    simp only [Trs.flat, List.length_append, tsim_len t u h.1, tssim_len ts us h.2]
end
theorem tsim_top {S : Ex → Ex → Prop} : ∀ {t u : Tr}, TSim S t u → S t.top u.top
  | .node y ks, .node z ls, h => by unfold TSim at h; exact h.1
/-- alike nodes have like labels just where the others have -/
def LabS (S : Ex → Ex → Prop) : Prop := ∀ x x' y y', S x x' → S y y' → (x.label = y.label ↔ x'.label = y'.label)
theorem dupB_sim {S : Ex → Ex → Prop} (hS : ∀ x x', S x x' → Sx x x') (hl : LabS S) {kind : Int} {seen seen' : List Ex} (h : F2 S seen seen') {x x' : Ex} (hx : S x x') : dupB kind seen x = dupB kind seen' x' := by
  unfold dupB
  have h8 : seen.any (fun y => decide (y.label = x.label)) = seen'.any (fun y => decide (y.label = x'.label)) := by
    induction h with
    | nil => rfl
    | cons hs _ ih =>
      rw [List.any_cons, List.any_cons, ih]
      congr 1
      exact decide_eq_decide.2 (hl _ _ _ _ hs hx)
  have h7 : seen.any (fun y => decide (y.tag = x.tag)) = seen'.any (fun y => decide (y.tag = x'.tag)) := by
    clear h8
    induction h with
    | nil => rfl
    | cons hs _ ih =>
      rw [List.any_cons, List.any_cons, ih]
      congr 1
      rw [(hS _ _ hs).tag, (hS _ _ hx).tag]
  rw [h8, h7]
mutual
theorem dupT_sim {S : Ex → Ex → Prop} (hS : ∀ x x', S x x' → Sx x x') (hl : LabS S) : ∀ (t u : Tr) (a : Nat), TSim S t u → dupT t a = dupT u a
  | .node y ks, .node z ls, a, h => by
    unfold TSim at h
    unfold dupT
    rw [(hS _ _ h.1).kind]
    exact dupK_sim hS hl y.kind ks ls (a + 1) [] [] h.2 .nil
theorem dupK_sim {S : Ex → Ex → Prop} (hS : ∀ x x', S x x' → Sx x x') (hl : LabS S) (kind : Int) : ∀ (t u : Trs) (a : Nat) (seen seen' : List Ex), TsSim S t u → F2 S seen seen' → dupK kind t a seen = dupK kind u a seen'
  | .nil, .nil, _, _, _, _, _ => rfl
  | .nil, .cons t ts, _, _, _, h, _ => by unfold TsSim at h; exact h.elim
  | .cons t ts, .nil, _, _, _, h, _ => by unfold TsSim at h; exact h.elim
  | .cons t ts, .cons u us, a, seen, seen', h, hs => by
    unfold TsSim at h
    unfold dupK
    have ht := tsim_top h.1
    rw [dupB_sim hS hl hs ht, dupT_sim hS hl t u a h.1, tsim_len t u h.1, dupK_sim hS hl kind ts us _ _ _ h.2 (hs.snoc ht)]
end
end Go.Proofs.Ytpbflfgigfdohaa

set_option linter.unusedSimpArgs false
set_option linter.unusedVariables false
set_option maxRecDepth 100000
namespace Go.Proofs.Ytpbflfgigfdohaa
open Go Go.Vc Go.RowKit Go.Proofs

section
open Relation
variable {U U' : Nat → List Nat} {d t : Nat}
end
theorem Good.own {D : List Df} (h : Good D) {i : Nat} (hi : i < D.length) : whereN D D[i].name = some i := by
  have h1 := h.res
  rw [resA_ok h.ck] at h1
  have h2 := firstN_none h1 i hi
  unfold defF at h2
  rw [getD_at hi] at h2
  split at h2
  · rename_i he; exact he
  cases h2
/-- alike, with the same label -/
def Sl0 (x x' : Ex) : Prop := Sx x x' ∧ x'.label = x.label
theorem Sl0.lab : LabS Sl0 := fun x x' y y' h1 h2 => by rw [h1.2, h2.2]
theorem Sl0.refl (x : Ex) : Sl0 x x := ⟨⟨rfl, rfl, rfl, rfl, fun _ h => h⟩, rfl⟩
section
variable {D : List Df} {d j to : Nat}
end
end Go.Proofs.Ytpbflfgigfdohaa

set_option linter.unusedSimpArgs false
set_option linter.unusedVariables false
set_option maxRecDepth 100000
namespace Go.Proofs.Ytpbflfgigfdohaa
open Go Go.Vc Go.RowKit Go.Proofs

mutual
theorem depT_two {wh wh' : List UInt8 → Nat} {dp dq : Nat → Nat} : ∀ {t : Tr}, (∀ x ∈ t.flat, x.kind = 9 → dq (wh' x.name) = dp (wh x.name)) → depT wh' dq t = depT wh dp t
  | .node y ks, h => by
    unfold depT
    split
    · rename_i h9; exact h y (List.mem_cons_self ..) h9
    rw [depK_two ks 0 (fun x hx => h x (List.mem_cons_of_mem _ hx))]
theorem depK_two {wh wh' : List UInt8 → Nat} {dp dq : Nat → Nat} : ∀ (ts : Trs) (m : Nat), (∀ x ∈ ts.flat, x.kind = 9 → dq (wh' x.name) = dp (wh x.name)) → depK wh' dq ts m = depK wh dp ts m
  | .nil, m, _ => rfl
  | .cons t ts, m, h => by
    unfold depK
    rw [depT_two (fun x hx => h x (List.mem_append_left _ hx)), depK_two ts _ (fun x hx => h x (List.mem_append_right _ hx))]
end


/-- the definitions in the order p -/
def pick (D : List Df) (p : List Nat) : List Df := p.map (fun i => D.getD i df0)
/-- p tells each number below n once -/
structure Pm (n : Nat) (p : List Nat) : Prop where
  nd : p.Nodup
  lt : ∀ i ∈ p, i < n
  all : ∀ i, i < n → i ∈ p
  len : p.length = n
theorem Pm.at {n : Nat} {p : List Nat} (h : Pm n p) {i : Nat} (hi : i < n) : p.getD i 0 < n := by
  rw [List.getD_eq_getElem?_getD, List.getElem?_eq_getElem (by rw [h.len]; exact hi), Option.getD_some]
  exact h.lt _ (List.getElem_mem _)
section
variable {D : List Df} {p : List Nat} (hp : Pm D.length p)
include hp
end
section
variable {D : List Df} {p : List Nat} (hp : Pm D.length p)
include hp
end

end Go.Proofs.Ytpbflfgigfdohaa

set_option linter.unusedSimpArgs false
set_option linter.unusedVariables false
set_option maxRecDepth 100000
namespace Go.Proofs.Ytpbflfgigfdohaa
open Go Go.Vc Go.RowKit Go.Proofs
/-- a kid: its parent's place, its own, its parent's kind, the heads of the kids ahead, its head -/
structure KE where
  i : Nat
  p : Nat
  kind : Int
  seen : List Ex
  x : Ex
def topK (i : Nat) (kind : Int) : Trs → Nat → List Ex → List KE
  | .nil, _, _ => []
  | .cons t ts, next, seen => ⟨i, next, kind, seen, t.top⟩ :: topK i kind ts (next + t.flat.length) (seen ++ [t.top])
mutual
def kidT : Tr → Nat → List KE
  | .node y ks, a => kidK a y.kind ks (a + 1) []
def kidK (i : Nat) (kind : Int) : Trs → Nat → List Ex → List KE
  | .nil, _, _ => []
  | .cons t ts, next, seen => ⟨i, next, kind, seen, t.top⟩ :: (kidT t next ++ kidK i kind ts (next + t.flat.length) (seen ++ [t.top]))
end
mutual
theorem dup_kid : ∀ (t : Tr) (a p : Nat), p ∈ dupT t a ↔ ∃ e ∈ kidT t a, e.p = p ∧ dupB e.kind e.seen e.x = true
  | .node y ks, a, p => by
    rw [dupT, kidT]
    exact dupK_kid a y.kind ks (a + 1) [] p
theorem dupK_kid (i : Nat) (kind : Int) : ∀ (ts : Trs) (a : Nat) (seen : List Ex) (p : Nat), p ∈ dupK kind ts a seen ↔ ∃ e ∈ kidK i kind ts a seen, e.p = p ∧ dupB e.kind e.seen e.x = true
  | .nil, a, seen, p => by simp [dupK, kidK]
  | .cons t ts, a, seen, p => by
    rw [dupK, kidK, List.mem_append, List.mem_append, dup_kid t a p, dupK_kid i kind ts _ _ p]
    constructor
    · rintro (h | ⟨e, he, h⟩ | ⟨e, he, h⟩)
      · split at h
        · rename_i hd
          rw [List.mem_singleton.1 h]
          exact ⟨_, List.mem_cons_self .., rfl, hd⟩
        cases h
      · exact ⟨e, List.mem_cons_of_mem _ (List.mem_append_left _ he), h⟩
      exact ⟨e, List.mem_cons_of_mem _ (List.mem_append_right _ he), h⟩
    rintro ⟨e, he, hp, hd⟩
    rcases List.mem_cons.1 he with rfl | he
    · left
      rw [if_pos hd, ← hp]
      exact List.mem_singleton.2 rfl
    rcases List.mem_append.1 he with he | he
    · exact .inr (.inl ⟨e, he, hp, hd⟩)
    exact .inr (.inr ⟨e, he, hp, hd⟩)
end
mutual
theorem kid_range : ∀ (t : Tr) (a : Nat), (kidT t a).map (fun e => e.p) = List.range' (a + 1) (t.flat.length - 1)
  | .node y ks, a => by
    rw [kidT, kidK_range a y.kind ks (a + 1) []]
    rfl
theorem kidK_range (i : Nat) (kind : Int) : ∀ (ts : Trs) (a : Nat) (seen : List Ex), (kidK i kind ts a seen).map (fun e => e.p) = List.range' a ts.flat.length
  | .nil, a, seen => rfl
  | .cons t ts, a, seen => by
    rw [kidK, List.map_cons, List.map_append, kid_range t a, kidK_range i kind ts _ _]
    have hp := tr_pos t
    rw [show (Trs.cons t ts).flat.length = 1 + ((t.flat.length - 1) + ts.flat.length) by simp [Trs.flat]; omega]
    rw [← List.range'_append_1, ← List.range'_append_1, show a + 1 + (t.flat.length - 1) = a + t.flat.length by omega]
    rfl
end
theorem kid_uniq {t : Tr} {a : Nat} {e e' : KE} (h : e ∈ kidT t a) (h' : e' ∈ kidT t a) (hp : e.p = e'.p) : e = e' := by
  have hn : ((kidT t a).map (fun e => e.p)).Nodup := by rw [kid_range]; exact List.nodup_range'
  obtain ⟨i, hi, rfl⟩ := List.getElem_of_mem h
  obtain ⟨j, hj, rfl⟩ := List.getElem_of_mem h'
  have h1 : ((kidT t a).map (fun e => e.p))[i]'(by simpa using hi) = ((kidT t a).map (fun e => e.p))[j]'(by simpa using hj) := by simpa using hp
  have h2 := (List.getElem_inj hn).1 h1
  subst h2
  rfl
theorem topK_kid {i : Nat} {kind : Int} : ∀ {ts : Trs} {a : Nat} {seen : List Ex} {e : KE}, e ∈ topK i kind ts a seen → e ∈ kidK i kind ts a seen
  | .nil, _, _, _, h => by cases h
  | .cons t ts, a, seen, e, h => by
    rw [topK] at h
    rw [kidK]
    rcases List.mem_cons.1 h with rfl | h
    · exact List.mem_cons_self ..
    exact List.mem_cons_of_mem _ (List.mem_append_right _ (topK_kid h))
theorem drop_cat {α : Type} {A B R : List α} {k : Nat} {S : List α} (hk : k < A.length) (h : A.drop k = S ++ R) : (A ++ B).drop k = S ++ (R ++ B) := by
  rw [List.drop_append_of_le_length (by omega), h, List.append_assoc]
mutual
/-- each place is a node's, whose kids are kids of the whole -/
theorem sub_kid : ∀ (t : Tr) (a i : Nat) (aa : Int) (dd : Nat), t.wf aa dd → a ≤ i → i < a + t.flat.length → ∃ y ks r a2 d2, (Tr.node y ks).wf a2 d2 ∧ t.flat.drop (i - a) = (Tr.node y ks).flat ++ r ∧ ∀ e ∈ topK i y.kind ks (i + 1) [], e ∈ kidT t a
  | .node y ks, a, i, aa, dd, hw, h1, h2 => by
    by_cases he : i = a
    · subst he
      exact ⟨y, ks, [], aa, dd, hw, by rw [Nat.sub_self, List.append_nil]; rfl, fun e he => by rw [kidT]; exact topK_kid he⟩
    have hfl : (Tr.node y ks).flat.length = ks.flat.length + 1 := rfl
    obtain ⟨y2, ks2, r, a2, d2, g1, g2, g3⟩ := subs_kid a y.kind ks (a + 1) [] i _ _ hw.2.2.2.2 (by omega) (by omega)
    refine ⟨y2, ks2, r, a2, d2, g1, ?_, fun e he => by rw [kidT]; exact g3 e he⟩
    rw [show i - a = (i - (a + 1)) + 1 by omega]
    exact g2
theorem subs_kid (i0 : Nat) (kind : Int) : ∀ (ts : Trs) (a : Nat) (seen : List Ex) (i : Nat) (aa : Int) (dd : Nat), ts.wf aa dd → a ≤ i → i < a + ts.flat.length → ∃ y ks r a2 d2, (Tr.node y ks).wf a2 d2 ∧ ts.flat.drop (i - a) = (Tr.node y ks).flat ++ r ∧ ∀ e ∈ topK i y.kind ks (i + 1) [], e ∈ kidK i0 kind ts a seen
  | .nil, a, seen, i, aa, dd, hw, h1, h2 => by
    simp [Trs.flat] at h2; omega
  | .cons t ts, a, seen, i, aa, dd, hw, h1, h2 => by
    rw [show (Trs.cons t ts).flat.length = t.flat.length + ts.flat.length by simp [Trs.flat]] at h2
    by_cases hi : i < a + t.flat.length
    · obtain ⟨y2, ks2, r, a2, d2, g1, g2, g3⟩ := sub_kid t a i _ _ hw.1 h1 hi
      refine ⟨y2, ks2, r ++ ts.flat, a2, d2, g1, drop_cat (by omega) g2, fun e he => ?_⟩
      rw [kidK]
      exact List.mem_cons_of_mem _ (List.mem_append_left _ (g3 e he))
    obtain ⟨y2, ks2, r, a2, d2, g1, g2, g3⟩ := subs_kid i0 kind ts (a + t.flat.length) (seen ++ [t.top]) i _ _ hw.2 (by omega) (by omega)
    refine ⟨y2, ks2, r, a2, d2, g1, ?_, fun e he => ?_⟩
    · rw [show (Trs.cons t ts).flat = t.flat ++ ts.flat from rfl, show i - a = t.flat.length + (i - (a + t.flat.length)) by omega, ← List.drop_drop, List.drop_left]
      exact g2
    rw [kidK]
    exact List.mem_cons_of_mem _ (List.mem_append_right _ (g3 e he))
end
mutual
/-- a kid of the whole is a kid of the node at its parent's place -/
theorem kid_sub : ∀ (t : Tr) (a : Nat) (aa : Int) (dd : Nat) (e : KE), t.wf aa dd → e ∈ kidT t a → ∃ y ks r a2 d2, (Tr.node y ks).wf a2 d2 ∧ a ≤ e.i ∧ e.i < a + t.flat.length ∧ t.flat.drop (e.i - a) = (Tr.node y ks).flat ++ r ∧ e ∈ topK e.i y.kind ks (e.i + 1) []
  | .node y ks, a, aa, dd, e, hw, h => by
    have hfl : (Tr.node y ks).flat.length = ks.flat.length + 1 := rfl
    rw [kidT] at h
    rcases kids_sub a y.kind ks (a + 1) [] _ _ e hw.2.2.2.2 h with ⟨h1, h2⟩ | ⟨y2, ks2, r, a2, d2, g1, g2, g3, g4, g5⟩
    · refine ⟨y, ks, [], aa, dd, hw, by omega, by omega, ?_, ?_⟩
      · rw [h2, Nat.sub_self, List.append_nil]; rfl
      rw [h2]; exact h1
    refine ⟨y2, ks2, r, a2, d2, g1, by omega, by omega, ?_, g5⟩
    rw [show e.i - a = (e.i - (a + 1)) + 1 by omega]
    exact g4
theorem kids_sub (i0 : Nat) (kind : Int) : ∀ (ts : Trs) (a : Nat) (seen : List Ex) (aa : Int) (dd : Nat) (e : KE), ts.wf aa dd → e ∈ kidK i0 kind ts a seen → (e ∈ topK i0 kind ts a seen ∧ e.i = i0) ∨ ∃ y ks r a2 d2, (Tr.node y ks).wf a2 d2 ∧ a ≤ e.i ∧ e.i < a + ts.flat.length ∧ ts.flat.drop (e.i - a) = (Tr.node y ks).flat ++ r ∧ e ∈ topK e.i y.kind ks (e.i + 1) []
  | .nil, a, seen, aa, dd, e, hw, h => by cases h
  | .cons t ts, a, seen, aa, dd, e, hw, h => by
    have hfl : (Trs.cons t ts).flat.length = t.flat.length + ts.flat.length := by simp [Trs.flat]
    rw [kidK] at h
    rcases List.mem_cons.1 h with rfl | h
    · exact .inl ⟨by rw [topK]; exact List.mem_cons_self .., rfl⟩
    rcases List.mem_append.1 h with h | h
    · obtain ⟨y2, ks2, r, a2, d2, g1, g2, g3, g4, g5⟩ := kid_sub t a _ _ e hw.1 h
      exact .inr ⟨y2, ks2, r ++ ts.flat, a2, d2, g1, g2, by omega, drop_cat (by omega) g4, g5⟩
    rcases kids_sub i0 kind ts (a + t.flat.length) (seen ++ [t.top]) _ _ e hw.2 h with ⟨h1, h2⟩ | ⟨y2, ks2, r, a2, d2, g1, g2, g3, g4, g5⟩
    · exact .inl ⟨by rw [topK]; exact List.mem_cons_of_mem _ h1, h2⟩
    refine .inr ⟨y2, ks2, r, a2, d2, g1, by omega, by omega, ?_, g5⟩
    rw [show (Trs.cons t ts).flat = t.flat ++ ts.flat from rfl, show e.i - a = t.flat.length + (e.i - (a + t.flat.length)) by omega, ← List.drop_drop, List.drop_left]
    exact g4
end
theorem topK_kind {i : Nat} {kind : Int} : ∀ {ts : Trs} {a : Nat} {seen : List Ex} {e : KE}, e ∈ topK i kind ts a seen → e.kind = kind ∧ e.i = i ∧ a ≤ e.p ∧ e.p < a + ts.flat.length ∧ (e.p = a ∨ ∃ t t2, ts = .cons t t2 ∧ e ∈ topK i kind t2 (a + t.flat.length) (seen ++ [t.top])) ∧ ∀ x ∈ seen, x ∈ e.seen
  | .nil, _, _, _, h => by cases h
  | .cons t ts, a, seen, e, h => by
    have hfl : (Trs.cons t ts).flat.length = t.flat.length + ts.flat.length := by simp [Trs.flat]
    have hp := tr_pos t
    rw [topK] at h
    rcases List.mem_cons.1 h with rfl | h
    · exact ⟨rfl, rfl, Nat.le_refl _, by show a < _; omega, .inl rfl, fun x hx => hx⟩
    obtain ⟨h1, h2, h3, h4, -, h6⟩ := topK_kind h
    exact ⟨h1, h2, by omega, by omega, .inr ⟨t, ts, rfl, h⟩, fun x hx => h6 x (List.mem_append_left _ hx)⟩
end Go.Proofs.Ytpbflfgigfdohaa

set_option linter.unusedSimpArgs false
set_option linter.unusedVariables false
set_option maxRecDepth 100000
namespace Go.Proofs.Ytpbflfgigfdohaa
open Go Go.Vc Go.RowKit Go.Proofs

noncomputable def mkS (D : List Df) (k : Nat) : (Nat → Int) × List Tp := mkO (whD D) (TD D) ((ordN D).take k) (fun _ => 0) []
theorem mkS_succ {D : List Df} {k : Nat} (hk : k < (ordN D).length) : mkS D (k + 1) = (upI (mkS D k).1 (ordN D)[k] (mkT (fun nm => (mkS D k).1 (whD D nm)) (TD D (ordN D)[k]) (mkS D k).2).1, (mkT (fun nm => (mkS D k).1 (whD D nm)) (TD D (ordN D)[k]) (mkS D k).2).2) := mkO_take hk
theorem mkS_all (D : List Df) : mkS D (ordN D).length = mkO (whD D) (TD D) (ordN D) (fun _ => 0) [] := by rw [mkS, List.take_length]
end Go.Proofs.Ytpbflfgigfdohaa
