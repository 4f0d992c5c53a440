/-
  Walks and lemmas. Written by program out of specs of mine.
-/
import Derived.WalkKit
import Derived.WalkSpells
import Derived.WalkLawsBesides
import Derived.Deep.Quiet
import Derived.StillTail
import Derived.StringKeys
import Derived.Laws.StructEq
import Derived.Laws.Externs
import Derived.Laws.Tables
import Derived.Scope
import Derived.Laws.AppendOwn
import Derived.Maps.AppendAt
import Derived.Recover
import Derived.Test.YthlbhnefldaoiaaDoorProg
import Derived.Shelf.Strconv.Itoa0
import Derived.Shelf.Strconv.Itoa1
import Derived.Shelf.LaysM
import Derived.Shelf.Strconv.Itoa2
import Derived.Shelf.Strconv.Itoa3
import Derived.Shelf.Strings.Builder1
import Derived.Shelf.Strings.OnBuilder
import Derived.Lib.Builder
import Derived.Lib.UnsafeStr
import Derived.Lib.ItoaLen
import Derived.SizedLaws
import Derived.ChangeArms
import Derived.ChangeSlices
import Derived.Deep.DeepAppendWide
import Derived.Test.YthlbhnefldaoiaaDoorRows
import Derived.ProofKit
import Derived.OpenShut
import Derived.ShutString
import Derived.ChangeOld
import Derived.Below
import Derived.JoinedCond
import Derived.SliceStrings
import Derived.Test.YthlbhnefldaoiaaDoorCards
import Derived.Test.YthlbhnefldaoiaaDoorTie
import Derived.Deep.DeepHandedRow
import Derived.Lib.LaidTab
import Derived.Test.YthlbhnefldaoiaaDoorKc5
set_option linter.unusedSimpArgs false
set_option linter.unusedVariables false
set_option maxRecDepth 100000
set_option linter.unusedSimpArgs false
set_option linter.unusedVariables false
set_option maxRecDepth 100000
namespace Go.Proofs.YthlbhnefldaoiaaDoor
open Go Go.Vc Go.RowKit Go.Proofs

theorem madR {w : World} {b1 b2 : Nat} {t1 t2 : TypeId} {cv ev_ : Value} {e : Bool} {L : List Ins} {n m : Nat} (hl : L.length = n + 1) (h1 : w.ownsRow b1 t1 4 cv (n + 1) (inss L)) (h2 : w.ownsRow b2 t2 1 ev_ m (zs (List.replicate m 0))) : PgR w ⟨e, L, List.replicate m 0⟩ cv ev_ := by
  refine ⟨?_, ?_⟩
  · show Sl w 4 cv L.length (inss L)
    rw [hl]; exact Sl.own h1
  · show Sl w 1 ev_ (List.replicate m (0 : Int)).length (zs (List.replicate m (0 : Int)))
    rw [List.length_replicate]; exact Sl.own h2
theorem madC {w : World} {base g N c k : Nat} {t : TypeId} {L : List Ins} (h : w.ownsRow base t 4 (.slice (some ⟨g, 0, none⟩) N c) N (inss L)) (hl : L.length = N) (hk : k < N) : Cells w g (0 + k * 4) (insV (L.getD k in0)) := by
  have h1 := Sl.own h
  have e : L.getD k in0 = L[k]'(by omega) := by rw [List.getD_eq_getElem?_getD, List.getElem?_eq_getElem (by omega)]; rfl
  rw [e]
  subst hl
  exact ins_at h1 hk
theorem set_self {L : List Ins} {i : Nat} (hi : i < L.length) : L.set i (L.getD i in0) = L := by
  apply List.ext_getElem?
  intro j
  by_cases hj : j = i
  · subst hj; rw [List.getElem?_set_self hi, List.getD_eq_getElem?_getD, List.getElem?_eq_getElem hi]; rfl
  · rw [List.getElem?_set_ne (by omega)]
theorem madA {L : List Ins} {i : Nat} {x : Ins} {a v : Int} (hi : i < L.length) : (inss (L.set i { x with a := a })).set (i * 4 + 1) (.int .i64 v) = inss (L.set i { x with a := v }) := by
  rw [inss_setA _ i (by rw [List.length_set]; exact hi), List.set_set, List.getElem_set_self]

set_option maxHeartbeats 64000000 in
theorem made_spec (p : Pg) (cv ev_ : Value) (most : Nat) (w0 : World) (hp : PgR w0 p cv ev_) (hb : BPg p) (hmost : most ≤ 1000) : Ca Tryd.prog 17 #[.agg (pgV p cv ev_).toArray, .int .i64 (most : Int)] w0 (fun r w' => ∃ q cu eu, r = .agg (pgV q cu eu).toArray ∧ OkP q ∧ 0 < q.code.length ∧ q.code.length ≤ most + 1 ∧ 0 < q.ent.length ∧ w'.ownsRow w0.heap.size 28 4 cu q.code.length (inss q.code) ∧ w'.ownsRow w0.heap.size 3 1 eu q.ent.length (zs q.ent) ∧ Ext w0 w') := by
  obtain ⟨H0, hH0⟩ : ∃ H, H = w0.heap.size := ⟨_, rfl⟩
  rw [← hH0]
  have hpo := hp.one.2.2
  have hlc := hb.lc
  have hle := hb.le
  obtain ⟨n, hn⟩ : ∃ n : Nat, n = min p.code.length most := ⟨_, rfl⟩
  have hn2 : (if (most : Int) < (p.code.length : Int) then (most : Int) else (p.code.length : Int)) = (n : Int) := by split <;> omega
  obtain ⟨m0, hm0⟩ : ∃ m0 : Nat, m0 = min p.ent.length 20 := ⟨_, rfl⟩
  have hm2 : (if (20 : Int) < (p.ent.length : Int) then (20 : Int) else (p.ent.length : Int)) = (m0 : Int) := by split <;> omega
  obtain ⟨m, hm⟩ : ∃ m : Nat, m = m0 + 1 := ⟨_, rfl⟩
  have hn1 : n ≤ 1000 ∧ n ≤ p.code.length ∧ n ≤ most := by omega
  have hm1 : 1 ≤ m ∧ m ≤ 21 := by omega
  refine Ca.of Tryd.func17 Tryd.ntmps17 rfl rfl ?_
  refine W.seq ?_
  refine W.region ?_
  refine WL.c rfl (o_boxB rfl ?_)
  intro w2 hC2 hx2 hs2
  obtain ⟨b2, hb2⟩ : ∃ b, b = w0.heap.size := ⟨_, rfl⟩
  rw [← hb2] at hC2 ⊢
  replace hC2 : w2.heap[b2]? = some (.cells (pgV p cv ev_).toArray 26 (0, 0)) := hC2
  have hx : Ext w0 w2 := hx2
  refine WL.c rfl (o_alB TI26 ?_)
  intro w4 hC4 hx4 hs4
  obtain ⟨b4, hb4⟩ : ∃ b, b = w2.heap.size := ⟨_, rfl⟩
  rw [← hb4] at hC4 ⊢
  replace hC4 : w4.heap[b4]? = some (.cells ([.bool false, .slice none 0 0, .slice none 0 0]).toArray 26 (0, 0)) := hC4
  have hg4 : w0.heap.size ≤ b4 := by have := hx.size; omega
  have hl2 := (Array.getElem?_eq_some_iff.1 hC2).1
  have hb24 : b2 < b4 := by omega
  replace hx := hx.tr hx4
  replace hC2 := hx4.blk hC2 (fun h => h)
  refine WL.nil ?_
  refine W.seq ?_
  refine W.region ?_
  refine WL.c rfl (o_fa 0 TI26 rfl TI4 rfl rfl ?_)
  refine WL.c rfl (o_ld TI4 rfl rfl (cell_of hC2 rfl) ?_)
  refine WL.c rfl (o_bldC (cs := [_, (.slice none 0 0), (.slice none 0 0)]) TI26 (Sizes.cons TI4 (Sizes.cons TI23 (Sizes.cons TI24 Sizes.nil))) rfl (lcp (show _ = Value.bool _ from rfl) lnp) rfl rfl ?_)
  refine WL.c rfl (o_alB TI26 ?_)
  intro wa hCa hxa hsa
  refine WL.u (o_stA TI26 rfl (show _ = Value.agg ([.bool p.enc, .slice none 0 0, .slice none 0 0]).toArray from rfl) rfl rfl hCa rfl ?_)
  intro wb5 hC5 hob hsb
  have hxb := Ext.own hxa (Nat.le_refl _) hob
  obtain ⟨b5, hb5⟩ : ∃ b, b = w4.heap.size := ⟨_, rfl⟩
  rw [← hb5] at hC5 ⊢
  clear hCa hxa hsa hob hsb
  have hl4 := (Array.getElem?_eq_some_iff.1 hC4).1
  have hb45 : b4 < b5 := by omega
  replace hx := hx.tr hxb
  replace hC2 := hxb.blk hC2 (fun h => h)
  replace hC4 := hxb.blk hC4 (fun h => h)
  clear hxb
  refine WL.nil ?_
  refine W.seq ?_
  refine W.seq ?_
  refine W.region ?_
  refine WL.cut (fun e1 w1 => e1 40 = .bool (decide (0 < p.code.length ∧ p.code.length ≤ most ∧ 0 < p.ent.length ∧ (chk p).1 = 0)) ∧ e1 1 = .int .i64 (most : Int) ∧ e1 2 = .pointer (some ⟨b2, 0, none⟩) ∧ e1 4 = .pointer (some ⟨b4, 0, none⟩) ∧ e1 5 = .pointer (some ⟨b5, 0, none⟩) ∧ w1.heap[b2]? = some (.cells (pgV p cv ev_).toArray 26 (0, 0)) ∧ w1.heap[b4]? = some (.cells ([.bool false, .slice none 0 0, .slice none 0 0]).toArray 26 (0, 0)) ∧ w1.heap[b5]? = some (.cells #[.bool p.enc, .slice none 0 0, .slice none 0 0] 26 (0, 0)) ∧ Ext w0 w1) ?_ ?_
  · -- region 2
    refine WL.c rfl (o_fa 1 TI26 rfl TI23 rfl rfl ?_)
    refine WL.c rfl (o_ld TI23 rfl rfl (cell_of hC2 rfl) ?_)
    refine WL.c rfl (o_lenR TI23 rfl (hp.code.ext hx) ?_)
    refine WL.c rfl (o_gt rfl rfl ?_)
    refine WL.c rfl (o_mvh (show _ = Value.bool _ from rfl) ?_)
    refine WL.sp 4 rfl (fun g22 => ?_) (fun g22 => ?_)
    · skip
      refine WL.g rfl (g22) rfl (o_fa 1 TI26 rfl TI23 rfl rfl ?_)
      refine WL.g rfl (g22) rfl (o_ld TI23 rfl rfl (cell_of hC2 rfl) ?_)
      refine WL.g rfl (g22) rfl (o_lenR TI23 rfl (hp.code.ext hx) ?_)
      refine WL.g rfl (g22) rfl (o_mvh (show _ = Value.int _ _ from rfl) ?_)
      refine WL.g rfl (g22) rfl (o_le rfl rfl ?_)
      refine WL.c rfl (o_pickA rfl rfl ?_)
      refine WL.c rfl (o_mvh (show _ = Value.bool _ from rfl) ?_)
      refine WL.sp 11 rfl (fun g29 => ?_) (fun g29 => ?_)
      · skip
        refine WL.g rfl (g29) rfl (o_fa 2 TI26 rfl TI24 rfl rfl ?_)
        refine WL.g rfl (g29) rfl (o_ld TI24 rfl rfl (cell_of hC2 rfl) ?_)
        refine WL.g rfl (g29) rfl (o_lenR TI24 rfl (hp.ent.ext hx) ?_)
        refine WL.g rfl (g29) rfl (o_gt rfl rfl ?_)
        refine WL.c rfl (o_pickA rfl rfl ?_)
        refine WL.c rfl (o_mvh (show _ = Value.bool _ from rfl) ?_)
        refine WL.sp 17 rfl (fun g35 => ?_) (fun g35 => ?_)
        · skip
          refine WL.g rfl (g35) rfl (o_ldA TI26 rfl rfl (show Cells _ b2 0 (pgV p cv ev_) from Cells.of hC2 0 _ (by simp)) rfl ?_)
          refine WL.g rfl (g35) rfl (o_call Tryd.call35 (lc rfl ln) ((rcheck_spec p cv ev_ _ (hp.ext hx) (by have h9 := g29; simp at h9; omega) (by omega)).mono ?_))
          rintro v37 w37 ⟨rfl, hx37⟩
          replace hx := hx.tr hx37
          replace hC2 := hx37.blk hC2 (fun h => h)
          replace hC4 := hx37.blk hC4 (fun h => h)
          replace hC5 := hx37.blk hC5 (fun h => h)
          refine WL.g rfl (g35) rfl (o_fldT TI32 rfl rfl rfl TI30 rfl rfl rfl ?_)
          refine WL.g rfl (g35) rfl (o_eq rfl rfl ?_)
          refine WL.c rfl (o_pickA rfl rfl ?_)
          exact WL.nil (⟨congrArg Value.bool (by rw [Bool.eq_iff_iff, decide_eq_true_iff]; first | (simp_all; done) | (simp_all; omega)), rfl, rfl, rfl, rfl, hC2, hC4, hC5, hx⟩)
        · skip
          refine WL.s rfl (g35) rfl ?_
          refine WL.s rfl (g35) rfl ?_
          refine WL.s rfl (g35) rfl ?_
          refine WL.s rfl (g35) rfl ?_
          refine WL.c rfl (o_pickF rfl (g35) ?_)
          exact WL.nil (⟨congrArg Value.bool (by rw [Bool.eq_iff_iff, decide_eq_true_iff]; first | (simp_all; done) | (simp_all; omega)), rfl, rfl, rfl, rfl, hC2, hC4, hC5, hx⟩)
      · skip
        refine WL.s rfl (g29) rfl ?_
        refine WL.s rfl (g29) rfl ?_
        refine WL.s rfl (g29) rfl ?_
        refine WL.s rfl (g29) rfl ?_
        refine WL.c rfl (o_pickF rfl (g29) ?_)
        refine WL.c rfl (o_mvh (show _ = Value.bool _ from rfl) ?_)
        refine WL.s rfl (rfl) rfl ?_
        refine WL.s rfl (rfl) rfl ?_
        refine WL.s rfl (rfl) rfl ?_
        refine WL.s rfl (rfl) rfl ?_
        refine WL.c rfl (o_pickF rfl (rfl) ?_)
        exact WL.nil (⟨congrArg Value.bool (by rw [Bool.eq_iff_iff, decide_eq_true_iff]; first | (simp_all; done) | (simp_all; omega)), rfl, rfl, rfl, rfl, hC2, hC4, hC5, hx⟩)
    · skip
      refine WL.s rfl (g22) rfl ?_
      refine WL.s rfl (g22) rfl ?_
      refine WL.s rfl (g22) rfl ?_
      refine WL.s rfl (g22) rfl ?_
      refine WL.s rfl (g22) rfl ?_
      refine WL.c rfl (o_pickF rfl (g22) ?_)
      refine WL.c rfl (o_mvh (show _ = Value.bool _ from rfl) ?_)
      refine WL.s rfl (rfl) rfl ?_
      refine WL.s rfl (rfl) rfl ?_
      refine WL.s rfl (rfl) rfl ?_
      refine WL.s rfl (rfl) rfl ?_
      refine WL.c rfl (o_pickF rfl (rfl) ?_)
      refine WL.c rfl (o_mvh (show _ = Value.bool _ from rfl) ?_)
      refine WL.s rfl (rfl) rfl ?_
      refine WL.s rfl (rfl) rfl ?_
      refine WL.s rfl (rfl) rfl ?_
      refine WL.s rfl (rfl) rfl ?_
      refine WL.c rfl (o_pickF rfl (rfl) ?_)
      exact WL.nil (⟨congrArg Value.bool (by rw [Bool.eq_iff_iff, decide_eq_true_iff]; first | (simp_all; done) | (simp_all; omega)), rfl, rfl, rfl, rfl, hC2, hC4, hC5, hx⟩)
  rintro e w ⟨h40, h1, h2, h4, h5, hC2, hC4, hC5, hx⟩
  refine W.cond h40 (fun c40 => ?_) (fun c40 => ?_)
  · try simp only [decide_eq_true_eq, decide_eq_false_iff_not, Bool.not_eq_true', Bool.not_eq_false', Bool.and_eq_true, Bool.or_eq_true, Bool.and_eq_false_iff, Bool.or_eq_false_iff] at c40
    obtain ⟨hc1, hc2, he1, hz⟩ := c40
    have hok := chk_zero.1 hz
    have hne1 := hok.read.ne
    refine W.seq ?_
    refine W.region ?_
    refine WL.c rfl (o_fa 1 TI26 rfl TI23 rfl h5 ?_)
    refine WL.c rfl (o_ld TI23 rfl rfl (cell_of hC5 rfl) ?_)
    refine WL.c rfl (o_fa 1 TI26 rfl TI23 rfl h2 ?_)
    refine WL.c rfl (o_ld TI23 rfl rfl (cell_of hC2 rfl) ?_)
    refine WL.c rfl (o_apO (w0.heap.size) TI23 TI28 rfl rfl (World.ownsRow_nil _ _ _ _) (hp.code.ext hx) rfl (by decide) (one_inss _) (by rw [maxLen_eq]; omega) (by omega) hx.size ?_)
    intro v45 w45 hr45 ho45 _hb _hk
    rw [Nat.zero_add, List.nil_append] at hr45
    have hx45 : Ext w w45 := ho45.mono (fun j _ h => by cases h)
    replace hx := hx.tr hx45
    replace hC2 := hx45.blk hC2 (fun h => h)
    replace hC4 := hx45.blk hC4 (fun h => h)
    replace hC5 := hx45.blk hC5 (fun h => h)
    refine WL.c rfl (o_fa 1 TI26 rfl TI23 rfl h5 ?_)
    refine WL.u (o_stB TI23 rfl (show _ = v45 from rfl) (own_one hr45) hC5 (show 1 < 3 by decide) ?_)
    intro w46 hB5 ho46 hs46
    replace hC2 := ho46.blk hC2 (by omega)
    replace hC4 := ho46.blk hC4 (by omega)
    replace hx := hx.trans' ho46 (fun _ h => h) (fun q hq he => by omega)
    replace hr45 := own_only hr45 ho46 (fun q hq he => by subst he; exact own_off hr45 hC5 (by decide) hq)
    clear hC5
    have hC5 : w46.heap[b5]? = some (.cells #[.bool p.enc, v45, .slice none 0 0] 26 (0, 0)) := hB5
    clear hB5
    refine WL.nil ?_
    refine W.seq ?_
    refine W.region ?_
    refine WL.c rfl (o_fa 2 TI26 rfl TI24 rfl h5 ?_)
    refine WL.c rfl (o_ld TI24 rfl rfl (cell_of hC5 rfl) ?_)
    refine WL.c rfl (o_fa 2 TI26 rfl TI24 rfl h2 ?_)
    refine WL.c rfl (o_ld TI24 rfl rfl (cell_of hC2 rfl) ?_)
    refine WL.c rfl (o_apO (w0.heap.size) TI24 TI3 rfl rfl (World.ownsRow_nil _ _ _ _) (hp.ent.ext hx) rfl (by decide) (one_zs _) (by rw [maxLen_eq]; omega) (by omega) hx.size ?_)
    intro v51 w51 hr51 ho51 _hb _hk
    rw [Nat.zero_add, List.nil_append] at hr51
    have hx51 : Ext w46 w51 := ho51.mono (fun j _ h => by cases h)
    replace hr45 := own_ext hr45 hx51
    replace hx := hx.tr hx51
    replace hC2 := hx51.blk hC2 (fun h => h)
    replace hC4 := hx51.blk hC4 (fun h => h)
    replace hC5 := hx51.blk hC5 (fun h => h)
    refine WL.c rfl (o_fa 2 TI26 rfl TI24 rfl h5 ?_)
    refine WL.u (o_stB TI24 rfl (show _ = v51 from rfl) (own_one hr51) hC5 (show 2 < 3 by decide) ?_)
    intro w52 hB5 ho52 hs52
    replace hC2 := ho52.blk hC2 (by omega)
    replace hC4 := ho52.blk hC4 (by omega)
    replace hx := hx.trans' ho52 (fun _ h => h) (fun q hq he => by omega)
    replace hr45 := own_only hr45 ho52 (fun q hq he => by subst he; exact own_off hr45 hC5 (by decide) hq)
    replace hr51 := own_only hr51 ho52 (fun q hq he => by subst he; exact own_off hr51 hC5 (by decide) hq)
    clear hC5
    have hC5 : w52.heap[b5]? = some (.cells #[.bool p.enc, v45, v51] 26 (0, 0)) := hB5
    clear hB5
    refine WL.nil ?_
    refine W.seq ?_
    refine W.region ?_
    refine WL.c rfl (o_ldA TI26 rfl h5 (show Cells _ b5 0 (pgV p v45 v51) from Cells.of hC5 0 _ (by simp [pgV])) rfl ?_)
    refine WL.u (o_stA TI26 h4 rfl rfl (by first | rfl | (simp [pgV, own_one hr45, own_one hr51]; rfl)) hC4 rfl ?_)
    intro w4s hB4 ho4 hs4s
    replace hx := hx.trans' ho4 (fun _ h => h) (fun q hq he => by omega)
    refine WL.nil ?_
    refine W.ret ?_
    refine retC rfl TI26 rfl h4 (cells_all (by assumption)) rfl ?_
    exact ⟨p, v45, v51, rfl, hok, hc1, by omega, he1, own_mono (own_only hr45 ho4 (fun q hq he => by subst he; exact own_off hr45 hC4 (by decide) hq)) (by omega), own_mono (own_only hr51 ho4 (fun q hq he => by subst he; exact own_off hr51 hC4 (by decide) hq)) (by omega), hx⟩
  · try simp only [decide_eq_true_eq, decide_eq_false_iff_not, Bool.not_eq_true', Bool.not_eq_false', Bool.and_eq_true, Bool.or_eq_true, Bool.and_eq_false_iff, Bool.or_eq_false_iff] at c40
    refine W.skip ?_
    refine W.seq ?_
    refine W.region ?_
    refine WL.c rfl (o_fa 1 TI26 rfl TI23 rfl h2 ?_)
    refine WL.c rfl (o_ld TI23 rfl rfl (cell_of hC2 rfl) ?_)
    refine WL.c rfl (o_lenR TI23 rfl (hp.code.ext hx) ?_)
    refine WL.c rfl (o_mvh h1 ?_)
    refine WL.c rfl (o_minI rfl rfl ?_)
    rw [hn2]
    refine WL.c rfl (o_ash (show _ = Value.int _ _ from rfl) ?_)
    refine WL.nil ?_
    refine W.seq ?_
    refine W.region ?_
    refine WL.c rfl (o_mvh (show _ = Value.int _ _ from rfl) ?_)
    refine WL.c rfl (o_addi rfl rfl (by omega) ?_)
    refine WL.c rfl (o_mk (n := n + 1) TI23 TI28 (show _ = Value.int .i64 ((n + 1 : Nat) : Int) from rfl) (show _ = Value.int .i64 ((n + 1 : Nat) : Int) from rfl) (by omega) (by omega) ?_)
    have hL := own_mono (own_made4 (w := w) (el := 28) (n := n + 1) (by omega)) hx.size
    have hxa : Ext w (w.alloc (.cells (madeCells (Value.agg #[.int .i64 0, .int .i64 0, .int .i64 0, .int .i64 0]).cells ((n + 1) * 4)) 28)) := Only.alloc _ _
    obtain ⟨gc, hgc⟩ : ∃ g, g = w.heap.size := ⟨_, rfl⟩
    rw [← hgc] at hL ⊢
    generalize w.alloc (.cells (madeCells (Value.agg #[.int .i64 0, .int .i64 0, .int .i64 0, .int .i64 0]).cells ((n + 1) * 4)) 28) = w61 at hL hxa ⊢
    replace hx := hx.tr hxa
    replace hC2 := hxa.blk hC2 (fun h => h)
    replace hC4 := hxa.blk hC4 (fun h => h)
    replace hC5 := hxa.blk hC5 (fun h => h)
    refine WL.c rfl (o_fa 1 TI26 rfl TI23 rfl h5 ?_)
    refine WL.u (o_stB TI23 rfl (show _ = Value.slice (some ⟨gc, 0, none⟩) (n + 1) (n + 1) from rfl) rfl hC5 (show 1 < 3 by decide) ?_)
    intro w62 hB5 ho62 hs62
    replace hC2 := ho62.blk hC2 (by omega)
    replace hC4 := ho62.blk hC4 (by omega)
    replace hx := hx.trans' ho62 (fun _ h => h) (fun q hq he => by omega)
    replace hL := own_only hL ho62 (fun q hq he => by subst he; exact own_off hL hC5 (by decide) hq)
    clear hC5
    have hC5 : w62.heap[b5]? = some (.cells #[.bool p.enc, Value.slice (some ⟨gc, 0, none⟩) (n + 1) (n + 1), .slice none 0 0] 26 (0, 0)) := hB5
    clear hB5
    refine WL.nil ?_
    refine W.seq ?_
    refine W.region ?_
    refine WL.c rfl (o_fa 2 TI26 rfl TI24 rfl h2 ?_)
    refine WL.c rfl (o_ld TI24 rfl rfl (cell_of hC2 rfl) ?_)
    refine WL.c rfl (o_lenR TI24 rfl (hp.ent.ext hx) ?_)
    refine WL.c rfl (o_minI rfl rfl ?_)
    rw [hm2]
    refine WL.c rfl (o_addi rfl rfl (by omega) ?_)
    refine WL.c rfl (o_mk (n := m) TI24 TI3 (show Value.int .i64 ((m0 : Int) + 1) = Value.int .i64 (m : Int) from by rw [hm]; rfl) (show Value.int .i64 ((m0 : Int) + 1) = Value.int .i64 (m : Int) from by rw [hm]; rfl) (by omega) (by omega) ?_)
    have hE := own_mono (own_made1 (w := w62) (el := 3) (l := m) (n := m) (z := .int .i64 0) rfl (Nat.le_refl _) (by omega)) hx.size
    rw [show List.replicate m (Value.int .i64 0) = zs (List.replicate m 0) from by rw [zs, List.map_replicate]] at hE
    have hxa : Ext w62 (w62.alloc (.cells (madeCells (Value.int .i64 0).cells (m * 1)) 3)) := Only.alloc _ _
    obtain ⟨ge, hge⟩ : ∃ g, g = w62.heap.size := ⟨_, rfl⟩
    rw [← hge] at hE ⊢
    generalize w62.alloc (.cells (madeCells (Value.int .i64 0).cells (m * 1)) 3) = w68 at hE hxa ⊢
    replace hx := hx.tr hxa
    replace hL := own_ext hL hxa
    replace hC2 := hxa.blk hC2 (fun h => h)
    replace hC4 := hxa.blk hC4 (fun h => h)
    replace hC5 := hxa.blk hC5 (fun h => h)
    refine WL.c rfl (o_fa 2 TI26 rfl TI24 rfl h5 ?_)
    refine WL.u (o_stB TI24 rfl (show _ = Value.slice (some ⟨ge, 0, none⟩) m m from rfl) rfl hC5 (show 2 < 3 by decide) ?_)
    intro w69 hB5 ho69 hs69
    replace hC2 := ho69.blk hC2 (by omega)
    replace hC4 := ho69.blk hC4 (by omega)
    replace hx := hx.trans' ho69 (fun _ h => h) (fun q hq he => by omega)
    replace hL := own_only hL ho69 (fun q hq he => by subst he; exact own_off hL hC5 (by decide) hq)
    replace hE := own_only hE ho69 (fun q hq he => by subst he; exact own_off hE hC5 (by decide) hq)
    clear hC5
    have hC5 : w69.heap[b5]? = some (.cells #[.bool p.enc, Value.slice (some ⟨gc, 0, none⟩) (n + 1) (n + 1), Value.slice (some ⟨ge, 0, none⟩) m m] 26 (0, 0)) := hB5
    clear hB5
    refine WL.nil ?_
    refine W.seq ?_
    refine W.seq ?_
    refine W.region ?_
    refine WL.c rfl (o_ash (show _ = Value.int _ _ from rfl) ?_)
    refine WL.nil ?_
    refine W.block ?_
    refine W.loop (fun e w => ∃ (i : Nat) (L : List Ins), i ≤ n ∧ L.length = n + 1 ∧ (∀ j, j < i → GoodI p.enc (n + 1) m (L.getD j in0)) ∧ e 2 = .pointer (some ⟨b2, 0, none⟩) ∧ e 4 = .pointer (some ⟨b4, 0, none⟩) ∧ e 5 = .pointer (some ⟨b5, 0, none⟩) ∧ e 6 = .int .i64 (n : Int) ∧ e 7 = .int .i64 (i : Int) ∧ w.ownsRow w0.heap.size 28 4 (Value.slice (some ⟨gc, 0, none⟩) (n + 1) (n + 1)) (n + 1) (inss (L)) ∧ w.ownsRow w0.heap.size 3 1 (Value.slice (some ⟨ge, 0, none⟩) m m) m (zs (List.replicate m 0)) ∧ w.heap[b2]? = some (.cells (pgV p cv ev_).toArray 26 (0, 0)) ∧ w.heap[b4]? = some (.cells ([.bool false, .slice none 0 0, .slice none 0 0]).toArray 26 (0, 0)) ∧ w.heap[b5]? = some (.cells #[.bool p.enc, Value.slice (some ⟨gc, 0, none⟩) (n + 1) (n + 1), Value.slice (some ⟨ge, 0, none⟩) m m] 26 (0, 0)) ∧ Ext w0 w) (fun e w => n - (intOf (e 7)).toNat) ?_ ?_
    · exact ⟨0, List.replicate (n + 1) in0, Nat.zero_le _, List.length_replicate .., fun j h => absurd h (Nat.not_lt_zero j), h2, h4, h5, rfl, rfl, hL, hE, hC2, hC4, hC5, hx⟩
    rintro e w ⟨i, L, hi, hLl, hG, h2, h4, h5, h6, h7, hL, hE, hC2, hC4, hC5, hx⟩
    have hm7 := h7
    refine W.seq ?_
    refine W.seq ?_
    refine W.region ?_
    refine WL.c rfl (o_mvh h7 ?_)
    refine WL.c rfl (o_mvh h6 ?_)
    refine WL.c rfl (o_lt rfl rfl ?_)
    refine WL.nil ?_
    refine W.cond rfl (fun c72 => ?_) (fun c72 => ?_)
    · try simp only [decide_eq_true_eq, decide_eq_false_iff_not, Bool.not_eq_true', Bool.not_eq_false', Bool.and_eq_true, Bool.or_eq_true, Bool.and_eq_false_iff, Bool.or_eq_false_iff] at c72
      have hi1 : i < n := by omega
      have hk1 : i < p.code.length := by omega
      obtain ⟨sb, so, sc, hve, hsc⟩ := Sl.ins hp.code hk1
      obtain ⟨x0, hx0⟩ : ∃ x, x = p.code[i] := ⟨_, rfl⟩
      rw [← hx0] at hsc
      have hB0 := hb.ins x0 (hx0 ▸ List.getElem_mem _)
      refine W.skip ?_
      refine W.seq ?_
      refine W.block ?_
      refine W.seq ?_
      refine W.region ?_
      refine WL.c rfl (o_fa 1 TI26 rfl TI23 rfl h2 ?_)
      refine WL.c rfl (o_ld TI23 rfl rfl (cell_of hC2 rfl) ?_)
      refine WL.c rfl (o_mvh h7 ?_)
      refine WL.c rfl (o_ixB (i := i) TI23 TI28 (show _ = Value.slice (some ⟨sb, so, none⟩) p.code.length sc from hve) (show _ = Value.int .i64 (i : Int) from rfl) hk1 ?_)
      refine WL.c rfl (o_fa 0 TI28 rfl TI3 rfl rfl ?_)
      refine WL.c rfl (o_ld TI3 rfl rfl (show _ = some (Value.int .i64 x0.op) from (Cells.only hsc hx (fun h => h)) 0 _ rfl) ?_)
      refine WL.c rfl (o_call Tryd.call39 (lc rfl (lc rfl (lc rfl ln))) ((brought_spec x0.op 1 20 _ hB0.op (by decide) (by decide) (by decide)).mono ?_))
      rintro v81 w81 ⟨⟨q1, rfl, hq1, hq2⟩, hw81⟩
      obtain rfl := hw81.symm
      refine WL.c rfl (o_ash (show _ = Value.int _ _ from rfl) ?_)
      refine WL.nil ?_
      refine W.seq ?_
      refine W.seq ?_
      refine W.region ?_
      refine WL.cut (fun e1 w1 => e1 91 = .bool (decide (p.enc = true ∧ q1 ≠ 9 ∧ q1 < 19)) ∧ e1 2 = .pointer (some ⟨b2, 0, none⟩) ∧ e1 4 = .pointer (some ⟨b4, 0, none⟩) ∧ e1 5 = .pointer (some ⟨b5, 0, none⟩) ∧ e1 6 = .int .i64 (n : Int) ∧ e1 7 = .int .i64 (i : Int) ∧ e1 8 = .int .i64 q1 ∧ w1 = w) ?_ ?_
      · -- region 13
        refine WL.c rfl (o_fa 0 TI26 rfl TI4 rfl h2 ?_)
        refine WL.c rfl (o_ld TI4 rfl rfl (cell_of hC2 rfl) ?_)
        refine WL.c rfl (o_mvh (show _ = Value.bool _ from rfl) ?_)
        refine WL.sp 2 rfl (fun g84 => ?_) (fun g84 => ?_)
        · skip
          refine WL.g rfl (g84) rfl (o_mvh (show _ = Value.int _ _ from rfl) ?_)
          refine WL.g rfl (g84) rfl (o_ne rfl rfl ?_)
          refine WL.c rfl (o_pickA rfl rfl ?_)
          refine WL.c rfl (o_mvh (show _ = Value.bool _ from rfl) ?_)
          refine WL.sp 6 rfl (fun g88 => ?_) (fun g88 => ?_)
          · skip
            refine WL.g rfl (g88) rfl (o_mvh (show _ = Value.int _ _ from rfl) ?_)
            refine WL.g rfl (g88) rfl (o_lt rfl rfl ?_)
            refine WL.c rfl (o_pickA rfl rfl ?_)
            exact WL.nil (⟨congrArg Value.bool (by rw [Bool.eq_iff_iff, decide_eq_true_iff]; first | (simp_all; done) | (simp_all; omega)), h2, h4, h5, h6, h7, rfl, rfl⟩)
          · skip
            refine WL.s rfl (g88) rfl ?_
            refine WL.s rfl (g88) rfl ?_
            refine WL.c rfl (o_pickF rfl (g88) ?_)
            exact WL.nil (⟨congrArg Value.bool (by rw [Bool.eq_iff_iff, decide_eq_true_iff]; first | (simp_all; done) | (simp_all; omega)), h2, h4, h5, h6, h7, rfl, rfl⟩)
        · skip
          refine WL.s rfl (g84) rfl ?_
          refine WL.s rfl (g84) rfl ?_
          refine WL.c rfl (o_pickF rfl (g84) ?_)
          refine WL.c rfl (o_mvh (show _ = Value.bool _ from rfl) ?_)
          refine WL.s rfl (rfl) rfl ?_
          refine WL.s rfl (rfl) rfl ?_
          refine WL.c rfl (o_pickF rfl (rfl) ?_)
          exact WL.nil (⟨congrArg Value.bool (by rw [Bool.eq_iff_iff, decide_eq_true_iff]; first | (simp_all; done) | (simp_all; omega)), h2, h4, h5, h6, h7, rfl, rfl⟩)
      rintro e w ⟨h91, h2, h4, h5, h6, h7, h8, hw1⟩
      subst hw1
      refine W.cut (fun e1 w1 => ∃ op, okOp p.enc op ∧ e1 2 = .pointer (some ⟨b2, 0, none⟩) ∧ e1 4 = .pointer (some ⟨b4, 0, none⟩) ∧ e1 5 = .pointer (some ⟨b5, 0, none⟩) ∧ e1 6 = .int .i64 (n : Int) ∧ e1 7 = .int .i64 (i : Int) ∧ e1 8 = .int .i64 op ∧ w1 = w) ?_ ?_
      · -- both ways
        refine W.cond h91 (fun c91 => ?_) (fun c91 => ?_)
        · try simp only [decide_eq_true_eq, decide_eq_false_iff_not, Bool.not_eq_true', Bool.not_eq_false', Bool.and_eq_true, Bool.or_eq_true, Bool.and_eq_false_iff, Bool.or_eq_false_iff] at c91
          refine W.region ?_
          refine WL.c rfl (o_fa 1 TI26 rfl TI23 rfl h2 ?_)
          refine WL.c rfl (o_ld TI23 rfl rfl (cell_of hC2 rfl) ?_)
          refine WL.c rfl (o_mvh h7 ?_)
          refine WL.c rfl (o_ixB (i := i) TI23 TI28 (show _ = Value.slice (some ⟨sb, so, none⟩) p.code.length sc from hve) (show _ = Value.int .i64 (i : Int) from rfl) hk1 ?_)
          refine WL.c rfl (o_fa 0 TI28 rfl TI3 rfl rfl ?_)
          refine WL.c rfl (o_ld TI3 rfl rfl (show _ = some (Value.int .i64 x0.op) from (Cells.only hsc hx (fun h => h)) 0 _ rfl) ?_)
          refine WL.c rfl (o_call Tryd.call39 (lc rfl (lc rfl (lc rfl ln))) ((brought_spec x0.op 33 47 _ hB0.op (by decide) (by decide) (by decide)).mono ?_))
          rintro v98 w98 ⟨⟨q3, rfl, hq3, hq4⟩, hw98⟩
          obtain rfl := hw98.symm
          refine WL.c rfl (o_ash (show _ = Value.int _ _ from rfl) ?_)
          refine WL.nil ?_
          first | exact ⟨q3, by unfold okOp; rw [if_pos c91.1]; omega, h2, h4, h5, h6, h7, rfl, rfl⟩ | exact ⟨q1, by unfold okOp; split <;> first | (simp_all; done) | (simp_all; omega), h2, h4, h5, h6, h7, h8, rfl⟩
        · try simp only [decide_eq_true_eq, decide_eq_false_iff_not, Bool.not_eq_true', Bool.not_eq_false', Bool.and_eq_true, Bool.or_eq_true, Bool.and_eq_false_iff, Bool.or_eq_false_iff] at c91
          refine W.skip ?_
          first | exact ⟨q3, by unfold okOp; rw [if_pos c91.1]; omega, h2, h4, h5, h6, h7, rfl, rfl⟩ | exact ⟨q1, by unfold okOp; split <;> first | (simp_all; done) | (simp_all; omega), h2, h4, h5, h6, h7, h8, rfl⟩
      rintro e w ⟨op, hop, h2, h4, h5, h6, h7, h8, hw1⟩
      refine W.seq ?_
      subst hw1
      obtain ⟨nm, l0, l1, l2, hfm⟩ := okOp_fm hop
      refine W.region ?_
      refine WL.c rfl (o_mvh h8 ?_)
      refine WL.c rfl (o_fa 0 TI26 rfl TI4 rfl h2 ?_)
      refine WL.c rfl (o_ld TI4 rfl rfl (cell_of hC2 rfl) ?_)
      refine WL.c rfl (o_call Tryd.call40 (lc rfl (lc rfl ln)) ((rof_spec op p.enc _).mono ?_))
      rw [fmT_some hfm]
      rintro v103 w103 ⟨rfl, hx103⟩
      replace hx := hx.tr hx103
      replace hL := own_ext hL hx103
      replace hE := own_ext hE hx103
      replace hC2 := hx103.blk hC2 (fun h => h)
      replace hC4 := hx103.blk hC4 (fun h => h)
      replace hC5 := hx103.blk hC5 (fun h => h)
      refine WL.c rfl (o_mvh (by first | exact (show _ = Value.tuple _ from rfl) | exact rfl) ?_)
      refine WL.c rfl (o_ext rfl rfl ?_)
      refine WL.c rfl (o_ext rfl rfl ?_)
      refine WL.c rfl (o_alB TI82 ?_)
      intro wa hCa hxa hsa
      refine WL.u (o_stA TI82 rfl (show _ = Value.agg ([st nm, st [l0, l1, l2]]).toArray from rfl) rfl rfl hCa rfl ?_)
      intro wb9 hC9 hob hsb
      have hxb := Ext.own hxa (Nat.le_refl _) hob
      obtain ⟨b9, hb9⟩ : ∃ b, b = w103.heap.size := ⟨_, rfl⟩
      rw [← hb9] at hC9 ⊢
      clear hCa hxa hsa hob hsb
      replace hx := hx.tr hxb
      replace hL := own_ext hL hxb
      replace hE := own_ext hE hxb
      replace hC2 := hxb.blk hC2 (fun h => h)
      replace hC4 := hxb.blk hC4 (fun h => h)
      replace hC5 := hxb.blk hC5 (fun h => h)
      clear hxb
      refine WL.c rfl (o_ash (show _ = Value.bool _ from rfl) ?_)
      refine WL.nil ?_
      refine W.seq ?_
      obtain ⟨wd, hwd⟩ : ∃ wd, wd = World.drew wb9 := ⟨_, rfl⟩
      have hxd : Ext wb9 wd := hwd ▸ Only.drew wb9
      replace hx := hx.tr hxd
      replace hL := own_ext hL hxd
      replace hE := own_ext hE hxd
      replace hC2 := hxd.blk hC2 (fun h => h)
      replace hC4 := hxd.blk hC4 (fun h => h)
      replace hC5 := hxd.blk hC5 (fun h => h)
      replace hC9 := hxd.blk hC9 (fun h => h)
      have hLo : ∀ q, (Value.slice (some ⟨gc, 0, none⟩) (n + 1) (n + 1)).ownBlock = some q → ¬ wd.heap.size ≤ q := fun q hq h => by have := (hL.lt q hq).2; omega
      have hz16 := hx.size
      refine W.drawT 36 (Ext) [(2, fun v _ => v = (Value.pointer (some ⟨b2, 0, none⟩))), (4, fun v _ => v = (Value.pointer (some ⟨b4, 0, none⟩))), (5, fun v _ => v = (Value.pointer (some ⟨b5, 0, none⟩))), (6, fun v _ => v = (Value.int .i64 (n : Int))), (7, fun v _ => v = (Value.int .i64 (i : Int))), (8, fun v _ => v = (Value.int .i64 op)), (9, fun v _ => v = (Value.pointer (some ⟨b9, 0, none⟩)))] rfl (by kernel_rfl) (Only.refl No) (fun _ _ _ h k => h.trans k) ⟨Mono.eq, Mono.eq, Mono.eq, Mono.eq, Mono.eq, Mono.eq, Mono.eq, trivial⟩ ⟨h2, h4, h5, h6, h7, h8, rfl, trivial⟩ ?_
      refine WD.p rfl (fun e w hR hh => by obtain ⟨h8, -⟩ := hh; exact SG.n (o_mvh h8 ⟨rfl, Only.refl No _⟩)) ?_
      refine WD.p rfl (fun e w hR hh => by obtain ⟨h5, -⟩ := hh; rw [← hwd] at hR; have hc9 := hR.blk hC5 (fun h => h); exact SG.n (o_ldA TI26 rfl h5 (show Cells _ b5 0 (pgV ⟨p.enc, L, List.replicate m 0⟩ (Value.slice (some ⟨gc, 0, none⟩) (n + 1) (n + 1)) (Value.slice (some ⟨ge, 0, none⟩) m m)) from Cells.of hc9 0 _ (by simp [pgV])) rfl ⟨rfl, Only.refl No _⟩)) ?_
      refine WD.p rfl (fun e w hR hh => by obtain ⟨h9, -⟩ := hh; exact SG.n (o_fa 1 TI82 rfl TI9 rfl h9 ⟨rfl, Only.refl No _⟩)) ?_
      refine WD.p rfl (fun e w hR hh => by obtain ⟨h108, -⟩ := hh; rw [← hwd] at hR; have hc9 := hR.blk hC9 (fun h => h); exact SG.n (o_ld TI9 rfl h108 (cell_of hc9 rfl) ⟨rfl, Only.refl No _⟩)) ?_
      refine WD.p rfl (fun e w hR hh => by obtain ⟨h109, -⟩ := hh; exact SG.n (o_idT (i := 0) TI9 h109 rfl (by simp) ⟨rfl, Only.refl No _⟩)) ?_
      refine WD.p rfl (fun e w hR hh => by obtain ⟨h2, -⟩ := hh; exact SG.n (o_fa 1 TI26 rfl TI23 rfl h2 ⟨rfl, Only.refl No _⟩)) ?_
      refine WD.p rfl (fun e w hR hh => by obtain ⟨h111, -⟩ := hh; rw [← hwd] at hR; have hc9 := hR.blk hC2 (fun h => h); exact SG.n (o_ld TI23 rfl h111 (cell_of hc9 rfl) ⟨rfl, Only.refl No _⟩)) ?_
      refine WD.p rfl (fun e w hR hh => by obtain ⟨h7, -⟩ := hh; exact SG.n (o_mvh h7 ⟨rfl, Only.refl No _⟩)) ?_
      refine WD.p rfl (fun e w hR hh => by obtain ⟨h113, h112, -⟩ := hh; exact SG.n (o_ixB (i := i) TI23 TI28 (h112.trans hve) h113 hk1 ⟨rfl, Only.refl No _⟩)) ?_
      refine WD.p rfl (fun e w hR hh => by obtain ⟨h114, -⟩ := hh; exact SG.n (o_fa 1 TI28 rfl TI3 rfl h114 ⟨rfl, Only.refl No _⟩)) ?_
      refine WD.p rfl (fun e w hR hh => by obtain ⟨h115, -⟩ := hh; rw [← hwd] at hR; exact SG.n (o_ld TI3 rfl h115 (show _ = some (Value.int .i64 x0.a) from (Cells.only hsc (hx.tr hR) (fun h => h)) 1 _ rfl) ⟨rfl, Only.refl No _⟩)) ?_
      refine WD.q (fun v w => ∃ q, v = .int .i64 q ∧ madN (n + 1) m l0.toNat q) (fun v w w2 hR hh => hh) rfl (fun e w hR hh => by obtain ⟨h116, h110, h107, -⟩ := hh; rw [← hwd] at hR; exact SG.n (o_call Tryd.call41 (lc h107 (lc h110 (lc h116 ln))) ((made1_spec ⟨p.enc, L, List.replicate m 0⟩ (Value.slice (some ⟨gc, 0, none⟩) (n + 1) (n + 1)) (Value.slice (some ⟨ge, 0, none⟩) m m) l0 x0.a _ (madR hLl (own_ext hL hR) (own_ext hE hR)) hB0.a (by show 1 ≤ L.length ∧ L.length ≤ 1000000; omega) (by show 1 ≤ (List.replicate m (0 : Int)).length ∧ (List.replicate m (0 : Int)).length ≤ 1000000; rw [List.length_replicate]; omega)).mono (fun v w' hh => by obtain ⟨q, h1, h2, h3⟩ := hh; exact ⟨⟨q, h1, by have h4 : madN L.length (List.replicate m (0 : Int)).length l0.toNat q := h2; rw [hLl, List.length_replicate] at h4; exact h4⟩, h3⟩)))) ?_
      refine WD.p rfl (fun e w hR hh => by obtain ⟨h5, -⟩ := hh; rw [← hwd] at hR; have hc9 := hR.blk hC5 (fun h => h); exact SG.n (o_ldA TI26 rfl h5 (show Cells _ b5 0 (pgV ⟨p.enc, L, List.replicate m 0⟩ (Value.slice (some ⟨gc, 0, none⟩) (n + 1) (n + 1)) (Value.slice (some ⟨ge, 0, none⟩) m m)) from Cells.of hc9 0 _ (by simp [pgV])) rfl ⟨rfl, Only.refl No _⟩)) ?_
      refine WD.p rfl (fun e w hR hh => by obtain ⟨h9, -⟩ := hh; exact SG.n (o_fa 1 TI82 rfl TI9 rfl h9 ⟨rfl, Only.refl No _⟩)) ?_
      refine WD.p rfl (fun e w hR hh => by obtain ⟨h119, -⟩ := hh; rw [← hwd] at hR; have hc9 := hR.blk hC9 (fun h => h); exact SG.n (o_ld TI9 rfl h119 (cell_of hc9 rfl) ⟨rfl, Only.refl No _⟩)) ?_
      refine WD.p rfl (fun e w hR hh => by obtain ⟨h120, -⟩ := hh; exact SG.n (o_idT (i := 1) TI9 h120 rfl (by simp) ⟨rfl, Only.refl No _⟩)) ?_
      refine WD.p rfl (fun e w hR hh => by obtain ⟨h2, -⟩ := hh; exact SG.n (o_fa 1 TI26 rfl TI23 rfl h2 ⟨rfl, Only.refl No _⟩)) ?_
      refine WD.p rfl (fun e w hR hh => by obtain ⟨h122, -⟩ := hh; rw [← hwd] at hR; have hc9 := hR.blk hC2 (fun h => h); exact SG.n (o_ld TI23 rfl h122 (cell_of hc9 rfl) ⟨rfl, Only.refl No _⟩)) ?_
      refine WD.p rfl (fun e w hR hh => by obtain ⟨h7, -⟩ := hh; exact SG.n (o_mvh h7 ⟨rfl, Only.refl No _⟩)) ?_
      refine WD.p rfl (fun e w hR hh => by obtain ⟨h124, h123, -⟩ := hh; exact SG.n (o_ixB (i := i) TI23 TI28 (h123.trans hve) h124 hk1 ⟨rfl, Only.refl No _⟩)) ?_
      refine WD.p rfl (fun e w hR hh => by obtain ⟨h125, -⟩ := hh; exact SG.n (o_fa 2 TI28 rfl TI3 rfl h125 ⟨rfl, Only.refl No _⟩)) ?_
      refine WD.p rfl (fun e w hR hh => by obtain ⟨h126, -⟩ := hh; rw [← hwd] at hR; exact SG.n (o_ld TI3 rfl h126 (show _ = some (Value.int .i64 x0.b) from (Cells.only hsc (hx.tr hR) (fun h => h)) 2 _ rfl) ⟨rfl, Only.refl No _⟩)) ?_
      refine WD.q (fun v w => ∃ q, v = .int .i64 q ∧ madN (n + 1) m l1.toNat q) (fun v w w2 hR hh => hh) rfl (fun e w hR hh => by obtain ⟨h127, h121, h118, -⟩ := hh; rw [← hwd] at hR; exact SG.n (o_call Tryd.call41 (lc h118 (lc h121 (lc h127 ln))) ((made1_spec ⟨p.enc, L, List.replicate m 0⟩ (Value.slice (some ⟨gc, 0, none⟩) (n + 1) (n + 1)) (Value.slice (some ⟨ge, 0, none⟩) m m) l1 x0.b _ (madR hLl (own_ext hL hR) (own_ext hE hR)) hB0.b (by show 1 ≤ L.length ∧ L.length ≤ 1000000; omega) (by show 1 ≤ (List.replicate m (0 : Int)).length ∧ (List.replicate m (0 : Int)).length ≤ 1000000; rw [List.length_replicate]; omega)).mono (fun v w' hh => by obtain ⟨q, h1, h2, h3⟩ := hh; exact ⟨⟨q, h1, by have h4 : madN L.length (List.replicate m (0 : Int)).length l1.toNat q := h2; rw [hLl, List.length_replicate] at h4; exact h4⟩, h3⟩)))) ?_
      refine WD.p rfl (fun e w hR hh => by obtain ⟨h5, -⟩ := hh; rw [← hwd] at hR; have hc9 := hR.blk hC5 (fun h => h); exact SG.n (o_ldA TI26 rfl h5 (show Cells _ b5 0 (pgV ⟨p.enc, L, List.replicate m 0⟩ (Value.slice (some ⟨gc, 0, none⟩) (n + 1) (n + 1)) (Value.slice (some ⟨ge, 0, none⟩) m m)) from Cells.of hc9 0 _ (by simp [pgV])) rfl ⟨rfl, Only.refl No _⟩)) ?_
      refine WD.p rfl (fun e w hR hh => by obtain ⟨h9, -⟩ := hh; exact SG.n (o_fa 1 TI82 rfl TI9 rfl h9 ⟨rfl, Only.refl No _⟩)) ?_
      refine WD.p rfl (fun e w hR hh => by obtain ⟨h130, -⟩ := hh; rw [← hwd] at hR; have hc9 := hR.blk hC9 (fun h => h); exact SG.n (o_ld TI9 rfl h130 (cell_of hc9 rfl) ⟨rfl, Only.refl No _⟩)) ?_
      refine WD.p rfl (fun e w hR hh => by obtain ⟨h131, -⟩ := hh; exact SG.n (o_idT (i := 2) TI9 h131 rfl (by simp) ⟨rfl, Only.refl No _⟩)) ?_
      refine WD.p rfl (fun e w hR hh => by obtain ⟨h2, -⟩ := hh; exact SG.n (o_fa 1 TI26 rfl TI23 rfl h2 ⟨rfl, Only.refl No _⟩)) ?_
      refine WD.p rfl (fun e w hR hh => by obtain ⟨h133, -⟩ := hh; rw [← hwd] at hR; have hc9 := hR.blk hC2 (fun h => h); exact SG.n (o_ld TI23 rfl h133 (cell_of hc9 rfl) ⟨rfl, Only.refl No _⟩)) ?_
      refine WD.p rfl (fun e w hR hh => by obtain ⟨h7, -⟩ := hh; exact SG.n (o_mvh h7 ⟨rfl, Only.refl No _⟩)) ?_
      refine WD.p rfl (fun e w hR hh => by obtain ⟨h135, h134, -⟩ := hh; exact SG.n (o_ixB (i := i) TI23 TI28 (h134.trans hve) h135 hk1 ⟨rfl, Only.refl No _⟩)) ?_
      refine WD.p rfl (fun e w hR hh => by obtain ⟨h136, -⟩ := hh; exact SG.n (o_fa 3 TI28 rfl TI3 rfl h136 ⟨rfl, Only.refl No _⟩)) ?_
      refine WD.p rfl (fun e w hR hh => by obtain ⟨h137, -⟩ := hh; rw [← hwd] at hR; exact SG.n (o_ld TI3 rfl h137 (show _ = some (Value.int .i64 x0.c) from (Cells.only hsc (hx.tr hR) (fun h => h)) 3 _ rfl) ⟨rfl, Only.refl No _⟩)) ?_
      refine WD.q (fun v w => ∃ q, v = .int .i64 q ∧ madN (n + 1) m l2.toNat q) (fun v w w2 hR hh => hh) rfl (fun e w hR hh => by obtain ⟨h138, h132, h129, -⟩ := hh; rw [← hwd] at hR; exact SG.n (o_call Tryd.call41 (lc h129 (lc h132 (lc h138 ln))) ((made1_spec ⟨p.enc, L, List.replicate m 0⟩ (Value.slice (some ⟨gc, 0, none⟩) (n + 1) (n + 1)) (Value.slice (some ⟨ge, 0, none⟩) m m) l2 x0.c _ (madR hLl (own_ext hL hR) (own_ext hE hR)) hB0.c (by show 1 ≤ L.length ∧ L.length ≤ 1000000; omega) (by show 1 ≤ (List.replicate m (0 : Int)).length ∧ (List.replicate m (0 : Int)).length ≤ 1000000; rw [List.length_replicate]; omega)).mono (fun v w' hh => by obtain ⟨q, h1, h2, h3⟩ := hh; exact ⟨⟨q, h1, by have h4 : madN L.length (List.replicate m (0 : Int)).length l2.toNat q := h2; rw [hLl, List.length_replicate] at h4; exact h4⟩, h3⟩)))) ?_
      refine WD.q (fun v w => ∃ A B C, v = .agg (insV ⟨op, A, B, C⟩).toArray ∧ madN (n + 1) m l0.toNat A ∧ madN (n + 1) m l1.toNat B ∧ madN (n + 1) m l2.toNat C) (fun v w w2 hR hh => hh) rfl (fun e w hR hh => by obtain ⟨h139, h128, h117, h106, -⟩ := hh; obtain ⟨A, h117v, hA⟩ := h117; obtain ⟨B, h128v, hB⟩ := h128; obtain ⟨C, h139v, hC⟩ := h139; exact SG.n (o_bldC (cs := [.int .i64 op, .int .i64 A, .int .i64 B, .int .i64 C]) TI28 (Sizes.cons TI3 (Sizes.cons TI3 (Sizes.cons TI3 (Sizes.cons TI3 Sizes.nil)))) rfl (lcp h106 (lcp h117v (lcp h128v (lcp h139v lnp)))) rfl rfl ⟨⟨A, B, C, rfl, hA, hB, hC⟩, Only.refl No _⟩)) ?_
      refine WD.q (fun v w => ∃ b, v = .pointer (some ⟨b, 0, none⟩) ∧ wd.heap.size ≤ b ∧ w.heap[b]? = some (.cells #[.int .i64 0, .int .i64 0, .int .i64 0, .int .i64 0] 28 (0, 0))) (fun v w w2 hR hh => by obtain ⟨b, h1, h2, h3⟩ := hh; exact ⟨b, h1, h2, hR.blk h3 (fun h => h)⟩) rfl (fun e w hR hh => by skip; rw [← hwd] at hR; exact SG.n (o_al TI28 ⟨⟨_, rfl, hR.size, heap_alloc_new _ _⟩, Only.alloc w _⟩)) ?_
      rintro e w hR ⟨h11, h140, h139, h138, h137, h136, h135, h134, h133, h132, h131, h130, h129, h128, h127, h126, h125, h124, h123, h122, h121, h120, h119, h118, h117, h116, h115, h114, h113, h112, h111, h110, h109, h108, h107, h106, h2, h4, h5, h6, h7, h8, h9, -⟩
      rw [← hwd] at hR
      obtain ⟨A, B, C, h140v, hA, hB, hC⟩ := h140
      obtain ⟨b11, h11, hb11, hC11⟩ := h11
      have hl5 := (Array.getElem?_eq_some_iff.1 hC5).1
      have hb511 : b5 < b11 := by omega
      replace hx := hx.tr hR
      replace hL := own_ext hL hR
      replace hE := own_ext hE hR
      replace hC2 := hR.blk hC2 (fun h => h)
      replace hC4 := hR.blk hC4 (fun h => h)
      replace hC5 := hR.blk hC5 (fun h => h)
      replace hC9 := hR.blk hC9 (fun h => h)
      refine WL.u (o_stA TI28 h11 (show _ = Value.agg (insV ⟨op, A, B, C⟩).toArray from h140v) rfl rfl hC11 rfl ?_)
      intro w11s hB11 ho11 hs11
      replace hx := hx.trans' ho11 (fun _ h => h) (fun q hq he => by have := hx.size; omega)
      replace hC2 := ho11.blk hC2 (by omega)
      replace hC4 := ho11.blk hC4 (by omega)
      replace hC5 := ho11.blk hC5 (by omega)
      replace hC9 := ho11.blk hC9 (fun h => by rw [h, hC11] at hC9; cases hC9)
      replace hL := own_only hL ho11 (fun q hq he => by subst he; exact hLo q hq hb11)
      replace hE := own_only hE ho11 (fun q hq he => by subst he; exact own_off hE hC11 (by decide) hq)
      clear hC11
      have hC11 := hB11
      clear hB11
      refine WL.nil ?_
      refine W.seq ?_
      refine W.seq ?_
      refine W.region ?_
      refine WL.cut (fun e1 w1 => e1 153 = .bool (decide (nm = [112, 97, 114, 116] ∧ (A = -1 ∨ B = -1))) ∧ e1 2 = .pointer (some ⟨b2, 0, none⟩) ∧ e1 4 = .pointer (some ⟨b4, 0, none⟩) ∧ e1 5 = .pointer (some ⟨b5, 0, none⟩) ∧ e1 6 = .int .i64 (n : Int) ∧ e1 7 = .int .i64 (i : Int) ∧ e1 11 = .pointer (some ⟨b11, 0, none⟩) ∧ w1 = w11s) ?_ ?_
      · -- region 17
        refine WL.c rfl (o_fa 0 TI82 rfl TI9 rfl h9 ?_)
        refine WL.c rfl (o_ld TI9 rfl rfl (cell_of hC9 rfl) ?_)
        refine WL.c rfl (o_eqT rfl rfl ?_)
        refine WL.c rfl (o_mvh (show _ = Value.bool _ from rfl) ?_)
        refine WL.sp 3 rfl (fun g144 => ?_) (fun g144 => ?_)
        · skip
          refine WL.g rfl (g144) rfl (o_fa 1 TI28 rfl TI3 rfl h11 ?_)
          refine WL.g rfl (g144) rfl (o_ld TI3 rfl rfl (cell_of hC11 rfl) ?_)
          refine WL.g rfl (g144) rfl (o_eq rfl rfl ?_)
          refine WL.g rfl (g144) rfl (o_mvh (show _ = Value.bool _ from rfl) ?_)
          refine WL.sp 7 rfl (fun g148 => ?_) (fun g148 => ?_)
          · skip
            refine WL.s rfl (g148) rfl ?_
            refine WL.s rfl (g148) rfl ?_
            refine WL.s rfl (g148) rfl ?_
            refine WL.g rfl (g144) rfl (o_pickT rfl (g148) ?_)
            refine WL.c rfl (o_pickA rfl rfl ?_)
            exact WL.nil (⟨congrArg Value.bool (by rw [Bool.eq_iff_iff, decide_eq_true_iff]; first | (simp_all; done) | (simp_all; omega)), h2, h4, h5, h6, h7, h11, rfl⟩)
          · skip
            refine WL.g rfl (g148) rfl (o_fa 2 TI28 rfl TI3 rfl h11 ?_)
            refine WL.g rfl (g148) rfl (o_ld TI3 rfl rfl (cell_of hC11 rfl) ?_)
            refine WL.g rfl (g148) rfl (o_eq rfl rfl ?_)
            refine WL.g rfl (g144) rfl (o_pickO rfl rfl ?_)
            refine WL.c rfl (o_pickA rfl rfl ?_)
            exact WL.nil (⟨congrArg Value.bool (by rw [Bool.eq_iff_iff, decide_eq_true_iff]; first | (simp_all; done) | (simp_all; omega)), h2, h4, h5, h6, h7, h11, rfl⟩)
        · skip
          refine WL.s rfl (g144) rfl ?_
          refine WL.s rfl (g144) rfl ?_
          refine WL.s rfl (g144) rfl ?_
          refine WL.s rfl (g144) rfl ?_
          refine WL.z rfl rfl ?_
          refine WL.z rfl rfl ?_
          refine WL.z rfl rfl ?_
          refine WL.s rfl (g144) rfl ?_
          refine WL.c rfl (o_pickF rfl (g144) ?_)
          exact WL.nil (⟨congrArg Value.bool (by rw [Bool.eq_iff_iff, decide_eq_true_iff]; first | (simp_all; done) | (simp_all; omega)), h2, h4, h5, h6, h7, h11, rfl⟩)
      rintro e w ⟨h153, h2, h4, h5, h6, h7, h11, hw1⟩
      subst hw1
      refine W.cut (fun e1 w1 => ∃ y1, y1 = partI nm (⟨op, A, B, C⟩ : Ins) ∧ w1.heap[b11]? = some (.cells (insV y1).toArray 28 (0, 0)) ∧ e1 2 = .pointer (some ⟨b2, 0, none⟩) ∧ e1 4 = .pointer (some ⟨b4, 0, none⟩) ∧ e1 5 = .pointer (some ⟨b5, 0, none⟩) ∧ e1 6 = .int .i64 (n : Int) ∧ e1 7 = .int .i64 (i : Int) ∧ e1 11 = .pointer (some ⟨b11, 0, none⟩) ∧ w1.ownsRow w0.heap.size 28 4 (Value.slice (some ⟨gc, 0, none⟩) (n + 1) (n + 1)) (n + 1) (inss (L)) ∧ w1.ownsRow w0.heap.size 3 1 (Value.slice (some ⟨ge, 0, none⟩) m m) m (zs (List.replicate m 0)) ∧ w1.heap[b2]? = some (.cells (pgV p cv ev_).toArray 26 (0, 0)) ∧ w1.heap[b4]? = some (.cells ([.bool false, .slice none 0 0, .slice none 0 0]).toArray 26 (0, 0)) ∧ w1.heap[b5]? = some (.cells #[.bool p.enc, Value.slice (some ⟨gc, 0, none⟩) (n + 1) (n + 1), Value.slice (some ⟨ge, 0, none⟩) m m] 26 (0, 0)) ∧ Ext w0 w1) ?_ ?_
      · -- both ways
        refine W.cond h153 (fun c153 => ?_) (fun c153 => ?_)
        · try simp only [decide_eq_true_eq, decide_eq_false_iff_not, Bool.not_eq_true', Bool.not_eq_false', Bool.and_eq_true, Bool.or_eq_true, Bool.and_eq_false_iff, Bool.or_eq_false_iff] at c153
          refine W.seq ?_
          refine W.region ?_
          refine WL.c rfl (o_fa 1 TI28 rfl TI3 rfl h11 ?_)
          refine WL.u (o_stB TI3 rfl (show _ = Value.int .i64 (-1) from rfl) rfl hC11 (show 1 < 4 by decide) ?_)
          intro w154 hB11 ho11 hs11
          replace hx := hx.trans' ho11 (fun _ h => h) (fun q hq he => by omega)
          replace hC2 := ho11.blk hC2 (by omega)
          replace hC4 := ho11.blk hC4 (by omega)
          replace hC5 := ho11.blk hC5 (by omega)
          replace hL := own_only hL ho11 (fun q hq he => by subst he; exact hLo q hq hb11)
          replace hE := own_only hE ho11 (fun q hq he => by subst he; exact own_off hE hC11 (by decide) hq)
          clear hC11
          have hC11 : w154.heap[b11]? = some (.cells #[.int .i64 op, .int .i64 (-1), .int .i64 B, .int .i64 C] 28 (0, 0)) := hB11
          clear hB11
          refine WL.nil ?_
          refine W.region ?_
          refine WL.c rfl (o_fa 2 TI28 rfl TI3 rfl h11 ?_)
          refine WL.u (o_stB TI3 rfl (show _ = Value.int .i64 (-1) from rfl) rfl hC11 (show 2 < 4 by decide) ?_)
          intro w155 hB11 ho11 hs11
          replace hx := hx.trans' ho11 (fun _ h => h) (fun q hq he => by omega)
          replace hC2 := ho11.blk hC2 (by omega)
          replace hC4 := ho11.blk hC4 (by omega)
          replace hC5 := ho11.blk hC5 (by omega)
          replace hL := own_only hL ho11 (fun q hq he => by subst he; exact hLo q hq hb11)
          replace hE := own_only hE ho11 (fun q hq he => by subst he; exact own_off hE hC11 (by decide) hq)
          clear hC11
          have hC11 : w155.heap[b11]? = some (.cells (insV ⟨op, -1, -1, C⟩).toArray 28 (0, 0)) := hB11
          clear hB11
          refine WL.nil ?_
          first | exact ⟨⟨op, -1, -1, C⟩, by unfold partI; rw [if_pos c153], hC11, h2, h4, h5, h6, h7, h11, hL, hE, hC2, hC4, hC5, hx⟩ | exact ⟨⟨op, A, B, C⟩, by unfold partI; rw [if_neg c153], hC11, h2, h4, h5, h6, h7, h11, hL, hE, hC2, hC4, hC5, hx⟩
        · try simp only [decide_eq_true_eq, decide_eq_false_iff_not, Bool.not_eq_true', Bool.not_eq_false', Bool.and_eq_true, Bool.or_eq_true, Bool.and_eq_false_iff, Bool.or_eq_false_iff] at c153
          refine W.skip ?_
          first | exact ⟨⟨op, -1, -1, C⟩, by unfold partI; rw [if_pos c153], hC11, h2, h4, h5, h6, h7, h11, hL, hE, hC2, hC4, hC5, hx⟩ | exact ⟨⟨op, A, B, C⟩, by unfold partI; rw [if_neg c153], hC11, h2, h4, h5, h6, h7, h11, hL, hE, hC2, hC4, hC5, hx⟩
      rintro e w ⟨y, hyd, hC11, h2, h4, h5, h6, h7, h11, hL, hE, hC2, hC4, hC5, hx⟩
      have hy : GoodI p.enc (n + 1) m y := hyd ▸ made_good hfm hA hB hC
      refine W.region ?_
      refine WL.c rfl (o_fa 1 TI26 rfl TI23 rfl h5 ?_)
      refine WL.c rfl (o_ld TI23 rfl rfl (cell_of hC5 rfl) ?_)
      refine WL.c rfl (o_mvh h7 ?_)
      refine WL.c rfl (o_ldA TI28 rfl h11 (show Cells _ b11 0 (insV y) from Cells.of hC11 0 _ (by simp)) rfl ?_)
      refine WL.c rfl (o_ixB (i := i) TI23 TI28 (show _ = Value.slice (some ⟨gc, 0, none⟩) (n + 1) (n + 1) from rfl) (show _ = Value.int .i64 (i : Int) from rfl) (by omega) ?_)
      refine WL.u (o_stRA TI28 (show _ = Value.pointer (some ⟨gc, 0 + i * 4, none⟩) from rfl) (show 0 + i * 4 = i * 4 by omega) (show _ = Value.agg (insV y).toArray from rfl) rfl rfl hL rfl (by omega) ?_)
      intro w160 hr160 ho160 hs160
      replace hE := own_only hE ho160 (fun q hq hF => own_row_off hL hE (by decide) q hq hF)
      replace hC2 := ho160.blk hC2 (own_off hL hC2 (by decide))
      replace hC4 := ho160.blk hC4 (own_off hL hC4 (by decide))
      replace hC5 := ho160.blk hC5 (own_off hL hC5 (by decide))
      replace hx := hx.trans' ho160 (fun _ h => h) (fun q hq hF => by have := (hL.lt q hF).1; omega)
      rw [inss_setI L i y (by omega)] at hr160
      clear hL
      have hL := hr160
      clear hr160
      refine WL.nil ?_
      refine W.region ?_
      refine WL.c rfl (o_mvh h7 ?_)
      refine WL.c rfl (o_addi rfl rfl (by omega) ?_)
      refine WL.c rfl (o_ash (show _ = Value.int _ _ from rfl) ?_)
      refine WL.nil ?_
      refine ⟨⟨i + 1, L.set i y, by omega, by rw [List.length_set]; exact hLl, fun j hj => ?_, h2, h4, h5, h6, rfl, hL, hE, hC2, hC4, hC5, hx⟩, ?_⟩
      · by_cases hji : j = i
        · subst hji; rw [getD_setI (by omega)]; exact hy
        · rw [getD_set hji]; exact hG j (by omega)
      · show n - ((i : Int) + 1).toNat < _
        rw [hm7]; simp [intOf]; omega
    · try simp only [decide_eq_true_eq, decide_eq_false_iff_not, Bool.not_eq_true', Bool.not_eq_false', Bool.and_eq_true, Bool.or_eq_true, Bool.and_eq_false_iff, Bool.or_eq_false_iff] at c72
      obtain rfl : n = i := by omega
      refine W.exit ?_
      refine W.seq ?_
      refine W.region ?_
      refine WL.c rfl (o_fa 1 TI26 rfl TI23 rfl h5 ?_)
      refine WL.c rfl (o_ld TI23 rfl rfl (cell_of hC5 rfl) ?_)
      refine WL.c rfl (o_mvh h6 ?_)
      refine WL.c rfl (o_bldC (cs := [(.int .i64 20), (.int .i64 0), (.int .i64 0), (.int .i64 0)]) TI28 (Sizes.cons TI3 (Sizes.cons TI3 (Sizes.cons TI3 (Sizes.cons TI3 Sizes.nil)))) rfl (lcp (show _ = Value.int _ _ from rfl) lnp) rfl rfl ?_)
      refine WL.c rfl (o_ixB (i := n) TI23 TI28 (show _ = Value.slice (some ⟨gc, 0, none⟩) (n + 1) (n + 1) from rfl) (show _ = Value.int .i64 (n : Int) from rfl) (by omega) ?_)
      refine WL.u (o_stRA TI28 (show _ = Value.pointer (some ⟨gc, 0 + n * 4, none⟩) from rfl) (show 0 + n * 4 = n * 4 by omega) (show _ = Value.agg (insV ret0I).toArray from rfl) rfl rfl hL rfl (by omega) ?_)
      intro w165 hr165 ho165 hs165
      replace hE := own_only hE ho165 (fun q hq hF => own_row_off hL hE (by decide) q hq hF)
      replace hC2 := ho165.blk hC2 (own_off hL hC2 (by decide))
      replace hC4 := ho165.blk hC4 (own_off hL hC4 (by decide))
      replace hC5 := ho165.blk hC5 (own_off hL hC5 (by decide))
      replace hx := hx.trans' ho165 (fun _ h => h) (fun q hq hF => by have := (hL.lt q hF).1; omega)
      rw [inss_setI L n ret0I (by omega)] at hr165
      clear hL
      have hL := hr165
      clear hr165
      have hLn : (L.set n ret0I).getD n in0 = ret0I := getD_setI (by omega)
      have hGn : ∀ j, j < n → GoodI p.enc (n + 1) m ((L.set n ret0I).getD j in0) := fun j hj => by rw [getD_set (by omega)]; exact hG j hj
      have hLl2 : (L.set n ret0I).length = n + 1 := by rw [List.length_set]; exact hLl
      generalize L.set n ret0I = L2 at hL hLn hGn hLl2
      refine WL.nil ?_
      refine W.seq ?_
      refine W.seq ?_
      refine W.region ?_
      refine WL.c rfl (o_ash (show _ = Value.int _ _ from rfl) ?_)
      refine WL.nil ?_
      refine W.block ?_
      refine W.loop (fun e w => ∃ (i : Nat) (L : List Ins), i ≤ n ∧ L.length = n + 1 ∧ L.getD n in0 = ret0I ∧ (∀ j, j < i → OkI ⟨p.enc, L, List.replicate m 0⟩ j) ∧ (∀ j, i ≤ j → j < n → GoodI p.enc (n + 1) m (L.getD j in0)) ∧ e 2 = .pointer (some ⟨b2, 0, none⟩) ∧ e 4 = .pointer (some ⟨b4, 0, none⟩) ∧ e 5 = .pointer (some ⟨b5, 0, none⟩) ∧ e 6 = .int .i64 (n : Int) ∧ e 12 = .int .i64 (i : Int) ∧ w.ownsRow w0.heap.size 28 4 (Value.slice (some ⟨gc, 0, none⟩) (n + 1) (n + 1)) (n + 1) (inss (L)) ∧ w.ownsRow w0.heap.size 3 1 (Value.slice (some ⟨ge, 0, none⟩) m m) m (zs (List.replicate m 0)) ∧ w.heap[b2]? = some (.cells (pgV p cv ev_).toArray 26 (0, 0)) ∧ w.heap[b4]? = some (.cells ([.bool false, .slice none 0 0, .slice none 0 0]).toArray 26 (0, 0)) ∧ w.heap[b5]? = some (.cells #[.bool p.enc, Value.slice (some ⟨gc, 0, none⟩) (n + 1) (n + 1), Value.slice (some ⟨ge, 0, none⟩) m m] 26 (0, 0)) ∧ Ext w0 w) (fun e w => n - (intOf (e 12)).toNat) ?_ ?_
      · exact ⟨0, L2, Nat.zero_le _, hLl2, hLn, fun j h => absurd h (Nat.not_lt_zero j), fun j _ hj => hGn j hj, h2, h4, h5, h6, rfl, hL, hE, hC2, hC4, hC5, hx⟩
      rintro e w ⟨i, L, hi, hLl, hLn, hO, hG, h2, h4, h5, h6, h12, hL, hE, hC2, hC4, hC5, hx⟩
      have hm12 := h12
      refine W.seq ?_
      refine W.seq ?_
      refine W.region ?_
      refine WL.c rfl (o_mvh h12 ?_)
      refine WL.c rfl (o_mvh h6 ?_)
      refine WL.c rfl (o_lt rfl rfl ?_)
      refine WL.nil ?_
      refine W.cond rfl (fun c168 => ?_) (fun c168 => ?_)
      · try simp only [decide_eq_true_eq, decide_eq_false_iff_not, Bool.not_eq_true', Bool.not_eq_false', Bool.and_eq_true, Bool.or_eq_true, Bool.and_eq_false_iff, Bool.or_eq_false_iff] at c168
        have hi1 : i < n := by omega
        obtain ⟨x, hxd⟩ : ∃ x, x = L.getD i in0 := ⟨_, rfl⟩
        have hGx : GoodI p.enc (n + 1) m x := hxd ▸ hG i (Nat.le_refl _) hi1
        refine W.skip ?_
        refine W.seq ?_
        refine W.block ?_
        refine W.seq ?_
        refine W.seq ?_
        refine W.region ?_
        refine WL.cut (fun e1 w1 => e1 186 = .bool (decide (¬ (x.op = 8 ∨ x.op = 41))) ∧ e1 2 = .pointer (some ⟨b2, 0, none⟩) ∧ e1 4 = .pointer (some ⟨b4, 0, none⟩) ∧ e1 5 = .pointer (some ⟨b5, 0, none⟩) ∧ e1 6 = .int .i64 (n : Int) ∧ e1 12 = .int .i64 (i : Int) ∧ w1 = w) ?_ ?_
        · -- region 25
          refine WL.c rfl (o_fa 1 TI26 rfl TI23 rfl h5 ?_)
          refine WL.c rfl (o_ld TI23 rfl rfl (cell_of hC5 rfl) ?_)
          refine WL.c rfl (o_mvh h12 ?_)
          refine WL.c rfl (o_ixB (i := i) TI23 TI28 (show _ = Value.slice (some ⟨gc, 0, none⟩) (n + 1) (n + 1) from rfl) (show _ = Value.int .i64 (i : Int) from rfl) (by omega) ?_)
          refine WL.c rfl (o_fa 0 TI28 rfl TI3 rfl rfl ?_)
          refine WL.c rfl (o_ld TI3 rfl rfl (show _ = some (Value.int .i64 x.op) from by rw [hxd]; exact madC hL hLl (by omega) 0 _ rfl) ?_)
          refine WL.c rfl (o_ne rfl rfl ?_)
          refine WL.c rfl (o_mvh (show _ = Value.bool _ from rfl) ?_)
          refine WL.sp 7 rfl (fun g178 => ?_) (fun g178 => ?_)
          · skip
            refine WL.g rfl (g178) rfl (o_fa 1 TI26 rfl TI23 rfl h5 ?_)
            refine WL.g rfl (g178) rfl (o_ld TI23 rfl rfl (cell_of hC5 rfl) ?_)
            refine WL.g rfl (g178) rfl (o_mvh h12 ?_)
            refine WL.g rfl (g178) rfl (o_ixB (i := i) TI23 TI28 (show _ = Value.slice (some ⟨gc, 0, none⟩) (n + 1) (n + 1) from rfl) (show _ = Value.int .i64 (i : Int) from rfl) (by omega) ?_)
            refine WL.g rfl (g178) rfl (o_fa 0 TI28 rfl TI3 rfl rfl ?_)
            refine WL.g rfl (g178) rfl (o_ld TI3 rfl rfl (show _ = some (Value.int .i64 x.op) from by rw [hxd]; exact madC hL hLl (by omega) 0 _ rfl) ?_)
            refine WL.g rfl (g178) rfl (o_ne rfl rfl ?_)
            refine WL.c rfl (o_pickA rfl rfl ?_)
            exact WL.nil (⟨congrArg Value.bool (by rw [Bool.eq_iff_iff, decide_eq_true_iff]; first | (simp_all; done) | (simp_all; omega)), h2, h4, h5, h6, h12, rfl⟩)
          · skip
            refine WL.s rfl (g178) rfl ?_
            refine WL.s rfl (g178) rfl ?_
            refine WL.s rfl (g178) rfl ?_
            refine WL.s rfl (g178) rfl ?_
            refine WL.s rfl (g178) rfl ?_
            refine WL.s rfl (g178) rfl ?_
            refine WL.s rfl (g178) rfl ?_
            refine WL.c rfl (o_pickF rfl (g178) ?_)
            exact WL.nil (⟨congrArg Value.bool (by rw [Bool.eq_iff_iff, decide_eq_true_iff]; first | (simp_all; done) | (simp_all; omega)), h2, h4, h5, h6, h12, rfl⟩)
        rintro e w ⟨h186, h2, h4, h5, h6, h12, hw1⟩
        subst hw1
        refine W.cond h186 (fun c186 => ?_) (fun c186 => ?_)
        · try simp only [decide_eq_true_eq, decide_eq_false_iff_not, Bool.not_eq_true', Bool.not_eq_false', Bool.and_eq_true, Bool.or_eq_true, Bool.and_eq_false_iff, Bool.or_eq_false_iff] at c186
          obtain ⟨Lf, hLfd⟩ : ∃ X, X = L := ⟨_, rfl⟩
          have hO2 : ∀ j, j < i + 1 → OkI ⟨p.enc, Lf, List.replicate m 0⟩ j := fun j hj => by
            rw [hLfd]
            by_cases hji : j = i
            · subst hji
              refine GoodI.ok ?_ (by show ¬ ((L.getD j in0).op = 8 ∨ (L.getD j in0).op = 41); rw [← hxd]; exact c186)
              show GoodI p.enc L.length (List.replicate m (0 : Int)).length (L.getD j in0)
              rw [hLl, List.length_replicate, ← hxd]; exact hGx
            · exact hO j (by omega)
          have hG2 : ∀ j, i + 1 ≤ j → j < n → GoodI p.enc (n + 1) m (Lf.getD j in0) := fun j h1 h2 => by rw [hLfd]; exact hG j (by omega) h2
          have hLf2 : Lf.length = n + 1 := by rw [hLfd]; exact hLl
          have hLfn : Lf.getD n in0 = ret0I := by rw [hLfd]; exact hLn
          rw [← hLfd] at hL
          refine W.exit ?_
          refine W.region ?_
          refine WL.c rfl (o_mvh h12 ?_)
          refine WL.c rfl (o_addi rfl rfl (by omega) ?_)
          refine WL.c rfl (o_ash (show _ = Value.int _ _ from rfl) ?_)
          refine WL.nil ?_
          refine ⟨⟨i + 1, Lf, by omega, hLf2, hLfn, hO2, hG2, h2, h4, h5, h6, rfl, hL, hE, hC2, hC4, hC5, hx⟩, ?_⟩
          show n - ((i : Int) + 1).toNat < _
          rw [hm12]; simp [intOf]; omega
        · try simp only [decide_eq_true_eq, decide_eq_false_iff_not, Bool.not_eq_true', Bool.not_eq_false', Bool.and_eq_true, Bool.or_eq_true, Bool.and_eq_false_iff, Bool.or_eq_false_iff] at c186
          have hu : x.op = 8 ∨ x.op = 41 := by rcases Classical.em (x.op = 8 ∨ x.op = 41) with h | h; exact h; exact absurd h (by first | exact c186 | simpa using c186)
          have h9 : (L.getD i in0).op ≠ 9 := by rw [← hxd]; omega
          refine W.skip ?_
          refine W.seq ?_
          refine W.region ?_
          refine WL.c rfl (o_ash (show _ = Value.int _ _ from rfl) ?_)
          refine WL.nil ?_
          refine W.seq ?_
          refine W.block ?_
          refine W.loop (fun e w => ∃ (k : Nat) (a : Int), k ≤ 64 ∧ ArmsP L i (k : Int) ∧ e 2 = .pointer (some ⟨b2, 0, none⟩) ∧ e 4 = .pointer (some ⟨b4, 0, none⟩) ∧ e 5 = .pointer (some ⟨b5, 0, none⟩) ∧ e 6 = .int .i64 (n : Int) ∧ e 12 = .int .i64 (i : Int) ∧ e 13 = .int .i64 (k : Int) ∧ w.ownsRow w0.heap.size 28 4 (Value.slice (some ⟨gc, 0, none⟩) (n + 1) (n + 1)) (n + 1) (inss (L.set i { x with a := a })) ∧ w.ownsRow w0.heap.size 3 1 (Value.slice (some ⟨ge, 0, none⟩) m m) m (zs (List.replicate m 0)) ∧ w.heap[b2]? = some (.cells (pgV p cv ev_).toArray 26 (0, 0)) ∧ w.heap[b4]? = some (.cells ([.bool false, .slice none 0 0, .slice none 0 0]).toArray 26 (0, 0)) ∧ w.heap[b5]? = some (.cells #[.bool p.enc, Value.slice (some ⟨gc, 0, none⟩) (n + 1) (n + 1), Value.slice (some ⟨ge, 0, none⟩) m m] 26 (0, 0)) ∧ Ext w0 w) (fun e w => 64 - (intOf (e 13)).toNat) ?_ ?_
          · exact ⟨0, x.a, by omega, ArmsP.zero (by omega), h2, h4, h5, h6, h12, rfl, by show World.ownsRow _ _ _ _ _ _ (inss (L.set i x)); rw [hxd, set_self (by omega)]; exact hL, hE, hC2, hC4, hC5, hx⟩
          rintro e w ⟨k, a, hk64, hAr, h2, h4, h5, h6, h12, h13, hL, hE, hC2, hC4, hC5, hx⟩
          have hm13 := h13
          have hroom := hAr.room
          refine W.seq ?_
          refine W.seq ?_
          refine W.region ?_
          refine WL.cut (fun e1 w1 => e1 208 = .bool (decide (i + 1 + k < n ∧ k < 64 ∧ (L.getD (i + 1 + k) in0).op = 9)) ∧ e1 2 = .pointer (some ⟨b2, 0, none⟩) ∧ e1 4 = .pointer (some ⟨b4, 0, none⟩) ∧ e1 5 = .pointer (some ⟨b5, 0, none⟩) ∧ e1 6 = .int .i64 (n : Int) ∧ e1 12 = .int .i64 (i : Int) ∧ e1 13 = .int .i64 (k : Int) ∧ w1 = w) ?_ ?_
          · -- region 27
            refine WL.c rfl (o_mvh h12 ?_)
            refine WL.c rfl (o_addi rfl rfl (by omega) ?_)
            refine WL.c rfl (o_mvh h13 ?_)
            refine WL.c rfl (o_addi rfl rfl (by omega) ?_)
            refine WL.c rfl (o_mvh h6 ?_)
            refine WL.c rfl (o_lt rfl rfl ?_)
            refine WL.c rfl (o_mvh (show _ = Value.bool _ from rfl) ?_)
            refine WL.sp 6 rfl (fun g193 => ?_) (fun g193 => ?_)
            · skip
              refine WL.g rfl (g193) rfl (o_mvh h13 ?_)
              refine WL.g rfl (g193) rfl (o_lt rfl rfl ?_)
              refine WL.c rfl (o_pickA rfl rfl ?_)
              refine WL.c rfl (o_mvh (show _ = Value.bool _ from rfl) ?_)
              refine WL.sp 10 rfl (fun g197 => ?_) (fun g197 => ?_)
              · skip
                refine WL.g rfl (g197) rfl (o_fa 1 TI26 rfl TI23 rfl h5 ?_)
                refine WL.g rfl (g197) rfl (o_ld TI23 rfl rfl (cell_of hC5 rfl) ?_)
                refine WL.g rfl (g197) rfl (o_mvh h12 ?_)
                refine WL.g rfl (g197) rfl (o_addi rfl rfl (by omega) ?_)
                refine WL.g rfl (g197) rfl (o_mvh h13 ?_)
                refine WL.g rfl (g197) rfl (o_addi rfl rfl (by omega) ?_)
                refine WL.g rfl (g197) rfl (o_ixB (i := i + 1 + k) TI23 TI28 (show _ = Value.slice (some ⟨gc, 0, none⟩) (n + 1) (n + 1) from rfl) (show _ = Value.int .i64 ((i + 1 + k : Nat) : Int) from rfl) (by have h9 := g193; simp at h9; omega) ?_)
                refine WL.g rfl (g197) rfl (o_fa 0 TI28 rfl TI3 rfl rfl ?_)
                refine WL.g rfl (g197) rfl (o_ld TI3 rfl rfl (show _ = some (Value.int .i64 (L.getD (i + 1 + k) in0).op) from by have h9 := madC hL (by rw [List.length_set]; exact hLl) (k := i + 1 + k) (by have h9 := g193; simp at h9; omega); rw [getD_set (by omega)] at h9; exact h9 0 _ rfl) ?_)
                refine WL.g rfl (g197) rfl (o_eq rfl rfl ?_)
                refine WL.c rfl (o_pickA rfl rfl ?_)
                exact WL.nil (⟨congrArg Value.bool (by rw [Bool.eq_iff_iff, decide_eq_true_iff]; first | (simp_all; done) | (simp_all; omega)), h2, h4, h5, h6, h12, h13, rfl⟩)
              · skip
                refine WL.s rfl (g197) rfl ?_
                refine WL.s rfl (g197) rfl ?_
                refine WL.s rfl (g197) rfl ?_
                refine WL.s rfl (g197) rfl ?_
                refine WL.s rfl (g197) rfl ?_
                refine WL.s rfl (g197) rfl ?_
                refine WL.s rfl (g197) rfl ?_
                refine WL.s rfl (g197) rfl ?_
                refine WL.s rfl (g197) rfl ?_
                refine WL.s rfl (g197) rfl ?_
                refine WL.c rfl (o_pickF rfl (g197) ?_)
                exact WL.nil (⟨congrArg Value.bool (by rw [Bool.eq_iff_iff, decide_eq_true_iff]; first | (simp_all; done) | (simp_all; omega)), h2, h4, h5, h6, h12, h13, rfl⟩)
            · skip
              refine WL.s rfl (g193) rfl ?_
              refine WL.s rfl (g193) rfl ?_
              refine WL.c rfl (o_pickF rfl (g193) ?_)
              refine WL.c rfl (o_mvh (show _ = Value.bool _ from rfl) ?_)
              refine WL.s rfl (rfl) rfl ?_
              refine WL.s rfl (rfl) rfl ?_
              refine WL.s rfl (rfl) rfl ?_
              refine WL.s rfl (rfl) rfl ?_
              refine WL.s rfl (rfl) rfl ?_
              refine WL.s rfl (rfl) rfl ?_
              refine WL.s rfl (rfl) rfl ?_
              refine WL.s rfl (rfl) rfl ?_
              refine WL.s rfl (rfl) rfl ?_
              refine WL.s rfl (rfl) rfl ?_
              refine WL.c rfl (o_pickF rfl (rfl) ?_)
              exact WL.nil (⟨congrArg Value.bool (by rw [Bool.eq_iff_iff, decide_eq_true_iff]; first | (simp_all; done) | (simp_all; omega)), h2, h4, h5, h6, h12, h13, rfl⟩)
          rintro e w ⟨h208, h2, h4, h5, h6, h12, h13, hw1⟩
          subst hw1
          refine W.cond h208 (fun c208 => ?_) (fun c208 => ?_)
          · try simp only [decide_eq_true_eq, decide_eq_false_iff_not, Bool.not_eq_true', Bool.not_eq_false', Bool.and_eq_true, Bool.or_eq_true, Bool.and_eq_false_iff, Bool.or_eq_false_iff] at c208
            refine W.skip ?_
            refine W.block ?_
            refine W.seq ?_
            refine W.region ?_
            refine WL.c rfl (o_fa 1 TI26 rfl TI23 rfl h5 ?_)
            refine WL.c rfl (o_ld TI23 rfl rfl (cell_of hC5 rfl) ?_)
            refine WL.c rfl (o_mvh h12 ?_)
            refine WL.c rfl (o_mvh h13 ?_)
            refine WL.c rfl (o_addi rfl rfl (by omega) ?_)
            refine WL.c rfl (o_ixB (i := i) TI23 TI28 (show _ = Value.slice (some ⟨gc, 0, none⟩) (n + 1) (n + 1) from rfl) (show _ = Value.int .i64 (i : Int) from rfl) (by omega) ?_)
            refine WL.c rfl (o_fa 1 TI28 rfl TI3 rfl rfl ?_)
            refine WL.u (o_stRj TI3 (show _ = Value.pointer (some ⟨gc, 0 + i * 4 + 1, none⟩) from rfl) (show 0 + i * 4 + 1 = i * 4 + 1 by omega) (show _ = Value.int .i64 ((k : Int) + 1) from rfl) rfl hL rfl (by omega) ?_)
            intro w215 hr215 ho215 hs215
            replace hE := own_only hE ho215 (fun q hq hF => own_row_off hL hE (by decide) q hq hF)
            replace hC2 := ho215.blk hC2 (own_off hL hC2 (by decide))
            replace hC4 := ho215.blk hC4 (own_off hL hC4 (by decide))
            replace hC5 := ho215.blk hC5 (own_off hL hC5 (by decide))
            replace hx := hx.trans' ho215 (fun _ h => h) (fun q hq hF => by have := (hL.lt q hF).1; omega)
            rw [madA (by omega)] at hr215
            clear hL
            have hL := hr215
            clear hr215
            refine WL.nil ?_
            refine W.seq ?_
            refine W.seq ?_
            refine W.region ?_
            refine WL.c rfl (o_ldA TI26 rfl h5 (show Cells _ b5 0 (pgV ⟨p.enc, L.set i { x with a := ((k : Int) + 1) }, List.replicate m 0⟩ (Value.slice (some ⟨gc, 0, none⟩) (n + 1) (n + 1)) (Value.slice (some ⟨ge, 0, none⟩) m m)) from Cells.of hC5 0 _ (by simp [pgV])) rfl ?_)
            refine WL.c rfl (o_mvh h12 ?_)
            refine WL.c rfl (o_call Tryd.call42 (lc rfl (lc rfl ln)) ((rarms_spec ⟨p.enc, L.set i { x with a := ((k : Int) + 1) }, List.replicate m 0⟩ (Value.slice (some ⟨gc, 0, none⟩) (n + 1) (n + 1)) (Value.slice (some ⟨ge, 0, none⟩) m m) i _ (madR (by rw [List.length_set]; exact hLl) hL hE) (by show (L.set i { x with a := ((k : Int) + 1) }).length ≤ 1048576; rw [List.length_set]; omega) (by show i < (L.set i { x with a := ((k : Int) + 1) }).length; rw [List.length_set]; omega) (by show -1 ≤ ((L.set i { x with a := ((k : Int) + 1) })[i]'(by rw [List.length_set]; omega)).a ∧ ((L.set i { x with a := ((k : Int) + 1) })[i]'(by rw [List.length_set]; omega)).a ≤ 64; rw [List.getElem_set_self]; show -1 ≤ (k : Int) + 1 ∧ (k : Int) + 1 ≤ 64; omega)).mono ?_))
            rintro v218 w218 ⟨b, rfl, hbA, hx218⟩
            have hbA2 : b = true ↔ ArmsP L i ((k + 1 : Nat) : Int) := by
              rw [hbA]
              show ArmsP (L.set i { x with a := ((k : Int) + 1) }) i (((L.set i { x with a := ((k : Int) + 1) })[i]'(by rw [List.length_set]; omega)).a) ↔ _
              rw [List.getElem_set_self]
              exact ArmsP.set
            replace hx := hx.tr hx218
            replace hL := own_ext hL hx218
            replace hE := own_ext hE hx218
            replace hC2 := hx218.blk hC2 (fun h => h)
            replace hC4 := hx218.blk hC4 (fun h => h)
            replace hC5 := hx218.blk hC5 (fun h => h)
            refine WL.c rfl (o_not' rfl ?_)
            refine WL.nil ?_
            refine W.cond rfl (fun c219 => ?_) (fun c219 => ?_)
            · try simp only [decide_eq_true_eq, decide_eq_false_iff_not, Bool.not_eq_true', Bool.not_eq_false', Bool.and_eq_true, Bool.or_eq_true, Bool.and_eq_false_iff, Bool.or_eq_false_iff] at c219
              refine W.exit ?_
              refine W.seq ?_
              refine W.region ?_
              refine WL.c rfl (o_fa 1 TI26 rfl TI23 rfl h5 ?_)
              refine WL.c rfl (o_ld TI23 rfl rfl (cell_of hC5 rfl) ?_)
              refine WL.c rfl (o_mvh h12 ?_)
              refine WL.c rfl (o_mvh h13 ?_)
              refine WL.c rfl (o_ixB (i := i) TI23 TI28 (show _ = Value.slice (some ⟨gc, 0, none⟩) (n + 1) (n + 1) from rfl) (show _ = Value.int .i64 (i : Int) from rfl) (by omega) ?_)
              refine WL.c rfl (o_fa 1 TI28 rfl TI3 rfl rfl ?_)
              refine WL.u (o_stRj TI3 (show _ = Value.pointer (some ⟨gc, 0 + i * 4 + 1, none⟩) from rfl) (show 0 + i * 4 + 1 = i * 4 + 1 by omega) (show _ = Value.int .i64 ((k : Int)) from rfl) rfl hL rfl (by omega) ?_)
              intro w227 hr227 ho227 hs227
              replace hE := own_only hE ho227 (fun q hq hF => own_row_off hL hE (by decide) q hq hF)
              replace hC2 := ho227.blk hC2 (own_off hL hC2 (by decide))
              replace hC4 := ho227.blk hC4 (own_off hL hC4 (by decide))
              replace hC5 := ho227.blk hC5 (own_off hL hC5 (by decide))
              replace hx := hx.trans' ho227 (fun _ h => h) (fun q hq hF => by have := (hL.lt q hF).1; omega)
              rw [madA (by omega)] at hr227
              clear hL
              have hL := hr227
              clear hr227
              refine WL.nil ?_
              refine W.seq ?_
              refine W.region ?_
              refine WL.c rfl (o_mvh h13 ?_)
              refine WL.c rfl (o_eq rfl rfl ?_)
              refine WL.nil ?_
              refine W.cond rfl (fun c229 => ?_) (fun c229 => ?_)
              · try simp only [decide_eq_true_eq, decide_eq_false_iff_not, Bool.not_eq_true', Bool.not_eq_false', Bool.and_eq_true, Bool.or_eq_true, Bool.and_eq_false_iff, Bool.or_eq_false_iff] at c229
                have hk0 : k = 0 := by omega
                refine W.region ?_
                refine WL.c rfl (o_fa 1 TI26 rfl TI23 rfl h5 ?_)
                refine WL.c rfl (o_ld TI23 rfl rfl (cell_of hC5 rfl) ?_)
                refine WL.c rfl (o_mvh h12 ?_)
                refine WL.c rfl (o_bldC (cs := [(.int .i64 20), (.int .i64 0), (.int .i64 0), (.int .i64 0)]) TI28 (Sizes.cons TI3 (Sizes.cons TI3 (Sizes.cons TI3 (Sizes.cons TI3 Sizes.nil)))) rfl (lcp (show _ = Value.int _ _ from rfl) lnp) rfl rfl ?_)
                refine WL.c rfl (o_ixB (i := i) TI23 TI28 (show _ = Value.slice (some ⟨gc, 0, none⟩) (n + 1) (n + 1) from rfl) (show _ = Value.int .i64 (i : Int) from rfl) (by omega) ?_)
                refine WL.u (o_stRA TI28 (show _ = Value.pointer (some ⟨gc, 0 + i * 4, none⟩) from rfl) (show 0 + i * 4 = i * 4 by omega) (show _ = Value.agg (insV ret0I).toArray from rfl) rfl rfl hL rfl (by omega) ?_)
                intro w234 hr234 ho234 hs234
                replace hE := own_only hE ho234 (fun q hq hF => own_row_off hL hE (by decide) q hq hF)
                replace hC2 := ho234.blk hC2 (own_off hL hC2 (by decide))
                replace hC4 := ho234.blk hC4 (own_off hL hC4 (by decide))
                replace hC5 := ho234.blk hC5 (own_off hL hC5 (by decide))
                replace hx := hx.trans' ho234 (fun _ h => h) (fun q hq hF => by have := (hL.lt q hF).1; omega)
                rw [inss_setI _ i ret0I (by rw [List.length_set]; omega), List.set_set] at hr234
                clear hL
                have hL := hr234
                clear hr234
                obtain ⟨Lf, hLfd⟩ : ∃ X, X = L.set i ret0I := ⟨_, rfl⟩
                have hO2 : ∀ j, j < i + 1 → OkI ⟨p.enc, Lf, List.replicate m 0⟩ j := fun j hj => by
                  rw [hLfd]
                  by_cases hji : j = i
                  · subst hji; exact ret_ok (getD_setI (by omega))
                  · exact (hO j (by omega)).set hji h9
                have hG2 : ∀ j, i + 1 ≤ j → j < n → GoodI p.enc (n + 1) m (Lf.getD j in0) := fun j h1 h2 => by rw [hLfd, getD_set (by omega)]; exact hG j (by omega) h2
                have hLf2 : Lf.length = n + 1 := by rw [hLfd, List.length_set]; exact hLl
                have hLfn : Lf.getD n in0 = ret0I := by rw [hLfd, getD_set (by omega)]; exact hLn
                rw [← hLfd] at hL
                refine WL.nil ?_
                refine W.region ?_
                refine WL.c rfl (o_mvh h12 ?_)
                refine WL.c rfl (o_addi rfl rfl (by omega) ?_)
                refine WL.c rfl (o_ash (show _ = Value.int _ _ from rfl) ?_)
                refine WL.nil ?_
                refine ⟨⟨i + 1, Lf, by omega, hLf2, hLfn, hO2, hG2, h2, h4, h5, h6, rfl, hL, hE, hC2, hC4, hC5, hx⟩, ?_⟩
                show n - ((i : Int) + 1).toNat < _
                rw [hm12]; simp [intOf]; omega
              · try simp only [decide_eq_true_eq, decide_eq_false_iff_not, Bool.not_eq_true', Bool.not_eq_false', Bool.and_eq_true, Bool.or_eq_true, Bool.and_eq_false_iff, Bool.or_eq_false_iff] at c229
                have hk1 : 1 ≤ k := by omega
                obtain ⟨Lf, hLfd⟩ : ∃ X, X = L.set i { x with a := (k : Int) } := ⟨_, rfl⟩
                have hO2 : ∀ j, j < i + 1 → OkI ⟨p.enc, Lf, List.replicate m 0⟩ j := fun j hj => by
                  rw [hLfd]
                  by_cases hji : j = i
                  · subst hji; exact GoodI.arms hGx hu rfl (getD_setI (by omega)) ⟨hk1, hk64⟩ (ArmsP.set.2 hAr)
                  · exact (hO j (by omega)).set hji h9
                have hG2 : ∀ j, i + 1 ≤ j → j < n → GoodI p.enc (n + 1) m (Lf.getD j in0) := fun j h1 h2 => by rw [hLfd, getD_set (by omega)]; exact hG j (by omega) h2
                have hLf2 : Lf.length = n + 1 := by rw [hLfd, List.length_set]; exact hLl
                have hLfn : Lf.getD n in0 = ret0I := by rw [hLfd, getD_set (by omega)]; exact hLn
                rw [← hLfd] at hL
                refine W.skip ?_
                refine W.region ?_
                refine WL.c rfl (o_mvh h12 ?_)
                refine WL.c rfl (o_addi rfl rfl (by omega) ?_)
                refine WL.c rfl (o_ash (show _ = Value.int _ _ from rfl) ?_)
                refine WL.nil ?_
                refine ⟨⟨i + 1, Lf, by omega, hLf2, hLfn, hO2, hG2, h2, h4, h5, h6, rfl, hL, hE, hC2, hC4, hC5, hx⟩, ?_⟩
                show n - ((i : Int) + 1).toNat < _
                rw [hm12]; simp [intOf]; omega
            · try simp only [decide_eq_true_eq, decide_eq_false_iff_not, Bool.not_eq_true', Bool.not_eq_false', Bool.and_eq_true, Bool.or_eq_true, Bool.and_eq_false_iff, Bool.or_eq_false_iff] at c219
              refine W.skip ?_
              refine W.region ?_
              refine WL.c rfl (o_mvh h13 ?_)
              refine WL.c rfl (o_addi rfl rfl (by omega) ?_)
              refine WL.c rfl (o_ash (show _ = Value.int _ _ from rfl) ?_)
              refine WL.nil ?_
              refine ⟨⟨k + 1, (k : Int) + 1, by omega, hbA2.1 (by simpa using c219), h2, h4, h5, h6, h12, rfl, hL, hE, hC2, hC4, hC5, hx⟩, ?_⟩
              show 64 - ((k : Int) + 1).toNat < _
              rw [hm13]; simp [intOf]; omega
          · try simp only [decide_eq_true_eq, decide_eq_false_iff_not, Bool.not_eq_true', Bool.not_eq_false', Bool.and_eq_true, Bool.or_eq_true, Bool.and_eq_false_iff, Bool.or_eq_false_iff] at c208
            refine W.exit ?_
            refine W.seq ?_
            refine W.region ?_
            refine WL.c rfl (o_fa 1 TI26 rfl TI23 rfl h5 ?_)
            refine WL.c rfl (o_ld TI23 rfl rfl (cell_of hC5 rfl) ?_)
            refine WL.c rfl (o_mvh h12 ?_)
            refine WL.c rfl (o_mvh h13 ?_)
            refine WL.c rfl (o_ixB (i := i) TI23 TI28 (show _ = Value.slice (some ⟨gc, 0, none⟩) (n + 1) (n + 1) from rfl) (show _ = Value.int .i64 (i : Int) from rfl) (by omega) ?_)
            refine WL.c rfl (o_fa 1 TI28 rfl TI3 rfl rfl ?_)
            refine WL.u (o_stRj TI3 (show _ = Value.pointer (some ⟨gc, 0 + i * 4 + 1, none⟩) from rfl) (show 0 + i * 4 + 1 = i * 4 + 1 by omega) (show _ = Value.int .i64 ((k : Int)) from rfl) rfl hL rfl (by omega) ?_)
            intro w227 hr227 ho227 hs227
            replace hE := own_only hE ho227 (fun q hq hF => own_row_off hL hE (by decide) q hq hF)
            replace hC2 := ho227.blk hC2 (own_off hL hC2 (by decide))
            replace hC4 := ho227.blk hC4 (own_off hL hC4 (by decide))
            replace hC5 := ho227.blk hC5 (own_off hL hC5 (by decide))
            replace hx := hx.trans' ho227 (fun _ h => h) (fun q hq hF => by have := (hL.lt q hF).1; omega)
            rw [madA (by omega)] at hr227
            clear hL
            have hL := hr227
            clear hr227
            refine WL.nil ?_
            refine W.seq ?_
            refine W.region ?_
            refine WL.c rfl (o_mvh h13 ?_)
            refine WL.c rfl (o_eq rfl rfl ?_)
            refine WL.nil ?_
            refine W.cond rfl (fun c229 => ?_) (fun c229 => ?_)
            · try simp only [decide_eq_true_eq, decide_eq_false_iff_not, Bool.not_eq_true', Bool.not_eq_false', Bool.and_eq_true, Bool.or_eq_true, Bool.and_eq_false_iff, Bool.or_eq_false_iff] at c229
              have hk0 : k = 0 := by omega
              refine W.region ?_
              refine WL.c rfl (o_fa 1 TI26 rfl TI23 rfl h5 ?_)
              refine WL.c rfl (o_ld TI23 rfl rfl (cell_of hC5 rfl) ?_)
              refine WL.c rfl (o_mvh h12 ?_)
              refine WL.c rfl (o_bldC (cs := [(.int .i64 20), (.int .i64 0), (.int .i64 0), (.int .i64 0)]) TI28 (Sizes.cons TI3 (Sizes.cons TI3 (Sizes.cons TI3 (Sizes.cons TI3 Sizes.nil)))) rfl (lcp (show _ = Value.int _ _ from rfl) lnp) rfl rfl ?_)
              refine WL.c rfl (o_ixB (i := i) TI23 TI28 (show _ = Value.slice (some ⟨gc, 0, none⟩) (n + 1) (n + 1) from rfl) (show _ = Value.int .i64 (i : Int) from rfl) (by omega) ?_)
              refine WL.u (o_stRA TI28 (show _ = Value.pointer (some ⟨gc, 0 + i * 4, none⟩) from rfl) (show 0 + i * 4 = i * 4 by omega) (show _ = Value.agg (insV ret0I).toArray from rfl) rfl rfl hL rfl (by omega) ?_)
              intro w234 hr234 ho234 hs234
              replace hE := own_only hE ho234 (fun q hq hF => own_row_off hL hE (by decide) q hq hF)
              replace hC2 := ho234.blk hC2 (own_off hL hC2 (by decide))
              replace hC4 := ho234.blk hC4 (own_off hL hC4 (by decide))
              replace hC5 := ho234.blk hC5 (own_off hL hC5 (by decide))
              replace hx := hx.trans' ho234 (fun _ h => h) (fun q hq hF => by have := (hL.lt q hF).1; omega)
              rw [inss_setI _ i ret0I (by rw [List.length_set]; omega), List.set_set] at hr234
              clear hL
              have hL := hr234
              clear hr234
              obtain ⟨Lf, hLfd⟩ : ∃ X, X = L.set i ret0I := ⟨_, rfl⟩
              have hO2 : ∀ j, j < i + 1 → OkI ⟨p.enc, Lf, List.replicate m 0⟩ j := fun j hj => by
                rw [hLfd]
                by_cases hji : j = i
                · subst hji; exact ret_ok (getD_setI (by omega))
                · exact (hO j (by omega)).set hji h9
              have hG2 : ∀ j, i + 1 ≤ j → j < n → GoodI p.enc (n + 1) m (Lf.getD j in0) := fun j h1 h2 => by rw [hLfd, getD_set (by omega)]; exact hG j (by omega) h2
              have hLf2 : Lf.length = n + 1 := by rw [hLfd, List.length_set]; exact hLl
              have hLfn : Lf.getD n in0 = ret0I := by rw [hLfd, getD_set (by omega)]; exact hLn
              rw [← hLfd] at hL
              refine WL.nil ?_
              refine W.region ?_
              refine WL.c rfl (o_mvh h12 ?_)
              refine WL.c rfl (o_addi rfl rfl (by omega) ?_)
              refine WL.c rfl (o_ash (show _ = Value.int _ _ from rfl) ?_)
              refine WL.nil ?_
              refine ⟨⟨i + 1, Lf, by omega, hLf2, hLfn, hO2, hG2, h2, h4, h5, h6, rfl, hL, hE, hC2, hC4, hC5, hx⟩, ?_⟩
              show n - ((i : Int) + 1).toNat < _
              rw [hm12]; simp [intOf]; omega
            · try simp only [decide_eq_true_eq, decide_eq_false_iff_not, Bool.not_eq_true', Bool.not_eq_false', Bool.and_eq_true, Bool.or_eq_true, Bool.and_eq_false_iff, Bool.or_eq_false_iff] at c229
              have hk1 : 1 ≤ k := by omega
              obtain ⟨Lf, hLfd⟩ : ∃ X, X = L.set i { x with a := (k : Int) } := ⟨_, rfl⟩
              have hO2 : ∀ j, j < i + 1 → OkI ⟨p.enc, Lf, List.replicate m 0⟩ j := fun j hj => by
                rw [hLfd]
                by_cases hji : j = i
                · subst hji; exact GoodI.arms hGx hu rfl (getD_setI (by omega)) ⟨hk1, hk64⟩ (ArmsP.set.2 hAr)
                · exact (hO j (by omega)).set hji h9
              have hG2 : ∀ j, i + 1 ≤ j → j < n → GoodI p.enc (n + 1) m (Lf.getD j in0) := fun j h1 h2 => by rw [hLfd, getD_set (by omega)]; exact hG j (by omega) h2
              have hLf2 : Lf.length = n + 1 := by rw [hLfd, List.length_set]; exact hLl
              have hLfn : Lf.getD n in0 = ret0I := by rw [hLfd, getD_set (by omega)]; exact hLn
              rw [← hLfd] at hL
              refine W.skip ?_
              refine W.region ?_
              refine WL.c rfl (o_mvh h12 ?_)
              refine WL.c rfl (o_addi rfl rfl (by omega) ?_)
              refine WL.c rfl (o_ash (show _ = Value.int _ _ from rfl) ?_)
              refine WL.nil ?_
              refine ⟨⟨i + 1, Lf, by omega, hLf2, hLfn, hO2, hG2, h2, h4, h5, h6, rfl, hL, hE, hC2, hC4, hC5, hx⟩, ?_⟩
              show n - ((i : Int) + 1).toNat < _
              rw [hm12]; simp [intOf]; omega
      · try simp only [decide_eq_true_eq, decide_eq_false_iff_not, Bool.not_eq_true', Bool.not_eq_false', Bool.and_eq_true, Bool.or_eq_true, Bool.and_eq_false_iff, Bool.or_eq_false_iff] at c168
        obtain rfl : n = i := by omega
        refine W.exit ?_
        refine W.seq ?_
        refine W.seq ?_
        refine W.region ?_
        refine WL.c rfl (o_ash (show _ = Value.int _ _ from rfl) ?_)
        refine WL.nil ?_
        refine W.block ?_
        refine W.loop (fun e w => ∃ (t : Nat) (E : List Int), t ≤ m ∧ E.length = m ∧ (∀ e ∈ E, (0 : Int) ≤ e ∧ e ≤ (n : Int)) ∧ e 2 = .pointer (some ⟨b2, 0, none⟩) ∧ e 4 = .pointer (some ⟨b4, 0, none⟩) ∧ e 5 = .pointer (some ⟨b5, 0, none⟩) ∧ e 6 = .int .i64 (n : Int) ∧ e 14 = .int .i64 (t : Int) ∧ w.ownsRow w0.heap.size 28 4 (Value.slice (some ⟨gc, 0, none⟩) (n + 1) (n + 1)) (n + 1) (inss (L)) ∧ w.ownsRow w0.heap.size 3 1 (Value.slice (some ⟨ge, 0, none⟩) m m) m (zs (E)) ∧ w.heap[b2]? = some (.cells (pgV p cv ev_).toArray 26 (0, 0)) ∧ w.heap[b4]? = some (.cells ([.bool false, .slice none 0 0, .slice none 0 0]).toArray 26 (0, 0)) ∧ w.heap[b5]? = some (.cells #[.bool p.enc, Value.slice (some ⟨gc, 0, none⟩) (n + 1) (n + 1), Value.slice (some ⟨ge, 0, none⟩) m m] 26 (0, 0)) ∧ Ext w0 w) (fun e w => m - (intOf (e 14)).toNat) ?_ ?_
        · exact ⟨0, List.replicate m 0, Nat.zero_le _, List.length_replicate .., fun e he => by rw [List.eq_of_mem_replicate he]; omega, h2, h4, h5, h6, rfl, hL, hE, hC2, hC4, hC5, hx⟩
        rintro e w ⟨t, E, ht, hEl, hEb, h2, h4, h5, h6, h14, hL, hE, hC2, hC4, hC5, hx⟩
        have hm14 := h14
        refine W.seq ?_
        refine W.seq ?_
        refine W.region ?_
        refine WL.c rfl (o_mvh h14 ?_)
        refine WL.c rfl (o_fa 2 TI26 rfl TI24 rfl h5 ?_)
        refine WL.c rfl (o_ld TI24 rfl rfl (cell_of hC5 rfl) ?_)
        refine WL.c rfl (o_lenR TI24 rfl (show Sl _ 1 (Value.slice (some ⟨ge, 0, none⟩) m m) m (zs E) from Sl.own hE) ?_)
        refine WL.c rfl (o_lt rfl rfl ?_)
        refine WL.nil ?_
        refine W.cond rfl (fun c239 => ?_) (fun c239 => ?_)
        · try simp only [decide_eq_true_eq, decide_eq_false_iff_not, Bool.not_eq_true', Bool.not_eq_false', Bool.and_eq_true, Bool.or_eq_true, Bool.and_eq_false_iff, Bool.or_eq_false_iff] at c239
          have ht1 : t < m := by omega
          refine W.skip ?_
          refine W.seq ?_
          refine W.block ?_
          refine W.seq ?_
          refine W.region ?_
          refine WL.c rfl (o_mvh h14 ?_)
          refine WL.c rfl (o_fa 2 TI26 rfl TI24 rfl h2 ?_)
          refine WL.c rfl (o_ld TI24 rfl rfl (cell_of hC2 rfl) ?_)
          refine WL.c rfl (o_lenR TI24 rfl (hp.ent.ext hx) ?_)
          refine WL.c rfl (o_lt rfl rfl ?_)
          refine WL.nil ?_
          refine W.cut (fun e1 w1 => ∃ E2 : List Int, E2.length = m ∧ (∀ e ∈ E2, (0 : Int) ≤ e ∧ e ≤ (n : Int)) ∧ e1 2 = .pointer (some ⟨b2, 0, none⟩) ∧ e1 4 = .pointer (some ⟨b4, 0, none⟩) ∧ e1 5 = .pointer (some ⟨b5, 0, none⟩) ∧ e1 6 = .int .i64 (n : Int) ∧ e1 14 = .int .i64 (t : Int) ∧ w1.ownsRow w0.heap.size 28 4 (Value.slice (some ⟨gc, 0, none⟩) (n + 1) (n + 1)) (n + 1) (inss (L)) ∧ w1.ownsRow w0.heap.size 3 1 (Value.slice (some ⟨ge, 0, none⟩) m m) m (zs (E2)) ∧ w1.heap[b2]? = some (.cells (pgV p cv ev_).toArray 26 (0, 0)) ∧ w1.heap[b4]? = some (.cells ([.bool false, .slice none 0 0, .slice none 0 0]).toArray 26 (0, 0)) ∧ w1.heap[b5]? = some (.cells #[.bool p.enc, Value.slice (some ⟨gc, 0, none⟩) (n + 1) (n + 1), Value.slice (some ⟨ge, 0, none⟩) m m] 26 (0, 0)) ∧ Ext w0 w1) ?_ ?_
          · -- both ways
            refine W.cond rfl (fun c246 => ?_) (fun c246 => ?_)
            · try simp only [decide_eq_true_eq, decide_eq_false_iff_not, Bool.not_eq_true', Bool.not_eq_false', Bool.and_eq_true, Bool.or_eq_true, Bool.and_eq_false_iff, Bool.or_eq_false_iff] at c246
              have ht2 : t < p.ent.length := by omega
              obtain ⟨eb, eo, ec, hev9, hec⟩ : ∃ b o c, ev_ = .slice (some ⟨b, o, none⟩) p.ent.length c ∧ Cells w0 b o (zs p.ent) := by
                rcases hp.ent.val with ⟨h0, -⟩ | ⟨b, o, c, hv, -, hc⟩
                · omega
                · exact ⟨b, o, c, hv, hc⟩
              obtain ⟨wd, hwd⟩ : ∃ wd, wd = World.drew w := ⟨_, rfl⟩
              have hxd : Ext w wd := hwd ▸ Only.drew w
              replace hx := hx.tr hxd
              replace hL := own_ext hL hxd
              replace hE := own_ext hE hxd
              replace hC2 := hxd.blk hC2 (fun h => h)
              replace hC4 := hxd.blk hC4 (fun h => h)
              replace hC5 := hxd.blk hC5 (fun h => h)
              refine W.drawT 11 (Ext) [(2, fun v _ => v = (Value.pointer (some ⟨b2, 0, none⟩))), (4, fun v _ => v = (Value.pointer (some ⟨b4, 0, none⟩))), (5, fun v _ => v = (Value.pointer (some ⟨b5, 0, none⟩))), (6, fun v _ => v = (Value.int .i64 (n : Int))), (14, fun v _ => v = (Value.int .i64 (t : Int)))] rfl (by kernel_rfl) (Only.refl No) (fun _ _ _ h k => h.trans k) ⟨Mono.eq, Mono.eq, Mono.eq, Mono.eq, Mono.eq, trivial⟩ ⟨h2, h4, h5, h6, h14, trivial⟩ ?_
              refine WD.p rfl (fun e w hR hh => by obtain ⟨h5, -⟩ := hh; exact SG.n (o_fa 2 TI26 rfl TI24 rfl h5 ⟨rfl, Only.refl No _⟩)) ?_
              refine WD.p rfl (fun e w hR hh => by obtain ⟨h247, -⟩ := hh; rw [← hwd] at hR; have hc9 := hR.blk hC5 (fun h => h); exact SG.n (o_ld TI24 rfl h247 (cell_of hc9 rfl) ⟨rfl, Only.refl No _⟩)) ?_
              refine WD.p rfl (fun e w hR hh => by obtain ⟨h14, -⟩ := hh; exact SG.n (o_mvh h14 ⟨rfl, Only.refl No _⟩)) ?_
              refine WD.p rfl (fun e w hR hh => by obtain ⟨h2, -⟩ := hh; exact SG.n (o_fa 2 TI26 rfl TI24 rfl h2 ⟨rfl, Only.refl No _⟩)) ?_
              refine WD.p rfl (fun e w hR hh => by obtain ⟨h250, -⟩ := hh; rw [← hwd] at hR; have hc9 := hR.blk hC2 (fun h => h); exact SG.n (o_ld TI24 rfl h250 (cell_of hc9 rfl) ⟨rfl, Only.refl No _⟩)) ?_
              refine WD.p rfl (fun e w hR hh => by obtain ⟨h14, -⟩ := hh; exact SG.n (o_mvh h14 ⟨rfl, Only.refl No _⟩)) ?_
              refine WD.p rfl (fun e w hR hh => by obtain ⟨h252, h251, -⟩ := hh; exact SG.n (o_ixB (i := t) TI24 TI3 (h251.trans hev9) h252 ht2 ⟨rfl, Only.refl No _⟩)) ?_
              refine WD.p rfl (fun e w hR hh => by obtain ⟨h253, -⟩ := hh; rw [← hwd] at hR; exact SG.n (o_ld TI3 rfl h253 (show _ = some (Value.int .i64 p.ent[t]) from by rw [Nat.mul_one]; exact (Cells.only hec (hx.tr hR) (fun h => h)) t _ (zs_at ht2)) ⟨rfl, Only.refl No _⟩)) ?_
              refine WD.p rfl (fun e w hR hh => by obtain ⟨h6, -⟩ := hh; exact SG.n (o_mvh h6 ⟨rfl, Only.refl No _⟩)) ?_
              refine WD.q (fun v w => ∃ q : Int, v = .int .i64 q ∧ 0 ≤ q ∧ q ≤ (n : Int)) (fun v w w2 hR hh => hh) rfl (fun e w hR hh => by obtain ⟨h255, h254, -⟩ := hh; exact SG.n (o_call Tryd.call39 (lc h254 (lc rfl (lc h255 ln))) ((brought_spec p.ent[t] 0 (n : Int) _ (hb.ent _ (List.getElem_mem _)) (by omega) (by decide) (by omega)).mono (fun v w' ⟨⟨q, h1, h2, h3⟩, h4⟩ => ⟨⟨q, h1, h2, h3⟩, by rw [h4]; exact Only.refl No _⟩)))) ?_
              refine WD.p rfl (fun e w hR hh => by obtain ⟨h249, h248, -⟩ := hh; exact SG.n (o_ixB (i := t) TI24 TI3 h248 h249 ht1 ⟨rfl, Only.refl No _⟩)) ?_
              rintro e w hR ⟨h257, h256, h255, h254, h253, h252, h251, h250, h249, h248, h247, h2, h4, h5, h6, h14, -⟩
              rw [← hwd] at hR
              obtain ⟨q, h256v, hq0, hq1⟩ := h256
              replace hx := hx.tr hR
              replace hL := own_ext hL hR
              replace hE := own_ext hE hR
              replace hC2 := hR.blk hC2 (fun h => h)
              replace hC4 := hR.blk hC4 (fun h => h)
              replace hC5 := hR.blk hC5 (fun h => h)
              refine WL.u (o_stR1 TI3 h257 (show 0 + t * 1 = t by omega) h256v rfl hE rfl ht1 ?_)
              intro w257 hr257 ho257 hs257
              replace hL := own_only hL ho257 (fun q hq hF => own_row_off hE hL (by decide) q hq hF)
              replace hC2 := ho257.blk hC2 (own_off hE hC2 (by decide))
              replace hC4 := ho257.blk hC4 (own_off hE hC4 (by decide))
              replace hC5 := ho257.blk hC5 (own_off hE hC5 (by decide))
              replace hx := hx.trans' ho257 (fun _ h => h) (fun q hq hF => by have := (hE.lt q hF).1; omega)
              rw [zs, ← List.map_set, ← zs] at hr257
              clear hE
              have hE := hr257
              clear hr257
              refine WL.nil ?_
              first | exact ⟨E.set t q, by rw [List.length_set]; exact hEl, fun e he => by rcases List.mem_or_eq_of_mem_set he with h | h; exact hEb e h; subst h; exact ⟨hq0, hq1⟩, h2, h4, h5, h6, h14, hL, hE, hC2, hC4, hC5, hx⟩ | exact ⟨E, hEl, hEb, h2, h4, h5, h6, h14, hL, hE, hC2, hC4, hC5, hx⟩
            · try simp only [decide_eq_true_eq, decide_eq_false_iff_not, Bool.not_eq_true', Bool.not_eq_false', Bool.and_eq_true, Bool.or_eq_true, Bool.and_eq_false_iff, Bool.or_eq_false_iff] at c246
              refine W.skip ?_
              first | exact ⟨E.set t q, by rw [List.length_set]; exact hEl, fun e he => by rcases List.mem_or_eq_of_mem_set he with h | h; exact hEb e h; subst h; exact ⟨hq0, hq1⟩, h2, h4, h5, h6, h14, hL, hE, hC2, hC4, hC5, hx⟩ | exact ⟨E, hEl, hEb, h2, h4, h5, h6, h14, hL, hE, hC2, hC4, hC5, hx⟩
          rintro e w ⟨E2, hEl2, hEb2, h2, h4, h5, h6, h14, hL, hE, hC2, hC4, hC5, hx⟩
          refine W.region ?_
          refine WL.c rfl (o_mvh h14 ?_)
          refine WL.c rfl (o_addi rfl rfl (by omega) ?_)
          refine WL.c rfl (o_ash (show _ = Value.int _ _ from rfl) ?_)
          refine WL.nil ?_
          refine ⟨⟨t + 1, E2, by omega, hEl2, hEb2, h2, h4, h5, h6, rfl, hL, hE, hC2, hC4, hC5, hx⟩, ?_⟩
          show m - ((t : Int) + 1).toNat < _
          rw [hm14]; simp [intOf]; omega
        · try simp only [decide_eq_true_eq, decide_eq_false_iff_not, Bool.not_eq_true', Bool.not_eq_false', Bool.and_eq_true, Bool.or_eq_true, Bool.and_eq_false_iff, Bool.or_eq_false_iff] at c239
          obtain rfl : m = t := by omega
          refine W.exit ?_
          refine W.seq ?_
          refine W.region ?_
          refine WL.c rfl (o_ldA TI26 rfl h5 (show Cells _ b5 0 (pgV ⟨p.enc, L, E⟩ (Value.slice (some ⟨gc, 0, none⟩) (n + 1) (n + 1)) (Value.slice (some ⟨ge, 0, none⟩) m m)) from Cells.of hC5 0 _ (by simp [pgV])) rfl ?_)
          refine WL.u (o_stA TI26 h4 rfl rfl (by first | rfl | (simp [pgV, own_one hr45, own_one hr51]; rfl)) hC4 rfl ?_)
          intro w4s hB4 ho4 hs4s
          replace hx := hx.trans' ho4 (fun _ h => h) (fun q hq he => by omega)
          refine WL.nil ?_
          refine W.ret ?_
          refine retC rfl TI26 rfl h4 (cells_all (by assumption)) rfl ?_
          have hok : OkP ⟨p.enc, L, E⟩ := ⟨by show ¬ (1048576 < L.length ∨ 1048576 < E.length); omega, fun j hj => by
            replace hj : j < L.length := hj
            by_cases hjn : j = n
            · subst hjn; exact ret_ok hLn
            · exact (hO j (by omega)).ent (by rw [List.length_replicate]; exact hEl.symm), fun j hj => by
            replace hj : j < E.length := hj
            have e0 : E.getD j 0 = E[j] := by rw [List.getD_eq_getElem?_getD, List.getElem?_eq_getElem hj]; rfl
            have := hEb E[j] (List.getElem_mem _)
            show 0 ≤ E.getD j 0 ∧ E.getD j 0 ≤ (L.length : Int) - 1
            rw [e0]; omega⟩
          exact ⟨⟨p.enc, L, E⟩, Value.slice (some ⟨gc, 0, none⟩) (n + 1) (n + 1), Value.slice (some ⟨ge, 0, none⟩) m m, rfl, hok, by show 0 < L.length; omega, by show L.length ≤ most + 1; omega, by show 0 < E.length; omega, by show World.ownsRow _ _ _ _ _ L.length _; rw [hLl]; exact own_mono (own_only hL ho4 (fun q hq he => by subst he; exact own_off hL hC4 (by decide) hq)) (by omega), by show World.ownsRow _ _ _ _ _ E.length _; rw [hEl]; exact own_mono (own_only hE ho4 (fun q hq he => by subst he; exact own_off hE hC4 (by decide) hq)) (by omega), hx⟩
end Go.Proofs.YthlbhnefldaoiaaDoor

set_option linter.unusedSimpArgs false
set_option linter.unusedVariables false
set_option maxRecDepth 100000
namespace Go.Proofs.YthlbhnefldaoiaaDoor
open Go Go.Vc Go.RowKit Go.Proofs

theorem vget_ext (R : List UInt8) : ∀ (xs : List UInt8) (k m : Nat), ((vget k m xs).2.2 = 20 ∧ (vget k m xs).2.1 = k + xs.length) ∨ vget k m (xs ++ R) = vget k m xs
  | [], k, m => .inl ⟨rfl, rfl⟩
  | c :: xs, k, m => by
    rw [List.cons_append]
    unfold vget
    split
    · exact .inr rfl
    · split
      · exact .inr rfl
      · rcases vget_ext R xs (k + 1) (m + (c.toNat % 128) * 128 ^ k) with ⟨h1, h2⟩ | h
        · exact .inl ⟨h1, by rw [h2, List.length_cons]; omega⟩
        · exact .inr h
/-- the reader's state on a front of the bytes: the same, or it has come to the front's end -/
def SG_ (T : List UInt8) (s s' : Rs) : Prop := s = .er 20 T.length ∨ (s' = s ∧ ∀ k, s = .ok k → k ≤ T.length)
theorem sg_num {T R : List UInt8} {s s' : Rs} {most e : Nat} (h : SG_ T s s') : SG_ T (numS T s most e).2 (numS (T ++ R) s' most e).2 ∧ ((numS T s most e).2 = .er 20 T.length ∨ (numS T s most e).1 = (numS (T ++ R) s' most e).1) := by
  rcases h with rfl | ⟨rfl, hk⟩
  · exact ⟨.inl rfl, .inl rfl⟩
  · cases s' with
    | er a b => exact ⟨.inr ⟨rfl, fun k h => by cases h⟩, .inr rfl⟩
    | ok k =>
      have hkT := hk k rfl
      have hd : (T ++ R).drop k = T.drop k ++ R := List.drop_append_of_le_length hkT
      rcases vget_ext R (T.drop k) 0 0 with ⟨h1, h2⟩ | h
      · have e1 : (numS T (.ok k) most e).2 = .er 20 T.length := by
          rw [numS_st, if_pos (by rw [h1]; decide), h1, h2, List.length_drop]
          show Rs.er 20 _ = _
          congr 1; omega
        exact ⟨.inl e1, .inl e1⟩
      · have e1 : numS (T ++ R) (.ok k) most e = numS T (.ok k) most e := by rw [numS_st, numS_st, hd, h]
        rw [e1]
        refine ⟨.inr ⟨rfl, fun k2 hk2 => ?_⟩, .inr rfl⟩
        obtain ⟨k0, h0, -, -, -, -, hb⟩ := numS_ok (T := T) (s := .ok k) (most := most) (e := e) (n := (numS T (.ok k) most e).1) (k2 := k2) (by rw [← hk2])
        cases h0
        exact hb hkT
theorem sg_op {T R : List UInt8} {c : UInt8} {s s' : Rs} (h : SG_ T s s') : SG_ T (opS T c s).2 (opS (T ++ R) c s').2 ∧ ((opS T c s).2 = .er 20 T.length ∨ (opS T c s).1 = (opS (T ++ R) c s').1) := by
  unfold opS
  split
  · exact ⟨h, .inr rfl⟩
  · obtain ⟨h1, h2⟩ := sg_num (R := R) (most := 2147483648) (e := 3) h
    exact ⟨h1, h2.imp id (fun h => by rw [h])⟩
theorem sg_ins {enc : Bool} {T R : List UInt8} {k : Nat} (hk : k ≤ T.length) : SG_ T (insS enc T k).2 (insS enc (T ++ R) k).2 ∧ ((insS enc T k).2 = .er 20 T.length ∨ (insS enc T k).1 = (insS enc (T ++ R) k).1) := by
  have h0 : SG_ T (.ok k) (.ok k) := .inr ⟨rfl, fun k2 h => by cases h; exact hk⟩
  obtain ⟨h1, h2⟩ := sg_num (R := R) (most := 255) (e := 140) h0
  obtain ⟨r, hr⟩ : ∃ r, r = numS T (.ok k) 255 140 := ⟨_, rfl⟩
  obtain ⟨r', hr'⟩ : ∃ r, r = numS (T ++ R) (.ok k) 255 140 := ⟨_, rfl⟩
  rw [← hr, ← hr'] at h1 h2
  obtain ⟨n, st⟩ := r
  obtain ⟨n', st'⟩ := r'
  cases st with
  | er a b =>
    have e1 := insS_err (enc := enc) hr.symm
    rcases h1 with h | ⟨h, -⟩
    · have h9 : Rs.er a b = .er 20 T.length := h
      rw [e1]
      exact ⟨.inl h9, .inl h9⟩
    · have h9 : st' = .er a b := h
      subst h9
      rw [e1, insS_err (enc := enc) hr'.symm]
      exact ⟨.inr ⟨rfl, fun k h => by cases h⟩, .inr rfl⟩
  | ok k1 =>
    rcases h1 with h | ⟨h, hb⟩
    · cases h
    rcases h2 with h2 | h2
    · cases h2
    have h9 : st' = .ok k1 := h
    have h8 : n = n' := h2
    subst h9 h8
    have hk1 : k1 ≤ T.length := hb k1 rfl
    unfold insS
    rw [← hr, ← hr']
    simp only
    split
    · exact ⟨.inr ⟨rfl, fun k h => by cases h⟩, .inr rfl⟩
    · rename_i f hf
      have g0 : SG_ T (.ok k1) (.ok k1) := .inr ⟨rfl, fun k2 h => by cases h; exact hk1⟩
      obtain ⟨a1, a2⟩ := sg_op (R := R) (c := f.2.getD 0 0) g0
      obtain ⟨b1, b2⟩ := sg_op (R := R) (c := f.2.getD 1 0) a1
      obtain ⟨c1, c2⟩ := sg_op (R := R) (c := f.2.getD 2 0) b1
      refine ⟨c1, ?_⟩
      have key : ∀ (c : UInt8) (s : Rs), s = .er 20 T.length → (opS T c s).2 = .er 20 T.length := fun c s h => by subst h; unfold opS; split <;> rfl
      rcases a2 with h | a2
      · exact .inl (key _ _ (key _ _ h))
      rcases b2 with h | b2
      · exact .inl (key _ _ h)
      rcases c2 with h | c2
      · exact .inl h
      exact .inr (by rw [a2, b2, c2])
theorem sg_ents {T R : List UInt8} : ∀ (n : Nat) (s s' : Rs) (es : List Int) (ps : List Nat), SG_ T s s' → SG_ T (entsS T n s es ps).1 (entsS (T ++ R) n s' es ps).1 := by
  intro n
  induction n with
  | zero => intro s s' es ps h; exact h
  | succ n ih =>
    intro s s' es ps h
    rcases h with rfl | ⟨rfl, hk⟩
    · rw [entsS_er]; exact .inl rfl
    · cases s' with
      | er a b => rw [entsS_er, entsS_er]; exact .inr ⟨rfl, fun k h => by cases h⟩
      | ok k =>
        obtain ⟨h1, h2⟩ := sg_num (R := R) (most := 2147483648) (e := 3) (.inr ⟨rfl, hk⟩ : SG_ T (.ok k) (.ok k))
        show SG_ T (entsS T n (numS T (.ok k) 2147483648 3).2 _ _).1 (entsS (T ++ R) n (numS (T ++ R) (.ok k) 2147483648 3).2 _ _).1
        rcases h2 with h2 | h2
        · rw [h2, entsS_er]; exact .inl rfl
        · rw [h2]; exact ih _ _ _ _ h1
theorem sg_inss {enc : Bool} {T R : List UInt8} : ∀ (n : Nat) (s s' : Rs) (es : List Ins) (ps : List Nat), SG_ T s s' → SG_ T (inssS enc T n s es ps).1 (inssS enc (T ++ R) n s' es ps).1 := by
  intro n
  induction n with
  | zero => intro s s' es ps h; exact h
  | succ n ih =>
    intro s s' es ps h
    rcases h with rfl | ⟨rfl, hk⟩
    · rw [inssS_er]; exact .inl rfl
    · cases s' with
      | er a b => rw [inssS_er, inssS_er]; exact .inr ⟨rfl, fun k h => by cases h⟩
      | ok k =>
        obtain ⟨h1, h2⟩ := sg_ins (enc := enc) (R := R) (hk k rfl)
        show SG_ T (inssS enc T n (insS enc T k).2 _ _).1 (inssS enc (T ++ R) n (insS enc (T ++ R) k).2 _ _).1
        rcases h2 with h2 | h2
        · rw [h2, inssS_er]; exact .inl rfl
        · rw [h2]; exact ih _ _ _ _ h1
theorem sg_dec {enc : Bool} {T R : List UInt8} (h2 : 2 ≤ T.length) : SG_ T (decI enc T).1 (decI enc (T ++ R)).1 := by
  obtain ⟨a1, a2⟩ := sg_num (T := T) (R := R) (most := 1048576) (e := 4) (.inr ⟨rfl, fun k h => by cases h; exact h2⟩ : SG_ T (.ok 2) (.ok 2))
  have he : SG_ T (decE T).1 (decE (T ++ R)).1 := by
    unfold decE
    rcases a2 with h | h
    · rw [h, entsS_er]; exact .inl rfl
    · rw [h]; exact sg_ents _ _ _ _ _ a1
  obtain ⟨b1, b2⟩ := sg_num (R := R) (most := 1048576) (e := 4) he
  unfold decI
  rcases b2 with h | h
  · rw [h, inssS_er]; exact .inl rfl
  · rw [h]; exact sg_inss _ _ _ _ _ b1
theorem lay_hd (p : Pg) : ∃ r, lay p = 109 :: (if p.enc then 1 else 0) :: r := by
  unfold lay lay1 lay0 hdr
  exact ⟨_, by simp only [List.cons_append, List.nil_append, List.append_assoc]; rfl⟩
theorem cut_dec {p : Pg} (h : OkP p) {i : Nat} (hi : i < (lay p).length) : decA ((lay p).take i) = (20, i) := by
  obtain ⟨T, hT⟩ : ∃ T, T = (lay p).take i := ⟨_, rfl⟩
  have hTR : T ++ (lay p).drop i = lay p := by rw [hT, List.take_append_drop]
  have hl : T.length = i := by rw [hT, List.length_take]; omega
  rw [← hT]
  obtain ⟨r, hr⟩ := lay_hd p
  have g : ∀ j, j < i → T.getD j 0 = (lay p).getD j 0 := fun j hj => by
    rw [List.getD_eq_getElem?_getD, List.getD_eq_getElem?_getD, hT, List.getElem?_take, if_pos hj]
  by_cases h0 : i = 0
  · have e : hdrS T = (20, 0) := by unfold hdrS; rw [if_pos (by omega)]
    rw [decA_hdr (by rw [e]; decide), e, h0]
  have g0 : T.getD 0 0 = 109 := by rw [g 0 (by omega), hr]; rfl
  by_cases h1 : i = 1
  · have e : hdrS T = (20, 1) := by unfold hdrS; rw [if_neg (by omega), if_neg (by rw [g0]; decide), if_pos (by omega)]
    rw [decA_hdr (by rw [e]; decide), e, h1]
  have g1 : T.getD 1 0 = if p.enc then 1 else 0 := by rw [g 1 (by omega), hr]; rfl
  have hh := hdr_zero (T := T) (by omega) g0 (by rw [g1]; split <;> decide)
  have he : encS T = p.enc := by unfold encS; rw [g1]; cases p.enc <;> rfl
  obtain ⟨-, -, -, d4⟩ := dec_lay h.read []
  rw [List.append_nil] at d4
  have sg := sg_dec (enc := p.enc) (T := T) (R := (lay p).drop i) (by omega)
  rw [hTR] at sg
  rcases sg with sg | ⟨e1, e2⟩
  · rw [decA_er hh (by rw [he]; exact sg), hl]
  · have := e2 _ (e1.symm.trans d4)
    omega
theorem tail_dec {p : Pg} (h : OkP p) {R : List UInt8} (hR : R ≠ []) : decA (lay p ++ R) = (124, (lay p).length) := by
  obtain ⟨d1, d2, d3, d4⟩ := dec_lay h.read R
  have := List.length_pos_iff.2 hR
  rw [decA_tail d1 (by rw [d2]; exact d4) (by rw [List.length_append]; omega)]

end Go.Proofs.YthlbhnefldaoiaaDoor

set_option linter.unusedSimpArgs false
set_option linter.unusedVariables false
set_option maxRecDepth 100000
namespace Go.Proofs.YthlbhnefldaoiaaDoor
open Go Go.Vc Go.RowKit Go.Proofs
theorem o_apW {P : Program} {e : Env} {w : World} {K : Value → World → Prop} {ty : TypeId} {x y : Operand} {t el : TypeId} {s bs s' bs' n m : Nat} {z z' v u : Value} {d' : TypeDesc} {xs ys : List Value} (base : Nat) (ht : Ty P t (.slice el) s bs z) (hel : Ty P el d' s' bs' z') (hx : ev e x = v) (hy : ev e y = u)
    (hown : w.ownsRow base el s' v n xs) (hS : Sl w s' u m ys) (hm : 0 < m) (hzs : z'.cells.size = s') (hsz : 0 < s') (h1 : ∀ a ∈ ys, a.oneCell' = true) (h63 : n + m ≤ maxLen) (hby : ((n + m) + (n + m) / 4 + 192) * bs' ≤ 281474976710656) (hbase : base ≤ w.heap.size)
    (k : ∀ v' w', w'.ownsRow base el s' v' (n + m) (xs ++ ys) → Only (fun k => v.ownBlock = some k) w w' → K v' w') : OP P e (.call ⟨.builtin .append, #[x, y], #[t, t]⟩) ty w K := by
  obtain ⟨i, hi1, hi2, hi3, hi4⟩ := hel.info
  rcases hS.val with ⟨rfl, a, c, rfl⟩ | ⟨b, off, c, rfl, hnc, hc⟩
  · omega
  · obtain ⟨v', w', hr, h2, h3, -⟩ := run_append_own_wide (P := P) w base t ty el i z' s' bs' ht.und hi1 hi4 hi2 hi3 hzs hsz v n xs hown ⟨b, off, none⟩ m c ys hS.len (fun j u hj => by rw [add_none]; exact hc j u hj) h1 h63 hby hbase
    exact OP.of (by simp [execOp, resolve, invoke, builtin, hx, hy, hr]) (k v' w' h2 ((Only.grown h3).mono (fun _ _ h => h.symm)))

set_option maxHeartbeats 16000000 in
theorem cut_walk (w0 : World) (p : Pg) (cv ev_ : Value) (hp : PgR w0 p cv ev_) (hb : BPg p) (v : Value) (T : List UInt8) (hB : By w0 v T) (hR : T.length ≤ 140737488351232) (hT : Tab w0) : Ca Tryd.prog 7 #[.agg (pgV p cv ev_).toArray, v] w0 (fun r w' => r = .bool true ∧ Ext w0 w') := by
  refine Ca.of Tryd.func7 Tryd.ntmps7 rfl rfl ?_
  refine W.seq ?_
  refine W.region ?_
  refine WL.c rfl (o_boxB rfl ?_)
  intro w2 hC2 hx2 hs2
  obtain ⟨b2, hb2⟩ : ∃ b, b = w0.heap.size := ⟨_, rfl⟩
  rw [← hb2] at hC2 ⊢
  replace hC2 : w2.heap[b2]? = some (.cells (pgV p cv ev_).toArray 26 (0, 0)) := hC2
  have hx : Ext w0 w2 := hx2
  have hg2 : w0.heap.size ≤ b2 := by omega
  refine WL.c rfl (o_ash (show _ = Value.bool _ from rfl) ?_)
  refine WL.nil ?_
  refine W.seq ?_
  refine W.seq ?_
  refine W.region ?_
  refine WL.c rfl (o_call Tryd.call10 ln ((awake_spec _ (hT.ext hx)).mono ?_))
  rintro v12 w12 ⟨rfl, hx12⟩
  replace hx := hx.tr hx12
  replace hC2 := hx12.blk hC2 (fun h => h)
  refine WL.c rfl (o_not' rfl ?_)
  refine WL.nil ?_
  refine W.condF' rfl (by decide) ?_
  refine W.skip ?_
  refine W.seq ?_
  refine W.region ?_
  refine WL.c rfl (o_ldA TI26 rfl rfl (show Cells _ b2 0 (pgV p cv ev_) from Cells.of hC2 0 _ (by simp [pgV])) rfl ?_)
  refine WL.c rfl (o_call Tryd.call17 (lc rfl (lc rfl ln)) ((made_spec p cv ev_ 60 _ (hp.ext hx) hb (by decide)).mono ?_))
  rintro v16 w16 ⟨q, cu, eu, rfl, hok, hq0, hq1, hq2, hcu, heu, hx16⟩
  have hql2 := hok.read.nc
  have hqe2 := hok.read.ne
  have hll := lay_len hok.read
  replace hx := hx.tr hx16
  replace hC2 := hx16.blk hC2 (fun h => h)
  refine WL.c rfl (o_call Tryd.call13 (lc rfl ln) ((encode_ok q hok cu eu _ ⟨Sl.own hcu, Sl.own heu⟩).mono ?_))
  rintro v17 w17 ⟨vb, rfl, hvb, hx17⟩
  obtain ⟨H9, hH9⟩ : ∃ H, H = w16.heap.size := ⟨_, rfl⟩
  rw [← hH9] at hvb
  have hH9g : w0.heap.size ≤ H9 := by rw [hH9]; exact hx.size
  replace hx := hx.tr hx17
  refine WL.c rfl (o_mvh (by first | exact (show _ = Value.tuple _ from rfl) | exact rfl) ?_)
  refine WL.c rfl (o_ext rfl rfl ?_)
  refine WL.c rfl (o_ext rfl rfl ?_)
  refine WL.c rfl (o_alB TI32 ?_)
  intro wa hCa hxa hsa
  refine WL.c rfl (o_ash (by first | exact (show _ = Value.slice _ _ _ from rfl) | exact rfl) ?_)
  refine WL.u (o_stA TI32 rfl (show _ = Value.agg ([.int .i64 0, .int .i64 0]).toArray from rfl) rfl rfl hCa rfl ?_)
  intro wb6 hC6 hob hsb
  have hxb := Ext.own hxa (Nat.le_refl _) hob
  obtain ⟨b6, hb6⟩ : ∃ b, b = w17.heap.size := ⟨_, rfl⟩
  rw [← hb6] at hC6 ⊢
  clear hCa hxa hsa hob hsb
  replace hx := hx.tr hxb
  replace hvb := own_ext hvb hxb
  clear hxb
  refine WL.nil ?_
  refine W.seq ?_
  refine W.seq ?_
  refine W.region ?_
  refine WL.c rfl (o_fa 0 TI32 rfl TI30 rfl rfl ?_)
  refine WL.c rfl (o_ld TI30 rfl rfl (cell_of hC6 rfl) ?_)
  refine WL.c rfl (o_call Tryd.call20 (lc rfl ln) ((num_spec 0 _).mono ?_))
  rintro v22 w22 ⟨rfl, hw22⟩
  obtain rfl := hw22.symm
  refine WL.c rfl (o_ne rfl rfl ?_)
  refine WL.nil ?_
  refine W.condF' rfl (by decide) ?_
  refine W.skip ?_
  refine W.seq ?_
  refine W.seq ?_
  have hlp : 0 < (lay q).length := by obtain ⟨r, hr⟩ := lay_hd q; rw [hr]; simp
  obtain ⟨g, cap, hvbv, -⟩ := own_some hvb hlp
  subst hvbv
  obtain ⟨cap', cur', hvv, hg0, -, hnc, -, -, -⟩ := own_blk hvb rfl
  have hcap : (lay q).length ≤ cap := by simp only [Value.slice.injEq] at hvv; omega
  clear hvv
  refine W.region ?_
  refine WL.c rfl (o_ash (show _ = Value.int _ _ from rfl) ?_)
  refine WL.nil ?_
  refine W.block ?_
  refine W.loop (fun e w => ∃ (i : Nat), i ≤ (lay q).length ∧ e 1 = v ∧ e 5 = Value.slice (some ⟨g, 0, none⟩) (lay q).length cap ∧ e 7 = .int .i64 (i : Int) ∧ w.ownsRow H9 5 1 (Value.slice (some ⟨g, 0, none⟩) (lay q).length cap) (lay q).length ((lay q).map bv) ∧ Ext w0 w) (fun e w => (lay q).length - (intOf (e 7)).toNat) ?_ ?_
  · exact ⟨0, Nat.zero_le _, rfl, rfl, rfl, hvb, hx⟩
  rintro e w ⟨i, hi, h1, h5, h7, hvb, hx⟩
  have hm7 := h7
  refine W.seq ?_
  refine W.seq ?_
  refine W.region ?_
  refine WL.c rfl (o_mvh h7 ?_)
  refine WL.c rfl (o_mvh h5 ?_)
  refine WL.c rfl (o_lenR TI34 rfl (Sl.own hvb) ?_)
  refine WL.c rfl (o_lt rfl rfl ?_)
  refine WL.nil ?_
  refine W.cond rfl (fun c27 => ?_) (fun c27 => ?_)
  · try simp only [decide_eq_true_eq, decide_eq_false_iff_not, Bool.not_eq_true', Bool.not_eq_false', Bool.and_eq_true, Bool.or_eq_true, Bool.and_eq_false_iff, Bool.or_eq_false_iff] at c27
    have hi1 : i < (lay q).length := by omega
    have hHl : By w (.slice (some ⟨g, 0, none⟩) i cap) ((lay q).take i) := by
      have h9 := Sl.own (own_take hvb (show i ≤ (lay q).length by omega))
      rw [Nat.mul_one, ← List.map_take] at h9
      show Sl w 1 _ ((lay q).take i).length _
      rw [List.length_take, Nat.min_eq_left (by omega)]
      exact h9
    refine W.skip ?_
    refine W.seq ?_
    refine W.block ?_
    refine W.seq ?_
    refine W.region ?_
    refine WL.c rfl (o_mvh h5 ?_)
    refine WL.c rfl (o_mvh h7 ?_)
    refine WL.c rfl (o_slv (h := i) TI34 TI5 (show _ = Value.slice (some ⟨g, 0, none⟩) (lay q).length cap from rfl) Lo.n (Hi.s (show _ = Value.int .i64 (i : Int) from rfl)) (Nat.zero_le _) (by omega) ?_)
    rw [sliced0]
    refine WL.c rfl (o_call Tryd.call14 (lc rfl ln) ((decode_by ((lay q).take i) _ _ hHl (by rw [List.length_take]; omega)).mono ?_))
    rw [cut_dec hok hi1]
    rintro v34 w34 ⟨cx, ex, rfl, hcx, hex, hx34⟩
    replace hx := hx.tr hx34
    replace hvb := own_ext hvb hx34
    refine WL.c rfl (o_mvh (by first | exact (show _ = Value.tuple _ from rfl) | exact rfl) ?_)
    refine WL.c rfl (o_ext rfl rfl ?_)
    refine WL.c rfl (o_ext rfl rfl ?_)
    refine WL.c rfl (o_alB TI26 ?_)
    intro w8 hC8 hx8 hs8
    obtain ⟨b8, hb8⟩ : ∃ b, b = w34.heap.size := ⟨_, rfl⟩
    rw [← hb8] at hC8 ⊢
    replace hC8 : w8.heap[b8]? = some (.cells ([.bool false, .slice none 0 0, .slice none 0 0]).toArray 26 (0, 0)) := hC8
    have hg8 : w0.heap.size ≤ b8 := by have := hx.size; omega
    replace hx := hx.tr hx8
    replace hvb := own_ext hvb hx8
    replace hcx := own_ext hcx hx8
    replace hex := own_ext hex hx8
    refine WL.c rfl (o_alB TI32 ?_)
    intro w9 hC9 hx9 hs9
    obtain ⟨b9, hb9⟩ : ∃ b, b = w8.heap.size := ⟨_, rfl⟩
    rw [← hb9] at hC9 ⊢
    replace hC9 : w9.heap[b9]? = some (.cells ([.int .i64 0, .int .i64 0]).toArray 32 (0, 0)) := hC9
    have hg9 : w0.heap.size ≤ b9 := by have := hx.size; omega
    have hn_b8_9 : b8 < b9 := by have := (Array.getElem?_eq_some_iff.1 hC8).1; omega
    replace hx := hx.tr hx9
    replace hC8 := hx9.blk hC8 (fun h => h)
    replace hvb := own_ext hvb hx9
    replace hcx := own_ext hcx hx9
    replace hex := own_ext hex hx9
    refine WL.u (o_stA TI26 rfl (show _ = Value.agg (pgV (decQ ((lay q).take i)) cx ex).toArray from rfl) rfl (by simp [pgV, own_one hcx, own_one hex]; rfl) hC8 rfl ?_)
    intro w8t hBn hon hsn
    replace hx := hx.trans' hon (fun _ h => h) (fun k hk he => by omega)
    replace hvb := own_only hvb hon (fun k hk he => by subst he; exact own_off hvb hC8 (by decide) hk)
    replace hcx := own_only hcx hon (fun k hk he => by subst he; exact own_off hcx hC8 (by decide) hk)
    replace hex := own_only hex hon (fun k hk he => by subst he; exact own_off hex hC8 (by decide) hk)
    replace hC9 := hon.blk hC9 (by omega)
    clear hC8
    have hC8 := hBn
    clear hBn
    refine WL.u (o_stA TI32 rfl (show _ = Value.agg ([.int .i64 ((20 : Nat) : Int), .int .i64 (i : Int)]).toArray from rfl) rfl rfl hC9 rfl ?_)
    intro w9t hBn hon hsn
    replace hx := hx.trans' hon (fun _ h => h) (fun k hk he => by omega)
    replace hvb := own_only hvb hon (fun k hk he => by subst he; exact own_off hvb hC9 (by decide) hk)
    replace hcx := own_only hcx hon (fun k hk he => by subst he; exact own_off hcx hC9 (by decide) hk)
    replace hex := own_only hex hon (fun k hk he => by subst he; exact own_off hex hC9 (by decide) hk)
    replace hC8 := hon.blk hC8 (by omega)
    clear hC9
    have hC9 := hBn
    clear hBn
    refine WL.nil ?_
    refine W.seq ?_
    refine W.region ?_
    refine WL.c rfl (o_ldA TI32 rfl rfl (show Cells _ b9 0 [.int .i64 ((20 : Nat) : Int), .int .i64 (i : Int)] from Cells.of hC9 0 _ (by simp)) rfl ?_)
    refine WL.c rfl (o_mvh h7 ?_)
    refine WL.c rfl (o_call Tryd.call11 (lc rfl (lc rfl (lc rfl ln))) ((is_spec _ _ _ _ _).mono ?_))
    rintro v39 w39 ⟨rfl, hx39⟩
    replace hx := hx.tr hx39
    replace hvb := own_ext hvb hx39
    refine WL.c rfl (o_not' rfl ?_)
    refine WL.nil ?_
    refine W.condF' rfl (by simp) ?_
    refine W.skip ?_
    refine W.region ?_
    refine WL.c rfl (o_mvh h7 ?_)
    refine WL.c rfl (o_addi rfl rfl (by omega) ?_)
    refine WL.c rfl (o_ash (show _ = Value.int _ _ from rfl) ?_)
    refine WL.nil ?_
    refine ⟨⟨i + 1, by omega, h1, h5, rfl, hvb, hx⟩, ?_⟩
    show (lay q).length - ((i : Int) + 1).toNat < _
    rw [hm7]; simp [intOf]; omega
  · try simp only [decide_eq_true_eq, decide_eq_false_iff_not, Bool.not_eq_true', Bool.not_eq_false', Bool.and_eq_true, Bool.or_eq_true, Bool.and_eq_false_iff, Bool.or_eq_false_iff] at c27
    obtain rfl : (lay q).length = i := by omega
    refine W.exit ?_
    refine W.seq ?_
    refine W.seq ?_
    refine W.region ?_
    refine WL.c rfl (o_mvh h1 ?_)
    refine WL.c rfl (o_lenR TI34 rfl (hB.ext hx) ?_)
    refine WL.c rfl (o_eq rfl rfl ?_)
    refine WL.nil ?_
    refine W.cut (fun e1 w1 => ∃ (v2 : Value) (T2 : List UInt8), T2 ≠ [] ∧ T2.length ≤ 140737488351232 ∧ By w1 v2 T2 ∧ e1 1 = v2 ∧ e1 5 = Value.slice (some ⟨g, 0, none⟩) (lay q).length cap ∧ w1.ownsRow H9 5 1 (Value.slice (some ⟨g, 0, none⟩) (lay q).length cap) (lay q).length ((lay q).map bv) ∧ Ext w0 w1) ?_ ?_
    · -- both ways
      refine W.cond rfl (fun c43 => ?_) (fun c43 => ?_)
      · try simp only [decide_eq_true_eq, decide_eq_false_iff_not, Bool.not_eq_true', Bool.not_eq_false', Bool.and_eq_true, Bool.or_eq_true, Bool.and_eq_false_iff, Bool.or_eq_false_iff] at c43
        have hT0 : T = [] := List.length_eq_zero_iff.1 (by omega)
        refine W.region ?_
        refine WL.c rfl (o_bs1 TI34 TI5 (show _ = Value.int _ _ from rfl) (by decide) (by decide) rfl ?_)
        have hT44 := Sl.own (own_new1 (w := w) (v := Value.int .u8 0) (el := 5) (s := 1) rfl)
        have hxr : Ext w (w.alloc (.cells (Value.int .u8 0).cells 5)) := Only.alloc w _
        obtain ⟨g44, hg44⟩ : ∃ g, g = w.heap.size := ⟨_, rfl⟩
        rw [← hg44] at hT44 ⊢
        generalize w.alloc (.cells (Value.int .u8 0).cells 5) = w44 at hT44 hxr ⊢
        replace hx := hx.tr hxr
        replace hvb := own_ext hvb hxr
        refine WL.c rfl (o_ash (by first | exact (show _ = Value.slice _ _ _ from rfl) | exact rfl) ?_)
        refine WL.nil ?_
        first | exact ⟨v, T, hT0, hR, hB.ext hx, h1, h5, hvb, hx⟩ | exact ⟨_, [0], by simp, by simp, hT44, rfl, h5, hvb, hx⟩
      · try simp only [decide_eq_true_eq, decide_eq_false_iff_not, Bool.not_eq_true', Bool.not_eq_false', Bool.and_eq_true, Bool.or_eq_true, Bool.and_eq_false_iff, Bool.or_eq_false_iff] at c43
        have hT0 : T ≠ [] := fun h => c43 (by rw [h]; rfl)
        refine W.skip ?_
        first | exact ⟨v, T, hT0, hR, hB.ext hx, h1, h5, hvb, hx⟩ | exact ⟨_, [0], by simp, by simp, hT44, rfl, h5, hvb, hx⟩
    rintro e w ⟨v2, T2, hT2, hT2l, hB2, h1, h5, hvb, hx⟩
    refine W.seq ?_
    refine W.region ?_
    refine WL.c rfl (o_mvh h5 ?_)
    refine WL.c rfl (o_apO (w.heap.size) TI34 TI5 (show _ = Value.slice _ _ _ from rfl) rfl (World.ownsRow_nil _ _ _ _) (Sl.own hvb) rfl (by decide) one_bv (by rw [maxLen_eq]; omega) (by omega) (Nat.le_refl _) ?_)
    intro v47 w47 hr47 ho47 _hb47 _hk47
    rw [Nat.zero_add, List.nil_append] at hr47
    have hx47 : Ext w w47 := ho47.mono (fun j _ h => by cases h)
    have hBlt := fun (h0 : 0 < T2.length) k (hk : v2.ownBlock = some k) => hB2.lt (by omega) hk
    replace hB2 := hB2.ext hx47
    have hvb0 := fun k (hk : (Value.slice (some ⟨g, 0, none⟩) (lay q).length cap).ownBlock = some k) => (hvb.lt k hk).2
    have hz47 := hx.size
    replace hx := hx.tr hx47
    replace hvb := own_ext hvb hx47
    refine WL.c rfl (o_mvh h1 ?_)
    refine WL.c rfl (o_apW (w.heap.size) TI34 TI5 rfl rfl hr47 hB2 (List.length_pos_iff.2 hT2) rfl (by decide) one_bv (by rw [maxLen_eq]; omega) (by omega) hx47.size ?_)
    intro v49 w49 hr49 ho49
    have hlo := fun k (hk : v47.ownBlock = some k) => (hr47.lt k hk).1
    replace hvb := own_only hvb ho49 (fun k hk hF => by have := (hvb0 k hk); have := hlo k hF; omega)
    replace hx := hx.trans' ho49 (fun _ h => h) (fun k hk hF => by have := hlo k hF; omega)
    rw [← List.map_append, ← List.length_append] at hr49
    refine WL.c rfl (o_call Tryd.call14 (lc rfl ln) ((decode_by (lay q ++ T2) _ _ (Sl.own hr49) (by rw [List.length_append]; omega)).mono ?_))
    rw [tail_dec hok hT2]
    rintro v50 w50 ⟨cy, ey, rfl, hcy, hey, hx50⟩
    replace hx := hx.tr hx50
    replace hvb := own_ext hvb hx50
    refine WL.c rfl (o_mvh (by first | exact (show _ = Value.tuple _ from rfl) | exact rfl) ?_)
    refine WL.c rfl (o_ext rfl rfl ?_)
    refine WL.c rfl (o_ext rfl rfl ?_)
    refine WL.c rfl (o_alB TI26 ?_)
    intro w10 hC10 hx10 hs10
    obtain ⟨b10, hb10⟩ : ∃ b, b = w50.heap.size := ⟨_, rfl⟩
    rw [← hb10] at hC10 ⊢
    replace hC10 : w10.heap[b10]? = some (.cells ([.bool false, .slice none 0 0, .slice none 0 0]).toArray 26 (0, 0)) := hC10
    have hg10 : w0.heap.size ≤ b10 := by have := hx.size; omega
    replace hx := hx.tr hx10
    replace hvb := own_ext hvb hx10
    replace hcy := own_ext hcy hx10
    replace hey := own_ext hey hx10
    refine WL.c rfl (o_alB TI32 ?_)
    intro w11 hC11 hx11 hs11
    obtain ⟨b11, hb11⟩ : ∃ b, b = w10.heap.size := ⟨_, rfl⟩
    rw [← hb11] at hC11 ⊢
    replace hC11 : w11.heap[b11]? = some (.cells ([.int .i64 0, .int .i64 0]).toArray 32 (0, 0)) := hC11
    have hg11 : w0.heap.size ≤ b11 := by have := hx.size; omega
    have hn_b10_11 : b10 < b11 := by have := (Array.getElem?_eq_some_iff.1 hC10).1; omega
    replace hx := hx.tr hx11
    replace hC10 := hx11.blk hC10 (fun h => h)
    replace hvb := own_ext hvb hx11
    replace hcy := own_ext hcy hx11
    replace hey := own_ext hey hx11
    refine WL.u (o_stA TI26 rfl (show _ = Value.agg (pgV (decQ (lay q ++ T2)) cy ey).toArray from rfl) rfl (by simp [pgV, own_one hcy, own_one hey]; rfl) hC10 rfl ?_)
    intro w10t hBn hon hsn
    replace hx := hx.trans' hon (fun _ h => h) (fun k hk he => by omega)
    replace hvb := own_only hvb hon (fun k hk he => by subst he; exact own_off hvb hC10 (by decide) hk)
    replace hcy := own_only hcy hon (fun k hk he => by subst he; exact own_off hcy hC10 (by decide) hk)
    replace hey := own_only hey hon (fun k hk he => by subst he; exact own_off hey hC10 (by decide) hk)
    replace hC11 := hon.blk hC11 (by omega)
    clear hC10
    have hC10 := hBn
    clear hBn
    refine WL.u (o_stA TI32 rfl (show _ = Value.agg ([.int .i64 ((124 : Nat) : Int), .int .i64 ((lay q).length : Int)]).toArray from rfl) rfl rfl hC11 rfl ?_)
    intro w11t hBn hon hsn
    replace hx := hx.trans' hon (fun _ h => h) (fun k hk he => by omega)
    replace hvb := own_only hvb hon (fun k hk he => by subst he; exact own_off hvb hC11 (by decide) hk)
    replace hcy := own_only hcy hon (fun k hk he => by subst he; exact own_off hcy hC11 (by decide) hk)
    replace hey := own_only hey hon (fun k hk he => by subst he; exact own_off hey hC11 (by decide) hk)
    replace hC10 := hon.blk hC10 (by omega)
    clear hC11
    have hC11 := hBn
    clear hBn
    refine WL.nil ?_
    refine W.seq ?_
    refine W.region ?_
    refine WL.c rfl (o_ldA TI32 rfl rfl (show Cells _ b11 0 [.int .i64 ((124 : Nat) : Int), .int .i64 ((lay q).length : Int)] from Cells.of hC11 0 _ (by simp)) rfl ?_)
    refine WL.c rfl (o_mvh h5 ?_)
    refine WL.c rfl (o_lenR TI34 rfl (Sl.own hvb) ?_)
    refine WL.c rfl (o_call Tryd.call11 (lc rfl (lc rfl (lc rfl ln))) ((is_spec _ _ _ _ _).mono ?_))
    rintro v56 w56 ⟨rfl, hx56⟩
    replace hx := hx.tr hx56
    refine WL.c rfl (o_ash (show _ = Value.bool _ from rfl) ?_)
    refine WL.nil ?_
    refine W.ret ?_
    refine ret1v rfl (show _ = Value.bool _ from rfl) ?_
    exact ⟨by simp, hx⟩
end Go.Proofs.YthlbhnefldaoiaaDoor
