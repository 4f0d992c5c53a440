/-
  Walks and lemmas. Written by program out of specs of mine.
-/
import Derived.WalkKit
import Derived.WalkSpells
import Derived.WalkLawsBesides
import Derived.Deep.Quiet
import Derived.StillTail
import Derived.StringKeys
import Derived.Laws.StructEq
import Derived.Laws.Externs
import Derived.Laws.Tables
import Derived.Scope
import Derived.Laws.AppendOwn
import Derived.Maps.AppendAt
import Derived.Recover
import Derived.Test.YthlbhnefldaoiaaDoorProg
import Derived.Shelf.Strconv.Itoa0
import Derived.Shelf.Strconv.Itoa1
import Derived.Shelf.LaysM
import Derived.Shelf.Strconv.Itoa2
import Derived.Shelf.Strconv.Itoa3
import Derived.Shelf.Strings.Builder1
import Derived.Shelf.Strings.OnBuilder
import Derived.Lib.Builder
import Derived.Lib.UnsafeStr
import Derived.Lib.ItoaLen
import Derived.SizedLaws
import Derived.ChangeArms
import Derived.ChangeSlices
import Derived.Test.YthlbhnefldaoiaaDoorRows
import Derived.ProofKit
import Derived.OpenShut
import Derived.ShutString
import Derived.ChangeOld
import Derived.Below
import Derived.JoinedCond
import Derived.SliceStrings
import Derived.Test.YthlbhnefldaoiaaDoorCards
import Derived.Test.YthlbhnefldaoiaaDoorTie
import Derived.Deep.DeepHandedRow
import Derived.Lib.LaidTab
import Derived.Test.YthlbhnefldaoiaaDoorKl4
set_option linter.unusedSimpArgs false
set_option linter.unusedVariables false
set_option maxRecDepth 100000
set_option linter.unusedSimpArgs false
set_option linter.unusedVariables false
set_option maxRecDepth 100000
namespace Go.Proofs.YthlbhnefldaoiaaDoor
open Go Go.Vc Go.RowKit Go.Proofs
theorem own_made1 {w : World} {el : TypeId} {l n : Nat} {z : Value} (hz : z.cells = #[z]) (hln : l ≤ n) (hn : n ≤ 9223372036854775807) : (w.alloc (.cells (madeCells z.cells (n * 1)) el)).ownsRow w.heap.size el 1 (.slice (some ⟨w.heap.size, 0, none⟩) l n) l (List.replicate l z) := by
  have hc : (madeCells z.cells (n * 1)).toList = List.replicate n z := by rw [hz, Nat.mul_one, toList_madeCells_one]
  refine ⟨by simp, .inr ⟨w.heap.size, n, madeCells z.cells (n * 1), rfl, Nat.le_refl _, heap_alloc_new w _, hln, by rw [maxLen_eq]; omega, ?_, ?_⟩⟩
  · have := congrArg List.length hc; simpa using this
  · rw [hc, List.take_replicate, Nat.mul_one, Nat.min_eq_left hln]

def ret0I : Ins := ⟨20, 0, 0, 0⟩
theorem inss_rep (n : Nat) : inss (List.replicate n in0) = List.replicate (n * 4) (.int .i64 0) := by
  induction n with
  | zero => rfl
  | succ n ih => rw [List.replicate_succ, inss, List.flatMap_cons, ← inss, ih, show (n + 1) * 4 = 4 + n * 4 by omega, ← List.replicate_append_replicate]; rfl
theorem made4 (n : Nat) : (madeCells (Value.agg #[.int .i64 0, .int .i64 0, .int .i64 0, .int .i64 0]).cells (n * 4)).toList = inss (List.replicate n in0) := by
  rw [inss_rep]
  refine List.ext_getElem (by simp [size_madeCells]) fun i h1 h2 => ?_
  have h4 : i % 4 = 0 ∨ i % 4 = 1 ∨ i % 4 = 2 ∨ i % 4 = 3 := by omega
  simp only [madeCells, Array.toList_map, List.getElem_map, Array.getElem_toList, Array.getElem_range, List.getElem_replicate]
  show (#[Value.int .i64 0, .int .i64 0, .int .i64 0, .int .i64 0] : Array Value)[i % 4]! = _
  rcases h4 with h | h | h | h <;> rw [h] <;> rfl
theorem own_made4 {w : World} {n : Nat} {el : TypeId} (hn : n ≤ 9223372036854775807) : (w.alloc (.cells (madeCells (Value.agg #[.int .i64 0, .int .i64 0, .int .i64 0, .int .i64 0]).cells (n * 4)) el)).ownsRow w.heap.size el 4 (.slice (some ⟨w.heap.size, 0, none⟩) n n) n (inss (List.replicate n in0)) :=
  ⟨by rw [inss_len, List.length_replicate], .inr ⟨w.heap.size, n, _, rfl, Nat.le_refl _, heap_alloc_new w _, Nat.le_refl _, by rw [maxLen_eq]; omega, size_madeCells _ _, by rw [made4, List.take_of_length_le (by rw [inss_len, List.length_replicate]; omega)]⟩⟩
theorem inss_set : ∀ (L : List Ins) (i : Nat) (h : i < L.length) (v : Int), (inss L).set (i * 4) (.int .i64 v) = inss (L.set i { L[i] with op := v })
  | [], i, h, v => absurd h (Nat.not_lt_zero i)
  | x :: L, 0, _, v => by simp [inss, insV]
  | x :: L, i + 1, h, v => by
    have := inss_set L i (by simpa using h) v
    rw [inss, List.flatMap_cons, ← inss, List.set_append, if_neg (by rw [insV_len]; omega), insV_len, show (i + 1) * 4 - 4 = i * 4 by omega, this]
    rfl
theorem lim_step {n i : Nat} (h : i < n) : (List.replicate i ret0I ++ List.replicate (n - i) in0).set i { (List.replicate i ret0I ++ List.replicate (n - i) in0)[i]'(by simp; omega) with op := 20 } = List.replicate (i + 1) ret0I ++ List.replicate (n - (i + 1)) in0 := by
  have e : (List.replicate i ret0I ++ List.replicate (n - i) in0)[i]'(by simp; omega) = in0 := by
    rw [List.getElem_append_right (by simp)]; simp
  rw [e, List.set_append, if_neg (by simp), List.length_replicate, Nat.sub_self]
  obtain ⟨m, hm⟩ : ∃ m, n - i = m + 1 := ⟨n - i - 1, by omega⟩
  rw [hm, List.replicate_succ, List.set_cons_zero, show n - (i + 1) = m by omega, ← List.replicate_append_replicate, List.append_assoc]
  rfl
def limP (n m : Nat) : Pg := ⟨false, List.replicate n ret0I, List.replicate m 0⟩
theorem limP_big {n m : Nat} (h : 1048576 < n ∨ 1048576 < m) : chk (limP n m) = (4, 0) := chk_eq (.inl ⟨by unfold BigP limP; simpa using h, rfl, rfl⟩)
theorem fitP_blank {nc ne : Nat} : fitP nc ne 32 0 := by simp [fitP]
theorem limP_ok {n m : Nat} (hn : n ≤ 1048576) (hm : m ≤ 1048576) (h0 : 0 < n) : OkP (limP n m) := by
  refine ⟨by unfold BigP limP; simp; omega, fun j hj => ?_, fun j hj => ?_⟩
  · have hj2 : j < n := by simpa [limP] using hj
    have e : (limP n m).code.getD j in0 = ret0I := by simp [limP, List.getD_eq_getElem?_getD, hj2]
    unfold OkI
    rw [e]
    exact ⟨([114, 101, 116], [32, 32, 32]), rfl, fitP_blank, fitP_blank, fitP_blank, by unfold moreP; rw [if_neg (by decide), if_neg (by decide), if_neg (by decide), if_neg (by decide)]; trivial⟩
  · have hj2 : j < m := by simpa [limP] using hj
    have e : (limP n m).ent.getD j 0 = 0 := by simp [limP, List.getD_eq_getElem?_getD, hj2]
    unfold OkE
    rw [e]
    simp [limP]; omega
theorem rep_fm {α : Type} (f : α → List UInt8) (x : α) (c : Nat) (hc : (f x).length = c) : ∀ n, ((List.replicate n x).flatMap f).length = c * n
  | 0 => by simp
  | n + 1 => by rw [List.replicate_succ, List.flatMap_cons, List.length_append, rep_fm f x c hc n, hc, Nat.mul_add]; omega
theorem limP_lay : (lay (limP 1048576 3)).length = 1048585 := by
  unfold lay lay1 lay0
  simp only [List.length_append]
  have e1 : (layI (limP 1048576 3).enc ret0I).length = 1 := by decide +kernel
  have e2 : (layE 0).length = 1 := by decide +kernel
  have e3 := rep_fm (layI (limP 1048576 3).enc) ret0I 1 e1 1048576
  have e4 := rep_fm layE 0 1 e2 3
  have e5 : (hdr (limP 1048576 3).enc).length = 2 := by decide +kernel
  have e6 : (limP 1048576 3).ent.length = 3 := List.length_replicate ..
  have e7 : (limP 1048576 3).code.length = 1048576 := List.length_replicate ..
  have e8 : (vput 3).length = 1 := by decide +kernel
  have e9 : (vput 1048576).length = 3 := by rw [vput_len]; decide +kernel
  rw [e6, e7, e8, e9, e5]
  have e10 : ((limP 1048576 3).ent.flatMap layE).length = 1 * 3 := e4
  have e11 : ((limP 1048576 3).code.flatMap (layI (limP 1048576 3).enc)).length = 1 * 1048576 := e3
  rw [e10, e11]
theorem lim_h : decA [109, 0, 129, 128, 64] = (4, 2) := decA_er (by decide +kernel) (by kernel_rfl)
theorem lim_i : decA [109, 1, 0, 129, 128, 64] = (4, 3) := decA_er (by decide +kernel) (by kernel_rfl)
theorem limR {w : World} {n m b1 b2 : Nat} {t1 t2 : TypeId} {cv ev_ : Value} (h1 : w.ownsRow b1 t1 4 cv n (inss (List.replicate n ret0I))) (h2 : w.ownsRow b2 t2 1 ev_ m (List.replicate m (.int .i64 0))) : PgR w (limP n m) cv ev_ := by
  refine ⟨?_, ?_⟩
  · show Sl w 4 cv (List.replicate n ret0I).length (inss (List.replicate n ret0I))
    rw [List.length_replicate]; exact Sl.own h1
  · show Sl w 1 ev_ (List.replicate m (0 : Int)).length (zs (List.replicate m (0 : Int)))
    rw [List.length_replicate, zs, List.map_replicate]; exact Sl.own h2
theorem rep_take4 {m n : Nat} (h : m ≤ n) : (inss (List.replicate n ret0I)).take (m * 4) = inss (List.replicate m ret0I) := by
  obtain ⟨k, rfl⟩ : ∃ k, n = m + k := ⟨n - m, by omega⟩
  rw [← List.replicate_append_replicate, inss, List.flatMap_append, ← inss, List.take_left' (by rw [inss_len, List.length_replicate])]
theorem rep_take1 {m n : Nat} (h : m ≤ n) : (List.replicate n (Value.int .i64 0)).take (m * 1) = List.replicate m (Value.int .i64 0) := by
  rw [List.take_replicate, Nat.mul_one, Nat.min_eq_left h]

set_option maxHeartbeats 16000000 in
theorem limits_walk (w0 : World) (hT : Tab w0) : Ca Tryd.prog 3 #[] w0 (fun r w' => r = .bool true ∧ Ext w0 w') := by
  obtain ⟨N, hN⟩ : ∃ N : Nat, N = 1048577 := ⟨_, rfl⟩
  obtain ⟨M, hM⟩ : ∃ M : Nat, M = 1048576 := ⟨_, rfl⟩
  have hMN : M ≤ N := by omega
  refine Ca.of Tryd.func3 Tryd.ntmps3 rfl rfl ?_
  refine W.seq ?_
  refine W.region ?_
  refine WL.c rfl (o_ash (show _ = Value.bool _ from rfl) ?_)
  refine WL.nil ?_
  refine W.seq ?_
  refine W.seq ?_
  refine W.region ?_
  refine WL.c rfl (o_call Tryd.call10 ln ((awake_spec _ hT).mono ?_))
  rintro v12 w12 ⟨rfl, hx12⟩
  have hx := hx12
  refine WL.c rfl (o_not' rfl ?_)
  refine WL.nil ?_
  refine W.condF' rfl (by decide) ?_
  refine W.skip ?_
  refine W.seq ?_
  obtain ⟨wd, hwd⟩ : ∃ wd, wd = World.drew w12 := ⟨_, rfl⟩
  have hxd : Ext w12 wd := hwd ▸ Only.drew w12
  replace hx := hx.tr hxd
  have hz0 := hx.size
  refine W.drawT 4 (Ext) [(0, fun v _ => v = (Value.bool false))] rfl (by kernel_rfl) (Only.refl No) (fun _ _ _ h k => h.trans k) ⟨Mono.eq, trivial⟩ ⟨rfl, trivial⟩ ?_
  refine WD.q (fun v w => ∃ g, v = .slice (some ⟨g, 0, none⟩) N N ∧ w.ownsRow w0.heap.size 28 4 v N (inss (List.replicate N in0))) (fun v w w2 hR hh => by obtain ⟨g, h1, h2⟩ := hh; exact ⟨g, h1, own_ext h2 hR⟩) rfl (fun e w hR hh => by skip; rw [← hwd] at hR; exact SG.n (o_mk (n := N) TI23 TI28 (by rw [hN]; rfl) (by rw [hN]; rfl) (by omega) (by omega) ⟨⟨_, rfl, own_mono (own_made4 (by omega)) (by have := hR.size; omega)⟩, Only.alloc w _⟩)) ?_
  refine WD.q (fun v w => ∃ g, v = .slice (some ⟨g, 0, none⟩) N N ∧ w.ownsRow w0.heap.size 3 1 v N (List.replicate N (.int .i64 0))) (fun v w w2 hR hh => by obtain ⟨g, h1, h2⟩ := hh; exact ⟨g, h1, own_ext h2 hR⟩) rfl (fun e w hR hh => by skip; rw [← hwd] at hR; exact SG.n (o_mk (n := N) TI24 TI3 (by rw [hN]; rfl) (by rw [hN]; rfl) (by omega) (by omega) ⟨⟨_, rfl, own_mono (own_made1 rfl (Nat.le_refl _) (by omega)) (by have := hR.size; omega)⟩, Only.alloc w _⟩)) ?_
  refine WD.q (fun v w => ∃ g1 g2, v = .agg #[.bool false, .slice (some ⟨g1, 0, none⟩) N N, .slice (some ⟨g2, 0, none⟩) N N] ∧ w.ownsRow w0.heap.size 28 4 (.slice (some ⟨g1, 0, none⟩) N N) N (inss (List.replicate N in0)) ∧ w.ownsRow w0.heap.size 3 1 (.slice (some ⟨g2, 0, none⟩) N N) N (List.replicate N (.int .i64 0))) (fun v w w2 hR hh => by obtain ⟨g1, g2, h1, h2, h3⟩ := hh; exact ⟨g1, g2, h1, own_ext h2 hR, own_ext h3 hR⟩) rfl (fun e w hR hh => by obtain ⟨h15, h14, -⟩ := hh; obtain ⟨ga, h14v, h14r⟩ := h14; obtain ⟨gb, h15v, h15r⟩ := h15; rw [h14v] at h14r; rw [h15v] at h15r; exact SG.n (o_bldC (cs := [(.bool false), (.slice (some ⟨ga, 0, none⟩) N N), (.slice (some ⟨gb, 0, none⟩) N N)]) TI26 (Sizes.cons TI4 (Sizes.cons TI23 (Sizes.cons TI24 Sizes.nil))) rfl (lcp h14v (lcp h15v lnp)) rfl rfl ⟨⟨_, _, rfl, h14r, h15r⟩, Only.refl No _⟩)) ?_
  refine WD.q (fun v w => ∃ b, v = .pointer (some ⟨b, 0, none⟩) ∧ w0.heap.size ≤ b ∧ w.heap[b]? = some (.cells ([.bool false, .slice none 0 0, .slice none 0 0]).toArray 26 (0, 0))) (fun v w w2 hR hh => by obtain ⟨b, h1, h2, h3⟩ := hh; exact ⟨b, h1, h2, hR.blk h3 (fun h => h)⟩) rfl (fun e w hR hh => by skip; rw [← hwd] at hR; exact SG.n (o_al TI26 ⟨⟨_, rfl, by have := hR.size; omega, heap_alloc_new _ _⟩, Only.alloc w _⟩)) ?_
  rintro e w hR ⟨h1, h16, h15, h14, h0, -⟩
  rw [← hwd] at hR
  obtain ⟨g1, g2, h16v, hcr, her⟩ := h16
  obtain ⟨b1, h1v, hb1, hC1⟩ := h1
  replace hx := hx.tr hR
  refine WL.u (o_stA TI26 h1v h16v rfl rfl hC1 rfl ?_)
  intro w1s hB1 ho1 hs1
  replace hx := hx.trans' ho1 (fun _ h => h) (fun k hk he => by omega)
  replace hcr := own_only hcr ho1 (fun k hk he => by subst he; exact own_off hcr hC1 (by decide) hk)
  replace her := own_only her ho1 (fun k hk he => by subst he; exact own_off her hC1 (by decide) hk)
  clear hC1
  have hC1 := hB1
  clear hB1
  refine WL.nil ?_
  refine W.seq ?_
  refine W.seq ?_
  refine W.region ?_
  refine WL.c rfl (o_ash (show _ = Value.int _ _ from rfl) ?_)
  refine WL.nil ?_
  refine W.block ?_
  refine W.loop (fun e w => ∃ (i : Nat), i ≤ N ∧ e 1 = .pointer (some ⟨b1, 0, none⟩) ∧ e 2 = .int .i64 (i : Int) ∧ w.ownsRow w0.heap.size 28 4 (Value.slice (some ⟨g1, 0, none⟩) N N) N (inss (List.replicate i ret0I ++ List.replicate (N - i) in0)) ∧ w.ownsRow w0.heap.size 3 1 (Value.slice (some ⟨g2, 0, none⟩) N N) N (List.replicate N (.int .i64 0)) ∧ w.heap[b1]? = some (.cells #[.bool false, (Value.slice (some ⟨g1, 0, none⟩) N N), (Value.slice (some ⟨g2, 0, none⟩) N N)] 26 (0, 0)) ∧ Ext w0 w) (fun e w => N - (intOf (e 2)).toNat) ?_ ?_
  · exact ⟨0, Nat.zero_le _, h1v, rfl, by simpa using hcr, her, hC1, hx⟩
  rintro e w ⟨i, hi, h1, h2, hcr, her, hC1, hx⟩
  have hm2 := h2
  refine W.seq ?_
  refine W.seq ?_
  refine W.region ?_
  refine WL.c rfl (o_mvh h2 ?_)
  refine WL.c rfl (o_fa 1 TI26 rfl TI23 rfl h1 ?_)
  refine WL.c rfl (o_ld TI23 rfl rfl (cell_of hC1 rfl) ?_)
  refine WL.c rfl (o_lenR TI23 rfl (Sl.own hcr) ?_)
  refine WL.c rfl (o_lt rfl rfl ?_)
  refine WL.nil ?_
  refine W.cond rfl (fun c21 => ?_) (fun c21 => ?_)
  · try simp only [decide_eq_true_eq, decide_eq_false_iff_not, Bool.not_eq_true', Bool.not_eq_false', Bool.and_eq_true, Bool.or_eq_true, Bool.and_eq_false_iff, Bool.or_eq_false_iff] at c21
    have hi1 : i < N := by omega
    refine W.skip ?_
    refine W.seq ?_
    refine W.block ?_
    refine W.region ?_
    refine WL.c rfl (o_fa 1 TI26 rfl TI23 rfl h1 ?_)
    refine WL.c rfl (o_ld TI23 rfl rfl (cell_of hC1 rfl) ?_)
    refine WL.c rfl (o_mvh h2 ?_)
    refine WL.c rfl (o_ixB (i := i) TI23 TI28 (show _ = (Value.slice (some ⟨g1, 0, none⟩) N N) from rfl) (show _ = Value.int .i64 (i : Int) from rfl) hi1 ?_)
    refine WL.c rfl (o_fa 0 TI28 rfl TI3 rfl rfl ?_)
    refine WL.u (o_stRj TI3 (show _ = Value.pointer (some ⟨g1, 0 + i * 4, none⟩) from rfl) (show 0 + i * 4 = i * 4 by omega) (show _ = Value.int .i64 20 from rfl) rfl hcr rfl (by omega) ?_)
    intro w28 hr28 ho28 hs28
    replace her := own_only her ho28 (fun q hq hF => own_row_off hcr her (by decide) q hq hF)
    replace hC1 := ho28.blk hC1 (own_off hcr hC1 (by decide))
    replace hx := hx.trans' ho28 (fun _ h => h) (fun q hq hF => by have := (hcr.lt q hF).1; omega)
    rw [inss_set _ _ (by simp; omega), lim_step hi1] at hr28
    clear hcr
    have hcr := hr28
    refine WL.nil ?_
    refine W.region ?_
    refine WL.c rfl (o_mvh h2 ?_)
    refine WL.c rfl (o_addi rfl rfl (by omega) ?_)
    refine WL.c rfl (o_ash (show _ = Value.int _ _ from rfl) ?_)
    refine WL.nil ?_
    refine ⟨⟨i + 1, by omega, h1, rfl, hcr, her, hC1, hx⟩, ?_⟩
    show N - ((i : Int) + 1).toNat < _
    rw [hm2]; simp [intOf]; omega
  · try simp only [decide_eq_true_eq, decide_eq_false_iff_not, Bool.not_eq_true', Bool.not_eq_false', Bool.and_eq_true, Bool.or_eq_true, Bool.and_eq_false_iff, Bool.or_eq_false_iff] at c21
    obtain rfl : N = i := by omega
    rw [Nat.sub_self, List.replicate_zero, List.append_nil] at hcr
    refine W.exit ?_
    refine W.seq ?_
    have hcN := hcr
    have hcM := own_take hcr (m := M) hMN
    rw [rep_take4 hMN] at hcM
    have heN := her
    have heM := own_take her (m := M) hMN
    rw [rep_take1 hMN] at heM
    have he3 := own_take her (m := 3) (by omega)
    rw [rep_take1 (by omega)] at he3
    clear hcr her
    obtain ⟨wd, hwd⟩ : ∃ wd, wd = World.drew w := ⟨_, rfl⟩
    have hxd : Ext w wd := hwd ▸ Only.drew w
    have hz8 := hx.size
    have hl1 := (Array.getElem?_eq_some_iff.1 hC1).1
    replace hx := hx.tr hxd
    replace hcN := own_ext hcN hxd
    replace hcM := own_ext hcM hxd
    replace heN := own_ext heN hxd
    replace heM := own_ext heM hxd
    replace he3 := own_ext he3 hxd
    replace hC1 := hxd.blk hC1 (fun h => h)
    refine W.drawT 8 (Ext) [(1, fun v _ => v = (Value.pointer (some ⟨b1, 0, none⟩)))] rfl (by kernel_rfl) (Only.refl No) (fun _ _ _ h k => h.trans k) ⟨Mono.eq, trivial⟩ ⟨h1, trivial⟩ ?_
    refine WD.p rfl (fun e w hR hh => by obtain ⟨h1, -⟩ := hh; exact SG.n (o_fa 1 TI26 rfl TI23 rfl h1 ⟨rfl, Only.refl No _⟩)) ?_
    refine WD.p rfl (fun e w hR hh => by obtain ⟨h29, -⟩ := hh; rw [← hwd] at hR; have hc9 := hR.blk hC1 (fun h => h); exact SG.n (o_ld TI23 rfl h29 (cell_of hc9 rfl) ⟨rfl, Only.refl No _⟩)) ?_
    refine WD.p rfl (fun e w hR hh => by obtain ⟨h30, -⟩ := hh; exact SG.n (o_slv (h := M) TI23 TI28 h30 Lo.n (Hi.s (by rw [hM]; rfl)) (Nat.zero_le _) hMN ⟨rfl, Only.refl No _⟩)) ?_
    refine WD.p rfl (fun e w hR hh => by obtain ⟨h1, -⟩ := hh; exact SG.n (o_fa 2 TI26 rfl TI24 rfl h1 ⟨rfl, Only.refl No _⟩)) ?_
    refine WD.p rfl (fun e w hR hh => by obtain ⟨h32, -⟩ := hh; rw [← hwd] at hR; have hc9 := hR.blk hC1 (fun h => h); exact SG.n (o_ld TI24 rfl h32 (cell_of hc9 rfl) ⟨rfl, Only.refl No _⟩)) ?_
    refine WD.p rfl (fun e w hR hh => by obtain ⟨h33, -⟩ := hh; exact SG.n (o_slv (h := M) TI24 TI3 h33 Lo.n (Hi.s (by rw [hM]; rfl)) (Nat.zero_le _) hMN ⟨rfl, Only.refl No _⟩)) ?_
    refine WD.p rfl (fun e w hR hh => by obtain ⟨h34, h31, -⟩ := hh; exact SG.n (o_bldC (cs := [(.bool false), _, _]) TI26 (Sizes.cons TI4 (Sizes.cons TI23 (Sizes.cons TI24 Sizes.nil))) rfl (lcp h31 (lcp h34 lnp)) rfl rfl ⟨rfl, Only.refl No _⟩)) ?_
    refine WD.q (fun v w => ∃ b, v = .pointer (some ⟨b, 0, none⟩) ∧ wd.heap.size ≤ b ∧ w.heap[b]? = some (.cells ([.bool false, .slice none 0 0, .slice none 0 0]).toArray 26 (0, 0))) (fun v w w2 hR hh => by obtain ⟨b, h1, h2, h3⟩ := hh; exact ⟨b, h1, h2, hR.blk h3 (fun h => h)⟩) rfl (fun e w hR hh => by skip; rw [← hwd] at hR; exact SG.n (o_al TI26 ⟨⟨_, rfl, hR.size, heap_alloc_new _ _⟩, Only.alloc w _⟩)) ?_
    rintro e w hR ⟨h3, h35, h34, h33, h32, h31, h30, h29, h1, -⟩
    rw [← hwd] at hR
    obtain ⟨b3, h3, hb3, hC3⟩ := h3
    have hb13 : b1 < b3 := by have := hxd.size; omega
    have hg3 : w0.heap.size ≤ b3 := by have := hxd.size; omega
    replace hx := hx.tr hR
    replace hcN := own_ext hcN hR
    replace hcM := own_ext hcM hR
    replace heN := own_ext heN hR
    replace heM := own_ext heM hR
    replace he3 := own_ext he3 hR
    replace hC1 := hR.blk hC1 (fun h => h)
    refine WL.u (o_stA TI26 h3 (show _ = Value.agg (pgV (limP M M) (Value.slice (some ⟨g1, 0, none⟩) M N) (Value.slice (some ⟨g2, 0, none⟩) M N)).toArray from h35.trans (by rw [sliced0, sliced0]; rfl)) rfl rfl hC3 rfl ?_)
    intro w3s hB3 ho3 hs3
    replace hx := hx.trans' ho3 (fun _ h => h) (fun k hk he => by omega)
    replace hcN := own_only hcN ho3 (fun k hk he => by subst he; exact own_off hcN hC3 (by decide) hk)
    replace hcM := own_only hcM ho3 (fun k hk he => by subst he; exact own_off hcM hC3 (by decide) hk)
    replace heN := own_only heN ho3 (fun k hk he => by subst he; exact own_off heN hC3 (by decide) hk)
    replace heM := own_only heM ho3 (fun k hk he => by subst he; exact own_off heM hC3 (by decide) hk)
    replace he3 := own_only he3 ho3 (fun k hk he => by subst he; exact own_off he3 hC3 (by decide) hk)
    replace hC1 := ho3.blk hC1 (by omega)
    clear hC3
    have hC3 := hB3
    clear hB3
    refine WL.nil ?_
    refine W.seq ?_
    refine W.seq ?_
    refine W.region ?_
    refine WL.c rfl (o_ldA TI26 rfl h1 (show Cells _ b1 0 (pgV (limP N N) (Value.slice (some ⟨g1, 0, none⟩) N N) (Value.slice (some ⟨g2, 0, none⟩) N N)) from Cells.of hC1 0 _ (by simp [pgV] <;> exact fun i v h => h)) rfl ?_)
    refine WL.c rfl (o_call Tryd.call12 (lc rfl ln) ((check_ok (limP N N) (Value.slice (some ⟨g1, 0, none⟩) N N) (Value.slice (some ⟨g2, 0, none⟩) N N) _ (limR hcN heN) 4 0 (limP_big (.inl (by omega))) (by simp [limP] <;> omega) (by simp [limP] <;> omega)).mono ?_))
    rintro v37 w37 ⟨rfl, hx37⟩
    replace hx := hx.tr hx37
    replace hcN := own_ext hcN hx37
    replace hcM := own_ext hcM hx37
    replace heN := own_ext heN hx37
    replace heM := own_ext heM hx37
    replace he3 := own_ext he3 hx37
    replace hC1 := hx37.blk hC1 (fun h => h)
    replace hC3 := hx37.blk hC3 (fun h => h)
    refine WL.c rfl (o_call Tryd.call11 (lc rfl (lc rfl (lc rfl ln))) ((is_spec _ _ _ _ _).mono ?_))
    rintro v38 w38 ⟨rfl, hx38⟩
    replace hx := hx.tr hx38
    replace hcN := own_ext hcN hx38
    replace hcM := own_ext hcM hx38
    replace heN := own_ext heN hx38
    replace heM := own_ext heM hx38
    replace he3 := own_ext he3 hx38
    replace hC1 := hx38.blk hC1 (fun h => h)
    replace hC3 := hx38.blk hC3 (fun h => h)
    refine WL.c rfl (o_not' rfl ?_)
    refine WL.c rfl (o_mvh (show _ = Value.bool _ from rfl) ?_)
    refine WL.g rfl (by decide) rfl (o_fa 1 TI26 rfl TI23 rfl h1 ?_)
    refine WL.g rfl (by decide) rfl (o_ld TI23 rfl rfl (cell_of hC1 rfl) ?_)
    refine WL.g rfl (by decide) rfl (o_fa 2 TI26 rfl TI24 rfl h3 ?_)
    refine WL.g rfl (by decide) rfl (o_ld TI24 rfl rfl (cell_of hC3 rfl) ?_)
    refine WL.g rfl (by decide) rfl (o_bldC (cs := [(.bool false), (Value.slice (some ⟨g1, 0, none⟩) N N), (Value.slice (some ⟨g2, 0, none⟩) M N)]) TI26 (Sizes.cons TI4 (Sizes.cons TI23 (Sizes.cons TI24 Sizes.nil))) rfl (lcp (show _ = (Value.slice (some ⟨g1, 0, none⟩) N N) from rfl) (lcp (show _ = (Value.slice (some ⟨g2, 0, none⟩) M N) from rfl) lnp)) rfl rfl ?_)
    refine WL.g rfl (by decide) rfl (o_call Tryd.call12 (lc rfl ln) ((check_ok (limP N M) (Value.slice (some ⟨g1, 0, none⟩) N N) (Value.slice (some ⟨g2, 0, none⟩) M N) _ (limR hcN heM) 4 0 (limP_big (.inl (by omega))) (by simp [limP] <;> omega) (by simp [limP] <;> omega)).mono ?_))
    rintro v46 w46 ⟨rfl, hx46⟩
    replace hx := hx.tr hx46
    replace hcN := own_ext hcN hx46
    replace hcM := own_ext hcM hx46
    replace heN := own_ext heN hx46
    replace heM := own_ext heM hx46
    replace he3 := own_ext he3 hx46
    replace hC1 := hx46.blk hC1 (fun h => h)
    replace hC3 := hx46.blk hC3 (fun h => h)
    refine WL.g rfl (by decide) rfl (o_call Tryd.call11 (lc rfl (lc rfl (lc rfl ln))) ((is_spec _ _ _ _ _).mono ?_))
    rintro v47 w47 ⟨rfl, hx47⟩
    replace hx := hx.tr hx47
    replace hcN := own_ext hcN hx47
    replace hcM := own_ext hcM hx47
    replace heN := own_ext heN hx47
    replace heM := own_ext heM hx47
    replace he3 := own_ext he3 hx47
    replace hC1 := hx47.blk hC1 (fun h => h)
    replace hC3 := hx47.blk hC3 (fun h => h)
    refine WL.g rfl (by decide) rfl (o_not' rfl ?_)
    refine WL.c rfl (o_pickO rfl rfl ?_)
    refine WL.c rfl (o_mvh (show _ = Value.bool _ from rfl) ?_)
    refine WL.g rfl (by decide) rfl (o_fa 1 TI26 rfl TI23 rfl h3 ?_)
    refine WL.g rfl (by decide) rfl (o_ld TI23 rfl rfl (cell_of hC3 rfl) ?_)
    refine WL.g rfl (by decide) rfl (o_fa 2 TI26 rfl TI24 rfl h1 ?_)
    refine WL.g rfl (by decide) rfl (o_ld TI24 rfl rfl (cell_of hC1 rfl) ?_)
    refine WL.g rfl (by decide) rfl (o_bldC (cs := [(.bool false), (Value.slice (some ⟨g1, 0, none⟩) M N), (Value.slice (some ⟨g2, 0, none⟩) N N)]) TI26 (Sizes.cons TI4 (Sizes.cons TI23 (Sizes.cons TI24 Sizes.nil))) rfl (lcp (show _ = (Value.slice (some ⟨g1, 0, none⟩) M N) from rfl) (lcp (show _ = (Value.slice (some ⟨g2, 0, none⟩) N N) from rfl) lnp)) rfl rfl ?_)
    refine WL.g rfl (by decide) rfl (o_call Tryd.call12 (lc rfl ln) ((check_ok (limP M N) (Value.slice (some ⟨g1, 0, none⟩) M N) (Value.slice (some ⟨g2, 0, none⟩) N N) _ (limR hcM heN) 4 0 (limP_big (.inr (by omega))) (by simp [limP] <;> omega) (by simp [limP] <;> omega)).mono ?_))
    rintro v56 w56 ⟨rfl, hx56⟩
    replace hx := hx.tr hx56
    replace hcN := own_ext hcN hx56
    replace hcM := own_ext hcM hx56
    replace heN := own_ext heN hx56
    replace heM := own_ext heM hx56
    replace he3 := own_ext he3 hx56
    replace hC1 := hx56.blk hC1 (fun h => h)
    replace hC3 := hx56.blk hC3 (fun h => h)
    refine WL.g rfl (by decide) rfl (o_call Tryd.call11 (lc rfl (lc rfl (lc rfl ln))) ((is_spec _ _ _ _ _).mono ?_))
    rintro v57 w57 ⟨rfl, hx57⟩
    replace hx := hx.tr hx57
    replace hcN := own_ext hcN hx57
    replace hcM := own_ext hcM hx57
    replace heN := own_ext heN hx57
    replace heM := own_ext heM hx57
    replace he3 := own_ext he3 hx57
    replace hC1 := hx57.blk hC1 (fun h => h)
    replace hC3 := hx57.blk hC3 (fun h => h)
    refine WL.g rfl (by decide) rfl (o_not' rfl ?_)
    refine WL.c rfl (o_pickO rfl rfl ?_)
    refine WL.c rfl (o_mvh (show _ = Value.bool _ from rfl) ?_)
    refine WL.g rfl (by decide) rfl (o_ldA TI26 rfl h3 (show Cells _ b3 0 (pgV (limP M M) (Value.slice (some ⟨g1, 0, none⟩) M N) (Value.slice (some ⟨g2, 0, none⟩) M N)) from Cells.of hC3 0 _ (by simp [pgV] <;> exact fun i v h => h)) rfl ?_)
    refine WL.g rfl (by decide) rfl (o_call Tryd.call12 (lc rfl ln) ((check_ok (limP M M) (Value.slice (some ⟨g1, 0, none⟩) M N) (Value.slice (some ⟨g2, 0, none⟩) M N) _ (limR hcM heM) 0 0 (chk_okP (limP_ok (by omega) (by omega) (by omega))) (by simp [limP] <;> omega) (by simp [limP] <;> omega)).mono ?_))
    rintro v62 w62 ⟨rfl, hx62⟩
    replace hx := hx.tr hx62
    replace hcN := own_ext hcN hx62
    replace hcM := own_ext hcM hx62
    replace heN := own_ext heN hx62
    replace heM := own_ext heM hx62
    replace he3 := own_ext he3 hx62
    replace hC1 := hx62.blk hC1 (fun h => h)
    replace hC3 := hx62.blk hC3 (fun h => h)
    refine WL.g rfl (by decide) rfl (o_call Tryd.call11 (lc rfl (lc rfl (lc rfl ln))) ((is_spec _ _ _ _ _).mono ?_))
    rintro v63 w63 ⟨rfl, hx63⟩
    replace hx := hx.tr hx63
    replace hcN := own_ext hcN hx63
    replace hcM := own_ext hcM hx63
    replace heN := own_ext heN hx63
    replace heM := own_ext heM hx63
    replace he3 := own_ext he3 hx63
    replace hC1 := hx63.blk hC1 (fun h => h)
    replace hC3 := hx63.blk hC3 (fun h => h)
    refine WL.g rfl (by decide) rfl (o_not' rfl ?_)
    refine WL.c rfl (o_pickO rfl rfl ?_)
    refine WL.nil ?_
    refine W.condF' rfl (by decide) ?_
    refine W.skip ?_
    refine W.seq ?_
    refine W.region ?_
    refine WL.c rfl (o_fa 2 TI26 rfl TI24 rfl h3 ?_)
    refine WL.c rfl (o_ld TI24 rfl rfl (cell_of hC3 rfl) ?_)
    refine WL.c rfl (o_slv (h := 3) TI24 TI3 (show _ = (Value.slice (some ⟨g2, 0, none⟩) M N) from rfl) Lo.n (Hi.s rfl) (Nat.zero_le _) (by omega) ?_)
    rw [sliced0]
    refine WL.c rfl (o_fa 2 TI26 rfl TI24 rfl h3 ?_)
    refine WL.u (o_stB TI24 rfl (show _ = (Value.slice (some ⟨g2, 0, none⟩) 3 N) from rfl) rfl hC3 (show 2 < 3 by decide) ?_)
    intro w69 hB3 ho3 hs3
    replace hx := hx.trans' ho3 (fun _ h => h) (fun k hk he => by omega)
    replace hcN := own_only hcN ho3 (fun k hk he => by subst he; exact own_off hcN hC3 (by decide) hk)
    replace hcM := own_only hcM ho3 (fun k hk he => by subst he; exact own_off hcM hC3 (by decide) hk)
    replace heN := own_only heN ho3 (fun k hk he => by subst he; exact own_off heN hC3 (by decide) hk)
    replace heM := own_only heM ho3 (fun k hk he => by subst he; exact own_off heM hC3 (by decide) hk)
    replace he3 := own_only he3 ho3 (fun k hk he => by subst he; exact own_off he3 hC3 (by decide) hk)
    clear hC3
    have hC3 : w69.heap[b3]? = some (.cells (pgV (limP M 3) (Value.slice (some ⟨g1, 0, none⟩) M N) (Value.slice (some ⟨g2, 0, none⟩) 3 N)).toArray 26 (0, 0)) := hB3
    clear hB3 hC1
    have hlm := limP_ok (n := M) (m := 3) (by omega) (by omega) (by omega)
    have hlay : (lay (limP M 3)).length = 1048585 := by rw [hM]; exact limP_lay
    refine WL.nil ?_
    refine W.seq ?_
    refine W.region ?_
    refine WL.c rfl (o_ldA TI26 rfl h3 (show Cells _ b3 0 (pgV (limP M 3) (Value.slice (some ⟨g1, 0, none⟩) M N) (Value.slice (some ⟨g2, 0, none⟩) 3 N)) from Cells.of hC3 0 _ (by simp [pgV] <;> exact fun i v h => h)) rfl ?_)
    refine WL.c rfl (o_call Tryd.call13 (lc rfl ln) ((encode_ok (limP M 3) hlm (Value.slice (some ⟨g1, 0, none⟩) M N) (Value.slice (some ⟨g2, 0, none⟩) 3 N) _ (limR hcM he3)).mono ?_))
    rintro v72 w72 ⟨vb, rfl, hvb, hx72⟩
    replace hx := hx.tr hx72
    replace hcN := own_ext hcN hx72
    replace hcM := own_ext hcM hx72
    replace heN := own_ext heN hx72
    replace heM := own_ext heM hx72
    replace he3 := own_ext he3 hx72
    replace hC3 := hx72.blk hC3 (fun h => h)
    refine WL.c rfl (o_mvh (by first | exact (show _ = Value.tuple _ from rfl) | exact rfl) ?_)
    refine WL.c rfl (o_ext rfl rfl ?_)
    refine WL.c rfl (o_ext rfl rfl ?_)
    refine WL.c rfl (o_alB TI32 ?_)
    intro wa hCa hxa hsa
    refine WL.c rfl (o_ash (by first | exact (show _ = Value.slice _ _ _ from rfl) | exact rfl) ?_)
    refine WL.u (o_stA TI32 rfl (show _ = Value.agg ([.int .i64 0, .int .i64 0]).toArray from rfl) rfl rfl hCa rfl ?_)
    intro wb5 hC5 hob hsb
    have hxb := Ext.own hxa (Nat.le_refl _) hob
    obtain ⟨b5, hb5⟩ : ∃ b, b = w72.heap.size := ⟨_, rfl⟩
    rw [← hb5] at hC5 ⊢
    clear hCa hxa hsa hob hsb
    replace hx := hx.tr hxb
    replace hcN := own_ext hcN hxb
    replace hcM := own_ext hcM hxb
    replace heN := own_ext heN hxb
    replace heM := own_ext heM hxb
    replace he3 := own_ext he3 hxb
    replace hvb := own_ext hvb hxb
    replace hC3 := hxb.blk hC3 (fun h => h)
    clear hxb
    refine WL.nil ?_
    refine W.seq ?_
    refine W.region ?_
    refine WL.c rfl (o_mvh (by first | exact (show _ = Value.slice _ _ _ from rfl) | exact rfl) ?_)
    refine WL.c rfl (o_call Tryd.call14 (lc rfl ln) ((decode_ok (limP M 3) hlm vb _ (Sl.own hvb)).mono ?_))
    rintro v77 w77 ⟨cq, eq_, rfl, hcq, heq, hx77⟩
    replace hx := hx.tr hx77
    replace hcN := own_ext hcN hx77
    replace hcM := own_ext hcM hx77
    replace heN := own_ext heN hx77
    replace heM := own_ext heM hx77
    replace he3 := own_ext he3 hx77
    replace hvb := own_ext hvb hx77
    replace hC3 := hx77.blk hC3 (fun h => h)
    replace hC5 := hx77.blk hC5 (fun h => h)
    clear hcN heN heM
    refine WL.c rfl (o_mvh (by first | exact (show _ = Value.tuple _ from rfl) | exact rfl) ?_)
    refine WL.c rfl (o_ext rfl rfl ?_)
    refine WL.c rfl (o_ext rfl rfl ?_)
    refine WL.c rfl (o_alB TI26 ?_)
    intro w6 hC6 hx6 hs6
    obtain ⟨b6, hb6⟩ : ∃ b, b = w77.heap.size := ⟨_, rfl⟩
    rw [← hb6] at hC6 ⊢
    replace hC6 : w6.heap[b6]? = some (.cells ([.bool false, .slice none 0 0, .slice none 0 0]).toArray 26 (0, 0)) := hC6
    have hg6 : w0.heap.size ≤ b6 := by have := hx.size; omega
    have hn_b3_6 : b3 < b6 := by have := (Array.getElem?_eq_some_iff.1 hC3).1; omega
    have hn_b5_6 : b5 < b6 := by have := (Array.getElem?_eq_some_iff.1 hC5).1; omega
    replace hx := hx.tr hx6
    replace hC3 := hx6.blk hC3 (fun h => h)
    replace hC5 := hx6.blk hC5 (fun h => h)
    replace hcM := own_ext hcM hx6
    replace he3 := own_ext he3 hx6
    replace hvb := own_ext hvb hx6
    replace hcq := own_ext hcq hx6
    replace heq := own_ext heq hx6
    refine WL.c rfl (o_alB TI32 ?_)
    intro w7 hC7 hx7 hs7
    obtain ⟨b7, hb7⟩ : ∃ b, b = w6.heap.size := ⟨_, rfl⟩
    rw [← hb7] at hC7 ⊢
    replace hC7 : w7.heap[b7]? = some (.cells ([.int .i64 0, .int .i64 0]).toArray 32 (0, 0)) := hC7
    have hg7 : w0.heap.size ≤ b7 := by have := hx.size; omega
    have hn_b3_7 : b3 < b7 := by have := (Array.getElem?_eq_some_iff.1 hC3).1; omega
    have hn_b5_7 : b5 < b7 := by have := (Array.getElem?_eq_some_iff.1 hC5).1; omega
    have hn_b6_7 : b6 < b7 := by have := (Array.getElem?_eq_some_iff.1 hC6).1; omega
    replace hx := hx.tr hx7
    replace hC3 := hx7.blk hC3 (fun h => h)
    replace hC5 := hx7.blk hC5 (fun h => h)
    replace hC6 := hx7.blk hC6 (fun h => h)
    replace hcM := own_ext hcM hx7
    replace he3 := own_ext he3 hx7
    replace hvb := own_ext hvb hx7
    replace hcq := own_ext hcq hx7
    replace heq := own_ext heq hx7
    refine WL.u (o_stA TI26 rfl (show _ = Value.agg (pgV (limP M 3) cq eq_).toArray from rfl) rfl (by simp [pgV, own_one hcq, own_one heq]; rfl) hC6 rfl ?_)
    intro w6t hBn hon hsn
    replace hx := hx.trans' hon (fun _ h => h) (fun k hk he => by omega)
    replace hcM := own_only hcM hon (fun k hk he => by subst he; exact own_off hcM hC6 (by decide) hk)
    replace he3 := own_only he3 hon (fun k hk he => by subst he; exact own_off he3 hC6 (by decide) hk)
    replace hvb := own_only hvb hon (fun k hk he => by subst he; exact own_off hvb hC6 (by decide) hk)
    replace hcq := own_only hcq hon (fun k hk he => by subst he; exact own_off hcq hC6 (by decide) hk)
    replace heq := own_only heq hon (fun k hk he => by subst he; exact own_off heq hC6 (by decide) hk)
    replace hC3 := hon.blk hC3 (by omega)
    replace hC5 := hon.blk hC5 (by omega)
    replace hC7 := hon.blk hC7 (by omega)
    clear hC6
    have hC6 := hBn
    clear hBn
    refine WL.u (o_stA TI32 rfl (show _ = Value.agg ([.int .i64 0, .int .i64 0]).toArray from rfl) rfl rfl hC7 rfl ?_)
    intro w7t hBn hon hsn
    replace hx := hx.trans' hon (fun _ h => h) (fun k hk he => by omega)
    replace hcM := own_only hcM hon (fun k hk he => by subst he; exact own_off hcM hC7 (by decide) hk)
    replace he3 := own_only he3 hon (fun k hk he => by subst he; exact own_off he3 hC7 (by decide) hk)
    replace hvb := own_only hvb hon (fun k hk he => by subst he; exact own_off hvb hC7 (by decide) hk)
    replace hcq := own_only hcq hon (fun k hk he => by subst he; exact own_off hcq hC7 (by decide) hk)
    replace heq := own_only heq hon (fun k hk he => by subst he; exact own_off heq hC7 (by decide) hk)
    replace hC3 := hon.blk hC3 (by omega)
    replace hC5 := hon.blk hC5 (by omega)
    replace hC6 := hon.blk hC6 (by omega)
    clear hC7
    have hC7 := hBn
    clear hBn
    refine WL.nil ?_
    refine W.seq ?_
    refine W.region ?_
    refine WL.c rfl (o_bsn (vs := [.int .u8 109, .int .u8 0, .int .u8 129, .int .u8 128, .int .u8 64]) (xs := [(.const (.int .u8 109)), (.const (.int .u8 0)), (.const (.int .u8 129)), (.const (.int .u8 128)), (.const (.int .u8 64))]) TI34 TI5 rfl (lc (show _ = Value.int _ _ from rfl) (lc (show _ = Value.int _ _ from rfl) (lc (show _ = Value.int _ _ from rfl) (lc (show _ = Value.int _ _ from rfl) (lc (show _ = Value.int _ _ from rfl) ln))))) rfl rfl (by decide) (by decide) ?_)
    have hT81 : By (w7t.alloc (.cells ([.int .u8 109, .int .u8 0, .int .u8 129, .int .u8 128, .int .u8 64] : List Value).toArray 5)) (.slice (some ⟨w7t.heap.size, 0, none⟩) 5 5) ([109, 0, 129, 128, 64] : List UInt8) := Sl.own (own_newN (w := w7t) (vs := [.int .u8 109, .int .u8 0, .int .u8 129, .int .u8 128, .int .u8 64]) (el := 5) (n := 5) rfl (by decide))
    have hxr : Ext w7t (w7t.alloc (.cells ([.int .u8 109, .int .u8 0, .int .u8 129, .int .u8 128, .int .u8 64] : List Value).toArray 5)) := Only.alloc w7t _
    obtain ⟨g81, hg81⟩ : ∃ g, g = w7t.heap.size := ⟨_, rfl⟩
    rw [← hg81] at hT81 ⊢
    generalize w7t.alloc (.cells ([.int .u8 109, .int .u8 0, .int .u8 129, .int .u8 128, .int .u8 64] : List Value).toArray 5) = w81 at hT81 hxr ⊢
    replace hx := hx.tr hxr
    replace hcM := own_ext hcM hxr
    replace he3 := own_ext he3 hxr
    replace hvb := own_ext hvb hxr
    replace hcq := own_ext hcq hxr
    replace heq := own_ext heq hxr
    replace hC3 := hxr.blk hC3 (fun h => h)
    replace hC5 := hxr.blk hC5 (fun h => h)
    replace hC6 := hxr.blk hC6 (fun h => h)
    replace hC7 := hxr.blk hC7 (fun h => h)
    refine WL.c rfl (o_call Tryd.call14 (lc rfl ln) ((decode_by ([109, 0, 129, 128, 64] : List UInt8) _ _ hT81 (by decide)).mono ?_))
    rw [lim_h]
    rintro v82 w82 ⟨cx, ex, rfl, hcx, hex, hx82⟩
    replace hx := hx.tr hx82
    replace hcM := own_ext hcM hx82
    replace he3 := own_ext he3 hx82
    replace hvb := own_ext hvb hx82
    replace hcq := own_ext hcq hx82
    replace heq := own_ext heq hx82
    replace hC3 := hx82.blk hC3 (fun h => h)
    replace hC5 := hx82.blk hC5 (fun h => h)
    replace hC6 := hx82.blk hC6 (fun h => h)
    replace hC7 := hx82.blk hC7 (fun h => h)
    refine WL.c rfl (o_mvh (by first | exact (show _ = Value.tuple _ from rfl) | exact rfl) ?_)
    refine WL.c rfl (o_ext rfl rfl ?_)
    refine WL.c rfl (o_ext rfl rfl ?_)
    refine WL.c rfl (o_alB TI26 ?_)
    intro w8 hC8 hx8 hs8
    obtain ⟨b8, hb8⟩ : ∃ b, b = w82.heap.size := ⟨_, rfl⟩
    rw [← hb8] at hC8 ⊢
    replace hC8 : w8.heap[b8]? = some (.cells ([.bool false, .slice none 0 0, .slice none 0 0]).toArray 26 (0, 0)) := hC8
    have hg8 : w0.heap.size ≤ b8 := by have := hx.size; omega
    have hn_b3_8 : b3 < b8 := by have := (Array.getElem?_eq_some_iff.1 hC3).1; omega
    have hn_b5_8 : b5 < b8 := by have := (Array.getElem?_eq_some_iff.1 hC5).1; omega
    have hn_b6_8 : b6 < b8 := by have := (Array.getElem?_eq_some_iff.1 hC6).1; omega
    have hn_b7_8 : b7 < b8 := by have := (Array.getElem?_eq_some_iff.1 hC7).1; omega
    replace hx := hx.tr hx8
    replace hC3 := hx8.blk hC3 (fun h => h)
    replace hC5 := hx8.blk hC5 (fun h => h)
    replace hC6 := hx8.blk hC6 (fun h => h)
    replace hC7 := hx8.blk hC7 (fun h => h)
    replace hcM := own_ext hcM hx8
    replace he3 := own_ext he3 hx8
    replace hvb := own_ext hvb hx8
    replace hcq := own_ext hcq hx8
    replace heq := own_ext heq hx8
    refine WL.c rfl (o_alB TI32 ?_)
    intro w9 hC9 hx9 hs9
    obtain ⟨b9, hb9⟩ : ∃ b, b = w8.heap.size := ⟨_, rfl⟩
    rw [← hb9] at hC9 ⊢
    replace hC9 : w9.heap[b9]? = some (.cells ([.int .i64 0, .int .i64 0]).toArray 32 (0, 0)) := hC9
    have hg9 : w0.heap.size ≤ b9 := by have := hx.size; omega
    have hn_b3_9 : b3 < b9 := by have := (Array.getElem?_eq_some_iff.1 hC3).1; omega
    have hn_b5_9 : b5 < b9 := by have := (Array.getElem?_eq_some_iff.1 hC5).1; omega
    have hn_b6_9 : b6 < b9 := by have := (Array.getElem?_eq_some_iff.1 hC6).1; omega
    have hn_b7_9 : b7 < b9 := by have := (Array.getElem?_eq_some_iff.1 hC7).1; omega
    have hn_b8_9 : b8 < b9 := by have := (Array.getElem?_eq_some_iff.1 hC8).1; omega
    replace hx := hx.tr hx9
    replace hC3 := hx9.blk hC3 (fun h => h)
    replace hC5 := hx9.blk hC5 (fun h => h)
    replace hC6 := hx9.blk hC6 (fun h => h)
    replace hC7 := hx9.blk hC7 (fun h => h)
    replace hC8 := hx9.blk hC8 (fun h => h)
    replace hcM := own_ext hcM hx9
    replace he3 := own_ext he3 hx9
    replace hvb := own_ext hvb hx9
    replace hcq := own_ext hcq hx9
    replace heq := own_ext heq hx9
    refine WL.u (o_stA TI26 rfl (show _ = Value.agg (pgV (decQ ([109, 0, 129, 128, 64] : List UInt8)) cx ex).toArray from rfl) rfl (by simp [pgV, own_one hcx, own_one hex]; rfl) hC8 rfl ?_)
    intro w8t hBn hon hsn
    replace hx := hx.trans' hon (fun _ h => h) (fun k hk he => by omega)
    replace hcM := own_only hcM hon (fun k hk he => by subst he; exact own_off hcM hC8 (by decide) hk)
    replace he3 := own_only he3 hon (fun k hk he => by subst he; exact own_off he3 hC8 (by decide) hk)
    replace hvb := own_only hvb hon (fun k hk he => by subst he; exact own_off hvb hC8 (by decide) hk)
    replace hcq := own_only hcq hon (fun k hk he => by subst he; exact own_off hcq hC8 (by decide) hk)
    replace heq := own_only heq hon (fun k hk he => by subst he; exact own_off heq hC8 (by decide) hk)
    replace hC3 := hon.blk hC3 (by omega)
    replace hC5 := hon.blk hC5 (by omega)
    replace hC6 := hon.blk hC6 (by omega)
    replace hC7 := hon.blk hC7 (by omega)
    replace hC9 := hon.blk hC9 (by omega)
    clear hC8
    have hC8 := hBn
    clear hBn
    refine WL.u (o_stA TI32 rfl (show _ = Value.agg ([.int .i64 ((4 : Nat) : Int), .int .i64 ((2 : Nat) : Int)]).toArray from rfl) rfl rfl hC9 rfl ?_)
    intro w9t hBn hon hsn
    replace hx := hx.trans' hon (fun _ h => h) (fun k hk he => by omega)
    replace hcM := own_only hcM hon (fun k hk he => by subst he; exact own_off hcM hC9 (by decide) hk)
    replace he3 := own_only he3 hon (fun k hk he => by subst he; exact own_off he3 hC9 (by decide) hk)
    replace hvb := own_only hvb hon (fun k hk he => by subst he; exact own_off hvb hC9 (by decide) hk)
    replace hcq := own_only hcq hon (fun k hk he => by subst he; exact own_off hcq hC9 (by decide) hk)
    replace heq := own_only heq hon (fun k hk he => by subst he; exact own_off heq hC9 (by decide) hk)
    replace hC3 := hon.blk hC3 (by omega)
    replace hC5 := hon.blk hC5 (by omega)
    replace hC6 := hon.blk hC6 (by omega)
    replace hC7 := hon.blk hC7 (by omega)
    replace hC8 := hon.blk hC8 (by omega)
    clear hC9
    have hC9 := hBn
    clear hBn
    refine WL.nil ?_
    refine W.seq ?_
    refine W.region ?_
    refine WL.c rfl (o_bsn (vs := [.int .u8 109, .int .u8 1, .int .u8 0, .int .u8 129, .int .u8 128, .int .u8 64]) (xs := [(.const (.int .u8 109)), (.const (.int .u8 1)), (.const (.int .u8 0)), (.const (.int .u8 129)), (.const (.int .u8 128)), (.const (.int .u8 64))]) TI34 TI5 rfl (lc (show _ = Value.int _ _ from rfl) (lc (show _ = Value.int _ _ from rfl) (lc (show _ = Value.int _ _ from rfl) (lc (show _ = Value.int _ _ from rfl) (lc (show _ = Value.int _ _ from rfl) (lc (show _ = Value.int _ _ from rfl) ln)))))) rfl rfl (by decide) (by decide) ?_)
    have hT86 : By (w9t.alloc (.cells ([.int .u8 109, .int .u8 1, .int .u8 0, .int .u8 129, .int .u8 128, .int .u8 64] : List Value).toArray 5)) (.slice (some ⟨w9t.heap.size, 0, none⟩) 6 6) ([109, 1, 0, 129, 128, 64] : List UInt8) := Sl.own (own_newN (w := w9t) (vs := [.int .u8 109, .int .u8 1, .int .u8 0, .int .u8 129, .int .u8 128, .int .u8 64]) (el := 5) (n := 6) rfl (by decide))
    have hxr : Ext w9t (w9t.alloc (.cells ([.int .u8 109, .int .u8 1, .int .u8 0, .int .u8 129, .int .u8 128, .int .u8 64] : List Value).toArray 5)) := Only.alloc w9t _
    obtain ⟨g86, hg86⟩ : ∃ g, g = w9t.heap.size := ⟨_, rfl⟩
    rw [← hg86] at hT86 ⊢
    generalize w9t.alloc (.cells ([.int .u8 109, .int .u8 1, .int .u8 0, .int .u8 129, .int .u8 128, .int .u8 64] : List Value).toArray 5) = w86 at hT86 hxr ⊢
    replace hx := hx.tr hxr
    replace hcM := own_ext hcM hxr
    replace he3 := own_ext he3 hxr
    replace hvb := own_ext hvb hxr
    replace hcq := own_ext hcq hxr
    replace heq := own_ext heq hxr
    replace hC3 := hxr.blk hC3 (fun h => h)
    replace hC5 := hxr.blk hC5 (fun h => h)
    replace hC6 := hxr.blk hC6 (fun h => h)
    replace hC7 := hxr.blk hC7 (fun h => h)
    replace hC9 := hxr.blk hC9 (fun h => h)
    refine WL.c rfl (o_call Tryd.call14 (lc rfl ln) ((decode_by ([109, 1, 0, 129, 128, 64] : List UInt8) _ _ hT86 (by decide)).mono ?_))
    rw [lim_i]
    rintro v87 w87 ⟨cy, ey, rfl, hcy, hey, hx87⟩
    replace hx := hx.tr hx87
    replace hcM := own_ext hcM hx87
    replace he3 := own_ext he3 hx87
    replace hvb := own_ext hvb hx87
    replace hcq := own_ext hcq hx87
    replace heq := own_ext heq hx87
    replace hC3 := hx87.blk hC3 (fun h => h)
    replace hC5 := hx87.blk hC5 (fun h => h)
    replace hC6 := hx87.blk hC6 (fun h => h)
    replace hC7 := hx87.blk hC7 (fun h => h)
    replace hC9 := hx87.blk hC9 (fun h => h)
    refine WL.c rfl (o_mvh (by first | exact (show _ = Value.tuple _ from rfl) | exact rfl) ?_)
    refine WL.c rfl (o_ext rfl rfl ?_)
    refine WL.c rfl (o_ext rfl rfl ?_)
    refine WL.c rfl (o_alB TI26 ?_)
    intro w10 hC10 hx10 hs10
    obtain ⟨b10, hb10⟩ : ∃ b, b = w87.heap.size := ⟨_, rfl⟩
    rw [← hb10] at hC10 ⊢
    replace hC10 : w10.heap[b10]? = some (.cells ([.bool false, .slice none 0 0, .slice none 0 0]).toArray 26 (0, 0)) := hC10
    have hg10 : w0.heap.size ≤ b10 := by have := hx.size; omega
    have hn_b3_10 : b3 < b10 := by have := (Array.getElem?_eq_some_iff.1 hC3).1; omega
    have hn_b5_10 : b5 < b10 := by have := (Array.getElem?_eq_some_iff.1 hC5).1; omega
    have hn_b6_10 : b6 < b10 := by have := (Array.getElem?_eq_some_iff.1 hC6).1; omega
    have hn_b7_10 : b7 < b10 := by have := (Array.getElem?_eq_some_iff.1 hC7).1; omega
    have hn_b9_10 : b9 < b10 := by have := (Array.getElem?_eq_some_iff.1 hC9).1; omega
    replace hx := hx.tr hx10
    replace hC3 := hx10.blk hC3 (fun h => h)
    replace hC5 := hx10.blk hC5 (fun h => h)
    replace hC6 := hx10.blk hC6 (fun h => h)
    replace hC7 := hx10.blk hC7 (fun h => h)
    replace hC9 := hx10.blk hC9 (fun h => h)
    replace hcM := own_ext hcM hx10
    replace he3 := own_ext he3 hx10
    replace hvb := own_ext hvb hx10
    replace hcq := own_ext hcq hx10
    replace heq := own_ext heq hx10
    refine WL.c rfl (o_alB TI32 ?_)
    intro w11 hC11 hx11 hs11
    obtain ⟨b11, hb11⟩ : ∃ b, b = w10.heap.size := ⟨_, rfl⟩
    rw [← hb11] at hC11 ⊢
    replace hC11 : w11.heap[b11]? = some (.cells ([.int .i64 0, .int .i64 0]).toArray 32 (0, 0)) := hC11
    have hg11 : w0.heap.size ≤ b11 := by have := hx.size; omega
    have hn_b3_11 : b3 < b11 := by have := (Array.getElem?_eq_some_iff.1 hC3).1; omega
    have hn_b5_11 : b5 < b11 := by have := (Array.getElem?_eq_some_iff.1 hC5).1; omega
    have hn_b6_11 : b6 < b11 := by have := (Array.getElem?_eq_some_iff.1 hC6).1; omega
    have hn_b7_11 : b7 < b11 := by have := (Array.getElem?_eq_some_iff.1 hC7).1; omega
    have hn_b9_11 : b9 < b11 := by have := (Array.getElem?_eq_some_iff.1 hC9).1; omega
    have hn_b10_11 : b10 < b11 := by have := (Array.getElem?_eq_some_iff.1 hC10).1; omega
    replace hx := hx.tr hx11
    replace hC3 := hx11.blk hC3 (fun h => h)
    replace hC5 := hx11.blk hC5 (fun h => h)
    replace hC6 := hx11.blk hC6 (fun h => h)
    replace hC7 := hx11.blk hC7 (fun h => h)
    replace hC9 := hx11.blk hC9 (fun h => h)
    replace hC10 := hx11.blk hC10 (fun h => h)
    replace hcM := own_ext hcM hx11
    replace he3 := own_ext he3 hx11
    replace hvb := own_ext hvb hx11
    replace hcq := own_ext hcq hx11
    replace heq := own_ext heq hx11
    refine WL.u (o_stA TI26 rfl (show _ = Value.agg (pgV (decQ ([109, 1, 0, 129, 128, 64] : List UInt8)) cy ey).toArray from rfl) rfl (by simp [pgV, own_one hcy, own_one hey]; rfl) hC10 rfl ?_)
    intro w10t hBn hon hsn
    replace hx := hx.trans' hon (fun _ h => h) (fun k hk he => by omega)
    replace hcM := own_only hcM hon (fun k hk he => by subst he; exact own_off hcM hC10 (by decide) hk)
    replace he3 := own_only he3 hon (fun k hk he => by subst he; exact own_off he3 hC10 (by decide) hk)
    replace hvb := own_only hvb hon (fun k hk he => by subst he; exact own_off hvb hC10 (by decide) hk)
    replace hcq := own_only hcq hon (fun k hk he => by subst he; exact own_off hcq hC10 (by decide) hk)
    replace heq := own_only heq hon (fun k hk he => by subst he; exact own_off heq hC10 (by decide) hk)
    replace hC3 := hon.blk hC3 (by omega)
    replace hC5 := hon.blk hC5 (by omega)
    replace hC6 := hon.blk hC6 (by omega)
    replace hC7 := hon.blk hC7 (by omega)
    replace hC9 := hon.blk hC9 (by omega)
    replace hC11 := hon.blk hC11 (by omega)
    clear hC10
    have hC10 := hBn
    clear hBn
    refine WL.u (o_stA TI32 rfl (show _ = Value.agg ([.int .i64 ((4 : Nat) : Int), .int .i64 ((3 : Nat) : Int)]).toArray from rfl) rfl rfl hC11 rfl ?_)
    intro w11t hBn hon hsn
    replace hx := hx.trans' hon (fun _ h => h) (fun k hk he => by omega)
    replace hcM := own_only hcM hon (fun k hk he => by subst he; exact own_off hcM hC11 (by decide) hk)
    replace he3 := own_only he3 hon (fun k hk he => by subst he; exact own_off he3 hC11 (by decide) hk)
    replace hvb := own_only hvb hon (fun k hk he => by subst he; exact own_off hvb hC11 (by decide) hk)
    replace hcq := own_only hcq hon (fun k hk he => by subst he; exact own_off hcq hC11 (by decide) hk)
    replace heq := own_only heq hon (fun k hk he => by subst he; exact own_off heq hC11 (by decide) hk)
    replace hC3 := hon.blk hC3 (by omega)
    replace hC5 := hon.blk hC5 (by omega)
    replace hC6 := hon.blk hC6 (by omega)
    replace hC7 := hon.blk hC7 (by omega)
    replace hC9 := hon.blk hC9 (by omega)
    replace hC10 := hon.blk hC10 (by omega)
    clear hC11
    have hC11 := hBn
    clear hBn
    refine WL.nil ?_
    refine W.seq ?_
    refine W.region ?_
    refine WL.c rfl (o_ldA TI32 rfl rfl (show Cells _ b5 0 [.int .i64 0, .int .i64 0] from Cells.of hC5 0 _ (by simp)) rfl ?_)
    refine WL.c rfl (o_call Tryd.call11 (lc rfl (lc rfl (lc rfl ln))) ((is_spec _ _ _ _ _).mono ?_))
    rintro v91 w91 ⟨rfl, hx91⟩
    replace hx := hx.tr hx91
    replace hcM := own_ext hcM hx91
    replace he3 := own_ext he3 hx91
    replace hvb := own_ext hvb hx91
    replace hcq := own_ext hcq hx91
    replace heq := own_ext heq hx91
    replace hC3 := hx91.blk hC3 (fun h => h)
    replace hC5 := hx91.blk hC5 (fun h => h)
    replace hC6 := hx91.blk hC6 (fun h => h)
    replace hC7 := hx91.blk hC7 (fun h => h)
    replace hC9 := hx91.blk hC9 (fun h => h)
    replace hC11 := hx91.blk hC11 (fun h => h)
    refine WL.c rfl (o_mvh (show _ = Value.bool _ from rfl) ?_)
    refine WL.g rfl (by decide) rfl (o_ldA TI32 rfl rfl (show Cells _ b7 0 [.int .i64 0, .int .i64 0] from Cells.of hC7 0 _ (by simp)) rfl ?_)
    refine WL.g rfl (by decide) rfl (o_call Tryd.call11 (lc rfl (lc rfl (lc rfl ln))) ((is_spec _ _ _ _ _).mono ?_))
    rintro v94 w94 ⟨rfl, hx94⟩
    replace hx := hx.tr hx94
    replace hcM := own_ext hcM hx94
    replace he3 := own_ext he3 hx94
    replace hvb := own_ext hvb hx94
    replace hcq := own_ext hcq hx94
    replace heq := own_ext heq hx94
    replace hC3 := hx94.blk hC3 (fun h => h)
    replace hC5 := hx94.blk hC5 (fun h => h)
    replace hC6 := hx94.blk hC6 (fun h => h)
    replace hC7 := hx94.blk hC7 (fun h => h)
    replace hC9 := hx94.blk hC9 (fun h => h)
    replace hC11 := hx94.blk hC11 (fun h => h)
    refine WL.c rfl (o_pickA rfl rfl ?_)
    refine WL.c rfl (o_mvh (show _ = Value.bool _ from rfl) ?_)
    refine WL.g rfl (by decide) rfl (o_ldA TI26 rfl h3 (show Cells _ b3 0 (pgV (limP M 3) (Value.slice (some ⟨g1, 0, none⟩) M N) (Value.slice (some ⟨g2, 0, none⟩) 3 N)) from Cells.of hC3 0 _ (by simp [pgV] <;> exact fun i v h => h)) rfl ?_)
    refine WL.g rfl (by decide) rfl (o_ldA TI26 rfl rfl (show Cells _ b6 0 (pgV (limP M 3) cq eq_) from Cells.of hC6 0 _ (by simp [pgV] <;> exact fun i v h => h)) rfl ?_)
    refine WL.g rfl (by decide) rfl (o_call Tryd.call15 (lc rfl (lc rfl ln)) ((equal_spec (limP M 3) (limP M 3) (Value.slice (some ⟨g1, 0, none⟩) M N) (Value.slice (some ⟨g2, 0, none⟩) 3 N) cq eq_ _ (limR hcM he3) ⟨Sl.own hcq, Sl.own heq⟩ (by simp [limP] <;> omega) (by simp [limP] <;> omega)).mono ?_))
    rintro v99 w99 ⟨rfl, hx99⟩
    replace hx := hx.tr hx99
    replace hcM := own_ext hcM hx99
    replace he3 := own_ext he3 hx99
    replace hvb := own_ext hvb hx99
    replace hcq := own_ext hcq hx99
    replace heq := own_ext heq hx99
    replace hC3 := hx99.blk hC3 (fun h => h)
    replace hC5 := hx99.blk hC5 (fun h => h)
    replace hC6 := hx99.blk hC6 (fun h => h)
    replace hC7 := hx99.blk hC7 (fun h => h)
    replace hC9 := hx99.blk hC9 (fun h => h)
    replace hC11 := hx99.blk hC11 (fun h => h)
    refine WL.c rfl (o_pickA rfl rfl ?_)
    refine WL.c rfl (o_mvh (show _ = Value.bool _ from rfl) ?_)
    refine WL.g rfl (by simp) rfl (o_mvh (by first | exact (show _ = Value.slice _ _ _ from rfl) | exact rfl) ?_)
    refine WL.g rfl (by simp) rfl (o_lenR TI34 rfl (Sl.own hvb) ?_)
    refine WL.g rfl (by simp) rfl (o_eq rfl rfl ?_)
    refine WL.c rfl (o_pickA rfl rfl ?_)
    refine WL.c rfl (o_mvh (show _ = Value.bool _ from rfl) ?_)
    refine WL.g rfl (by rw [hlay]; simp) rfl (o_ldA TI32 rfl rfl (show Cells _ b9 0 [.int .i64 ((4 : Nat) : Int), .int .i64 ((2 : Nat) : Int)] from Cells.of hC9 0 _ (by simp)) rfl ?_)
    refine WL.g rfl (by rw [hlay]; simp) rfl (o_call Tryd.call11 (lc rfl (lc rfl (lc rfl ln))) ((is_spec _ _ _ _ _).mono ?_))
    rintro v108 w108 ⟨rfl, hx108⟩
    replace hx := hx.tr hx108
    replace hcM := own_ext hcM hx108
    replace he3 := own_ext he3 hx108
    replace hvb := own_ext hvb hx108
    replace hcq := own_ext hcq hx108
    replace heq := own_ext heq hx108
    replace hC3 := hx108.blk hC3 (fun h => h)
    replace hC5 := hx108.blk hC5 (fun h => h)
    replace hC6 := hx108.blk hC6 (fun h => h)
    replace hC7 := hx108.blk hC7 (fun h => h)
    replace hC9 := hx108.blk hC9 (fun h => h)
    replace hC11 := hx108.blk hC11 (fun h => h)
    refine WL.c rfl (o_pickA rfl rfl ?_)
    refine WL.c rfl (o_mvh (show _ = Value.bool _ from rfl) ?_)
    refine WL.g rfl (by rw [hlay]; simp) rfl (o_ldA TI32 rfl rfl (show Cells _ b11 0 [.int .i64 ((4 : Nat) : Int), .int .i64 ((3 : Nat) : Int)] from Cells.of hC11 0 _ (by simp)) rfl ?_)
    refine WL.g rfl (by rw [hlay]; simp) rfl (o_call Tryd.call11 (lc rfl (lc rfl (lc rfl ln))) ((is_spec _ _ _ _ _).mono ?_))
    rintro v112 w112 ⟨rfl, hx112⟩
    replace hx := hx.tr hx112
    replace hcM := own_ext hcM hx112
    replace he3 := own_ext he3 hx112
    replace hvb := own_ext hvb hx112
    replace hcq := own_ext hcq hx112
    replace heq := own_ext heq hx112
    replace hC3 := hx112.blk hC3 (fun h => h)
    replace hC5 := hx112.blk hC5 (fun h => h)
    replace hC6 := hx112.blk hC6 (fun h => h)
    replace hC7 := hx112.blk hC7 (fun h => h)
    replace hC9 := hx112.blk hC9 (fun h => h)
    replace hC11 := hx112.blk hC11 (fun h => h)
    refine WL.c rfl (o_pickA rfl rfl ?_)
    refine WL.c rfl (o_ash (show _ = Value.bool _ from rfl) ?_)
    refine WL.nil ?_
    refine W.ret ?_
    refine ret1v rfl (show _ = Value.bool _ from rfl) ?_
    exact ⟨by rw [hlay]; simp, hx⟩
end Go.Proofs.YthlbhnefldaoiaaDoor

set_option linter.unusedSimpArgs false
set_option linter.unusedVariables false
namespace Go.Vc
open Go Go.RowKit Go.ChangeShapes Go.WideShapes

/-- its weights are within reach -/
def Small {H : Type} (P : Program) (t : TypeId) (d : DataW H) : Prop := ∀ n ∈ d.weights P t, n ≤ reachBytes
theorem Small.top {H : Type} {P : Program} {ts : List TypeId} {ds : List (DataW H)} {j : Nat} {t : TypeId} {d : DataW H} (h : (DataW.weightsEach P ts ds).all (· ≤ reachBytes) = true) (ht : ts[j]? = some t) (hd : ds[j]? = some d) : Small P t d := fun n hn => by
  have := List.all_eq_true.1 h _ (DataW.weights_mem_each ht hd n hn)
  simpa using this
theorem Small.size {H : Type} {P : Program} {t e : TypeId} {elems spare : List (DataW H)} (h : Small P t (.slice elems spare)) (hu : P.underlying t = some (.slice e)) : (elems.length + spare.length) * P.bytesOf e ≤ reachBytes :=
  h _ (by simp only [DataW.weights, hu]; exact List.mem_cons_self ..)
theorem Small.part {H : Type} {P : Program} {t u : TypeId} {fs : Array Field} {parts : List (DataW H)} {i : Nat} {d : DataW H} (h : Small P t (.agg parts)) (hu : P.underlying t = some (.struct fs)) (hf : (fs.toList.map (·.type))[i]? = some u) (hd : parts[i]? = some d) : Small P u d := fun n hn =>
  h n (by simp only [DataW.weights, hu]; exact DataW.weights_mem_each hf hd n hn)
section
variable {H : Type} {enc : TypeId × Value → H} {P : Program} {W : World} {held : Bool}
end
end Go.Vc
