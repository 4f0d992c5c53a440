/-
  Walks and lemmas. Written by program out of specs of mine.
-/
import Derived.WalkKit
import Derived.WalkSpells
import Derived.WalkLawsBesides
import Derived.Deep.Quiet
import Derived.StillTail
import Derived.StringKeys
import Derived.Laws.StructEq
import Derived.Laws.Externs
import Derived.Laws.Tables
import Derived.Scope
import Derived.Test.YtcljkkfpcomdcaaProg
import Derived.Laws.AppendOwn
import Derived.Maps.AppendAt
import Derived.Recover
import Derived.Lib.Bytealg
import Derived.SizedLaws
import Derived.ChangeArms
import Derived.ChangeSlices
import Derived.Test.YtcljkkfpcomdcaaRows
import Derived.ProofKit
import Derived.OpenShut
import Derived.ShutString
import Derived.ChangeOld
import Derived.Below
import Derived.Test.YtcljkkfpcomdcaaJo4
set_option linter.unusedSimpArgs false
set_option linter.unusedVariables false
set_option maxRecDepth 100000
set_option linter.unusedSimpArgs false
set_option linter.unusedVariables false
set_option maxRecDepth 100000
namespace Go.Proofs.Ytcljkkfpcomdcaa
open Go Go.Vc Go.RowKit Go.Proofs

theorem drows_app (D E : List Df) (V U : Nat → Value) : drows (D ++ E) (fun j => if j < D.length then V j else U (j - D.length)) = drows D V ++ drows E U := by
  have h : ∀ n, n ≤ E.length → ((List.range (D.length + n)).flatMap fun j => dcell ((D ++ E).getD j df0) (if j < D.length then V j else U (j - D.length))) = drows D V ++ (List.range n).flatMap fun j => dcell (E.getD j df0) (U j) := by
    intro n
    induction n with
    | zero =>
      intro _
      rw [Nat.add_zero, List.range_zero, List.flatMap_nil, List.append_nil, drows]
      exact dfm_congr fun j hj => by
        have := List.mem_range.1 hj
        rw [if_pos this]
        simp [List.getD_eq_getElem?_getD, List.getElem?_append_left this]
    | succ n ih =>
      intro hn
      rw [← Nat.add_assoc, List.range_succ, List.flatMap_append, ih (by omega), List.range_succ, List.flatMap_append, List.append_assoc, List.flatMap_singleton, List.flatMap_singleton, if_neg (by omega), Nat.add_sub_cancel_left]
      congr 2
      simp [List.getD_eq_getElem?_getD, List.getElem?_append_right]
  have := h E.length (Nat.le_refl _)
  rw [drows, List.length_append]
  exact this
theorem defR_app {w : World} {D E : List Df} {dv1 dv2 v : Value} {V U : Nat → Value} (h1 : DefR w D dv1 V) (h2 : DefR w E dv2 U) (hr : Sl w 3 v (D.length + E.length) (drows D V ++ drows E U)) : DefR w (D ++ E) v (fun j => if j < D.length then V j else U (j - D.length)) := by
  refine ⟨by rw [drows_app, List.length_append]; exact hr, fun j hj => ?_⟩
  rw [List.length_append] at hj
  by_cases hl : j < D.length
  · simp only [if_pos hl]
    rw [show tyD (D ++ E) j = tyD D j by simp [tyD, List.getD_eq_getElem?_getD, List.getElem?_append_left hl]]
    exact h1.tys j hl
  · simp only [if_neg hl]
    rw [show tyD (D ++ E) j = tyD E (j - D.length) by simp [tyD, List.getD_eq_getElem?_getD, List.getElem?_append_right (by omega : D.length ≤ j)]]
    exact h2.tys (j - D.length) (by omega)
theorem own_new0 {w : World} {el s : Nat} : (w.alloc (.cells #[] el)).ownsRow w.heap.size el s (.slice (some ⟨w.heap.size, 0, none⟩) 0 0) 0 [] :=
  ⟨by simp, .inr ⟨w.heap.size, 0, #[], rfl, Nat.le_refl _, heap_alloc_new w _, Nat.le_refl _, by decide, by simp, by simp⟩⟩
theorem one_drows {D : List Df} {V : Nat → Value} (h : ∀ j, j < D.length → (V j).oneCell' = true) : ∀ a ∈ drows D V, a.oneCell' = true := by
  intro a ha
  obtain ⟨j, hj, hx⟩ := List.mem_flatMap.1 ha
  have := h j (List.mem_range.1 hj)
  simp only [dcell, List.mem_cons, List.not_mem_nil, or_false] at hx
  rcases hx with rfl | rfl | rfl
  · rfl
  · rfl
  · exact this


theorem Defs.off {w : World} {H : Nat} {D : List Df} {dv : Value} {V : Nat → Value} (h : Defs w H D dv V) {b : Nat} {cs : Array Value} {fr : Nat × Nat} (hB : w.heap[b]? = some (.cells cs 28 fr)) : ∀ k, DF dv V D.length k → ¬ k = b := fun k hk he => by
  subst he
  rcases hk with hk | ⟨j, hj, hk⟩
  · exact own_off h.row hB (by decide) hk
  · exact own_off (h.tys.row j hj) hB (by decide) hk

set_option maxHeartbeats 4000000 in
theorem joins_walk0 (w0 : World) (a b : List UInt8) (hla : a.length ≤ 140737488355328) (hlb : b.length ≤ 140737488355328) : Ca Try.prog 8 #[st a, st b] w0 (fun v w' => v = .bool true ∧ Ext w0 w') := by
  have hx : Ext w0 w0 := Only.refl _ _
  refine Ca.of Try.func8 Try.ntmps8 rfl rfl ?_
  refine W.seq ?_
  refine W.region ?_
  refine WL.c rfl (o_ash (show _ = Value.bool _ from rfl) ?_)
  refine WL.nil ?_
  refine W.seq ?_
  refine W.seq ?_
  refine W.region ?_
  refine WL.c rfl (o_call Try.call11 ln ((first_spec _).mono ?_))
  rintro v16 w16 ⟨rfl, hx16⟩
  replace hx := hx.tr hx16
  refine WL.c rfl (o_not' rfl ?_)
  refine WL.nil ?_
  refine W.condF' rfl (rfl) ?_
  refine W.skip ?_
  refine W.seq ?_
  refine W.region ?_
  refine WL.c rfl (o_mvh (show _ = Value.string _ from rfl) ?_)
  refine WL.c rfl (o_addT rfl rfl (by simp; omega) ?_)
  refine WL.c rfl (o_mvh (show _ = Value.string _ from rfl) ?_)
  refine WL.c rfl (o_addT rfl rfl (by simp; omega) ?_)
  rw [show (a ++ [10]) ++ b = a ++ 10 :: b by simp]
  obtain ⟨ab, hab⟩ : ∃ ab, ab = a ++ 10 :: b := ⟨_, rfl⟩
  rw [← hab]
  have hlab : ab.length = a.length + 1 + b.length := by rw [hab]; simp; omega
  refine WL.c rfl (o_ash (show _ = Value.string _ from rfl) ?_)
  refine WL.nil ?_
  refine W.seq ?_
  refine W.region ?_
  refine WL.c rfl (o_mvh (show _ = Value.string _ from rfl) ?_)
  refine WL.c rfl (o_call Try.call19 (lc rfl ln) ((parse_spec a _ (by omega)).mono ?_))
  rintro v24 w24 ⟨dv24, V24, rfl, hD24, hxp24⟩
  replace hx := hx.tr hxp24
  refine WL.c rfl (o_mvh (by first | exact (show _ = Value.tuple _ from rfl) | exact rfl) ?_)
  refine WL.c rfl (o_ext rfl rfl ?_)
  refine WL.c rfl (o_ext rfl rfl ?_)
  refine WL.c rfl (o_alB TI28 ?_)
  intro wa hCs hxs hss
  refine WL.c rfl (o_alB TI49 ?_)
  intro wb hCf hxf hsf
  replace hCs := hxf.blk hCs (fun h => h)
  refine WL.u (o_stA TI28 rfl (show _ = Value.agg #[dv24] from rfl) rfl (by simp [own_one hD24.row]) hCs rfl ?_)
  intro wc hB6 hos hsz
  replace hCf := hos.blk hCf (by omega)
  refine WL.u (o_stA TI49 rfl (show _ = Value.agg (faultV (parseA a).2.1 (parseA a).2.2) from rfl) rfl rfl hCf rfl ?_)
  intro w7z hB7 hof hsz2
  replace hB6 := hof.blk hB6 (by omega)
  have hxn : Ext w24 w7z := ((hxs.tr hxf).trans' hos (fun _ h => h) (fun k hk he => by omega)).trans' hof (fun _ h => h) (fun k hk he => by omega)
  obtain ⟨b6, hb6⟩ : ∃ b, b = w24.heap.size := ⟨_, rfl⟩
  obtain ⟨b7, hb7⟩ : ∃ b, b = wa.heap.size := ⟨_, rfl⟩
  rw [← hb6] at hB6 ⊢
  rw [← hb7] at hB7 ⊢
  clear hCs hCf hos hof
  replace hx := hx.tr hxn
  replace hD24 := hD24.ext hxn
  clear hxn
  refine WL.nil ?_
  refine W.seq ?_
  refine W.region ?_
  refine WL.c rfl (o_mvh (show _ = Value.string _ from rfl) ?_)
  refine WL.c rfl (o_call Try.call19 (lc rfl ln) ((parse_spec b _ (by omega)).mono ?_))
  rintro v29 w29 ⟨dv29, V29, rfl, hD29, hxp29⟩
  replace hx := hx.tr hxp29
  replace hB6 := hxp29.blk hB6 (fun h => h)
  replace hB7 := hxp29.blk hB7 (fun h => h)
  replace hD24 := hD24.ext hxp29
  refine WL.c rfl (o_mvh (by first | exact (show _ = Value.tuple _ from rfl) | exact rfl) ?_)
  refine WL.c rfl (o_ext rfl rfl ?_)
  refine WL.c rfl (o_ext rfl rfl ?_)
  refine WL.c rfl (o_alB TI28 ?_)
  intro wa hCs hxs hss
  refine WL.c rfl (o_alB TI49 ?_)
  intro wb hCf hxf hsf
  replace hCs := hxf.blk hCs (fun h => h)
  refine WL.u (o_stA TI28 rfl (show _ = Value.agg #[dv29] from rfl) rfl (by simp [own_one hD29.row]) hCs rfl ?_)
  intro wc hB8 hos hsz
  replace hCf := hos.blk hCf (by omega)
  refine WL.u (o_stA TI49 rfl (show _ = Value.agg (faultV (parseA b).2.1 (parseA b).2.2) from rfl) rfl rfl hCf rfl ?_)
  intro w9z hB9 hof hsz2
  replace hB8 := hof.blk hB8 (by omega)
  have hxn : Ext w29 w9z := ((hxs.tr hxf).trans' hos (fun _ h => h) (fun k hk he => by omega)).trans' hof (fun _ h => h) (fun k hk he => by omega)
  obtain ⟨b8, hb8⟩ : ∃ b, b = w29.heap.size := ⟨_, rfl⟩
  obtain ⟨b9, hb9⟩ : ∃ b, b = wa.heap.size := ⟨_, rfl⟩
  rw [← hb8] at hB8 ⊢
  rw [← hb9] at hB9 ⊢
  clear hCs hCf hos hof
  replace hx := hx.tr hxn
  replace hB6 := hxn.blk hB6 (fun h => h)
  replace hB7 := hxn.blk hB7 (fun h => h)
  replace hD24 := hD24.ext hxn
  replace hD29 := hD29.ext hxn
  clear hxn
  refine WL.nil ?_
  refine W.seq ?_
  refine W.region ?_
  refine WL.c rfl (o_mvh (show _ = Value.string _ from rfl) ?_)
  refine WL.c rfl (o_call Try.call19 (lc rfl ln) ((parse_spec ab _ (by omega)).mono ?_))
  rintro v34 w34 ⟨dv34, V34, rfl, hD34, hxp34⟩
  replace hx := hx.tr hxp34
  replace hB6 := hxp34.blk hB6 (fun h => h)
  replace hB7 := hxp34.blk hB7 (fun h => h)
  replace hD24 := hD24.ext hxp34
  replace hB8 := hxp34.blk hB8 (fun h => h)
  replace hB9 := hxp34.blk hB9 (fun h => h)
  replace hD29 := hD29.ext hxp34
  refine WL.c rfl (o_mvh (by first | exact (show _ = Value.tuple _ from rfl) | exact rfl) ?_)
  refine WL.c rfl (o_ext rfl rfl ?_)
  refine WL.c rfl (o_ext rfl rfl ?_)
  refine WL.c rfl (o_alB TI28 ?_)
  intro wa hCs hxs hss
  refine WL.c rfl (o_alB TI49 ?_)
  intro wb hCf hxf hsf
  replace hCs := hxf.blk hCs (fun h => h)
  refine WL.u (o_stA TI28 rfl (show _ = Value.agg #[dv34] from rfl) rfl (by simp [own_one hD34.row]) hCs rfl ?_)
  intro wc hB10 hos hsz
  replace hCf := hos.blk hCf (by omega)
  refine WL.u (o_stA TI49 rfl (show _ = Value.agg (faultV (parseA ab).2.1 (parseA ab).2.2) from rfl) rfl rfl hCf rfl ?_)
  intro w11z hB11 hof hsz2
  replace hB10 := hof.blk hB10 (by omega)
  have hxn : Ext w34 w11z := ((hxs.tr hxf).trans' hos (fun _ h => h) (fun k hk he => by omega)).trans' hof (fun _ h => h) (fun k hk he => by omega)
  obtain ⟨b10, hb10⟩ : ∃ b, b = w34.heap.size := ⟨_, rfl⟩
  obtain ⟨b11, hb11⟩ : ∃ b, b = wa.heap.size := ⟨_, rfl⟩
  rw [← hb10] at hB10 ⊢
  rw [← hb11] at hB11 ⊢
  clear hCs hCf hos hof
  replace hx := hx.tr hxn
  replace hB6 := hxn.blk hB6 (fun h => h)
  replace hB7 := hxn.blk hB7 (fun h => h)
  replace hD24 := hD24.ext hxn
  replace hB8 := hxn.blk hB8 (fun h => h)
  replace hB9 := hxn.blk hB9 (fun h => h)
  replace hD29 := hD29.ext hxn
  replace hD34 := hD34.ext hxn
  clear hxn
  have hj := fun hl => parse_joins (a := a) (b := b) hl
  rw [← hab] at hj
  have hok1 := (parse_ok a)
  have hok2 := (parse_ok b)
  have hok3 := (parse_ok ab)
  have hln1 := hok1.len
  have hln2 := hok2.len
  have hle2 := parseA_le b
  have hP0 : ∀ s : List UInt8, (((parseA s).2.1 : Nat) : Int) = 0 ↔ (parseA s).2.1 = 0 := fun s => by omega
  obtain ⟨A, hA⟩ : ∃ A, A = parseA a := ⟨_, rfl⟩
  obtain ⟨B, hB⟩ : ∃ B, B = parseA b := ⟨_, rfl⟩
  obtain ⟨C, hC⟩ : ∃ C, C = parseA ab := ⟨_, rfl⟩
  rw [← hA] at hok1 hln1 hD24 hB7
  rw [← hB] at hok2 hln2 hle2 hD29 hB9
  rw [← hC] at hok3 hD34 hB11
  rw [← hA, ← hB, ← hC] at hj
  refine WL.nil ?_
  refine W.seq ?_
  refine W.seq ?_
  rcases Nat.lt_or_ge 65536 ab.length with hl | hl
  rotate_left
  rcases Nat.eq_zero_or_pos A.2.1 with he | he
  rotate_left
  rcases Classical.em (A.2.2 = a.length) with hat | hat
  · skip
    skip
    refine W.region ?_
    refine WL.c rfl (o_mvh (show _ = Value.string _ from rfl) ?_)
    refine WL.c rfl (o_lenT TI9 rfl ?_)
    refine WL.c rfl (o_gt rfl rfl ?_)
    refine WL.c rfl (o_mvh (show _ = Value.bool _ from rfl) ?_)
    refine WL.g rfl (decide_eq_false (by omega)) rfl (o_fa 0 TI49 rfl TI32 rfl rfl ?_)
    refine WL.g rfl (decide_eq_false (by omega)) rfl (o_ld TI32 rfl rfl (cell_of hB7 rfl) ?_)
    refine WL.g rfl (decide_eq_false (by omega)) rfl (o_ne rfl rfl ?_)
    refine WL.g rfl (decide_eq_false (by omega)) rfl (o_mvh (show _ = Value.bool _ from rfl) ?_)
    refine WL.g rfl (by simp; omega) rfl (o_fa 1 TI49 rfl TI3 rfl rfl ?_)
    refine WL.g rfl (by simp; omega) rfl (o_ld TI3 rfl rfl (cell_of hB7 rfl) ?_)
    refine WL.g rfl (by simp; omega) rfl (o_mvh (show _ = Value.string _ from rfl) ?_)
    refine WL.g rfl (by simp; omega) rfl (o_lenT TI9 rfl ?_)
    refine WL.g rfl (by simp; omega) rfl (o_eq rfl rfl ?_)
    refine WL.g rfl (decide_eq_false (by omega)) rfl (o_pickA rfl rfl ?_)
    refine WL.c rfl (o_pickO rfl rfl ?_)
    refine WL.nil ?_
    refine W.condT' rfl (by simp; omega) ?_
    refine W.seq ?_
    refine W.region ?_
    refine WL.c rfl (o_ash (show _ = Value.bool _ from rfl) ?_)
    refine WL.nil ?_
    refine W.ret ?_
    refine ret1v rfl (show _ = Value.bool _ from rfl) ?_
    exact ⟨rfl, hx⟩
  · skip
    replace he : A.2.1 ≠ 0 := by omega
    refine W.region ?_
    refine WL.c rfl (o_mvh (show _ = Value.string _ from rfl) ?_)
    refine WL.c rfl (o_lenT TI9 rfl ?_)
    refine WL.c rfl (o_gt rfl rfl ?_)
    refine WL.c rfl (o_mvh (show _ = Value.bool _ from rfl) ?_)
    refine WL.g rfl (decide_eq_false (by omega)) rfl (o_fa 0 TI49 rfl TI32 rfl rfl ?_)
    refine WL.g rfl (decide_eq_false (by omega)) rfl (o_ld TI32 rfl rfl (cell_of hB7 rfl) ?_)
    refine WL.g rfl (decide_eq_false (by omega)) rfl (o_ne rfl rfl ?_)
    refine WL.g rfl (decide_eq_false (by omega)) rfl (o_mvh (show _ = Value.bool _ from rfl) ?_)
    refine WL.g rfl (by simp; omega) rfl (o_fa 1 TI49 rfl TI3 rfl rfl ?_)
    refine WL.g rfl (by simp; omega) rfl (o_ld TI3 rfl rfl (cell_of hB7 rfl) ?_)
    refine WL.g rfl (by simp; omega) rfl (o_mvh (show _ = Value.string _ from rfl) ?_)
    refine WL.g rfl (by simp; omega) rfl (o_lenT TI9 rfl ?_)
    refine WL.g rfl (by simp; omega) rfl (o_eq rfl rfl ?_)
    refine WL.g rfl (decide_eq_false (by omega)) rfl (o_pickA rfl rfl ?_)
    refine WL.c rfl (o_pickO rfl rfl ?_)
    refine WL.nil ?_
    refine W.condF' rfl (by simp; omega) ?_
    refine W.skip ?_
    refine W.seq ?_
    refine W.region ?_
    refine WL.c rfl (o_mvh (show _ = Value.string _ from rfl) ?_)
    refine WL.c rfl (o_call Try.call21 (lc rfl ln) ((cut_spec ab _ (by omega)).mono ?_))
    rintro v54 w54 ⟨v54, rfl, hT54, hx54⟩
    replace hx := hx.tr hx54
    replace hB6 := hx54.blk hB6 (fun h => h)
    replace hB7 := hx54.blk hB7 (fun h => h)
    replace hD24 := hD24.ext hx54
    replace hB8 := hx54.blk hB8 (fun h => h)
    replace hB9 := hx54.blk hB9 (fun h => h)
    replace hD29 := hD29.ext hx54
    replace hB10 := hx54.blk hB10 (fun h => h)
    replace hB11 := hx54.blk hB11 (fun h => h)
    replace hD34 := hD34.ext hx54
    refine WL.c rfl (o_mvh (by first | exact (show _ = Value.tuple _ from rfl) | exact rfl) ?_)
    refine WL.c rfl (o_ext rfl rfl ?_)
    refine WL.c rfl (o_ext rfl rfl ?_)
    refine WL.c rfl (o_alB TI49 ?_)
    intro wa hCa hxa hsa
    refine WL.c rfl (o_ash (by first | exact (show _ = Value.slice _ _ _ from rfl) | exact rfl) ?_)
    refine WL.u (o_stA TI49 rfl (show _ = Value.agg (faultV (cutA ab).2.1 (cutA ab).2.2) from rfl) rfl rfl hCa rfl ?_)
    intro w13z hB13 hob hsb
    have hxb := Ext.own hxa (Nat.le_refl _) hob
    obtain ⟨b13, hb13⟩ : ∃ c, c = w54.heap.size := ⟨_, rfl⟩
    rw [← hb13] at hB13 ⊢
    clear hCa hxa hsa hob hsb
    replace hx := hx.tr hxb
    replace hB6 := hxb.blk hB6 (fun h => h)
    replace hB7 := hxb.blk hB7 (fun h => h)
    replace hD24 := hD24.ext hxb
    replace hB8 := hxb.blk hB8 (fun h => h)
    replace hB9 := hxb.blk hB9 (fun h => h)
    replace hD29 := hD29.ext hxb
    replace hB10 := hxb.blk hB10 (fun h => h)
    replace hB11 := hxb.blk hB11 (fun h => h)
    replace hD34 := hD34.ext hxb
    clear hxb
    refine WL.nil ?_
    refine W.seq ?_
    refine W.seq ?_
    refine W.region ?_
    refine WL.c rfl (o_fa 0 TI49 rfl TI32 rfl rfl ?_)
    refine WL.c rfl (o_ld TI32 rfl rfl (cell_of hB13 rfl) ?_)
    refine WL.c rfl (o_ne rfl rfl ?_)
    refine WL.nil ?_
    refine W.cond rfl (fun c59 => ?_) (fun c59 => ?_)
    · try simp only [decide_eq_true_eq, decide_eq_false_iff_not, Bool.not_eq_true', Bool.not_eq_false', Bool.and_eq_true, Bool.or_eq_true, Bool.and_eq_false_iff, Bool.or_eq_false_iff] at c59
      have hcz : ¬ (cutA ab).2.1 = 0 := by omega
      obtain ⟨-, hcc⟩ := (hj hl).resolve_right (fun h => hcz (by rw [h.1]))
      refine W.seq ?_
      refine W.region ?_
      refine WL.c rfl (o_ldA TI49 rfl rfl (cells_all hB11) rfl ?_)
      refine WL.c rfl (o_ldA TI49 rfl rfl (cells_all hB13) rfl ?_)
      refine WL.c rfl (o_eqR TI49 (by kernel_rfl) (by kernel_rfl) rfl rfl (.int TI32 (by decide) rfl rfl (.int TI3 (by decide) rfl rfl .nil)) ?_)
      refine WL.c rfl (o_ash (show _ = Value.bool _ from rfl) ?_)
      refine WL.nil ?_
      refine W.ret ?_
      refine ret1v rfl (show _ = Value.bool _ from rfl) ?_
      exact ⟨congrArg Value.bool (by rw [hcc]; simp), hx⟩
    · try simp only [decide_eq_true_eq, decide_eq_false_iff_not, Bool.not_eq_true', Bool.not_eq_false', Bool.and_eq_true, Bool.or_eq_true, Bool.and_eq_false_iff, Bool.or_eq_false_iff] at c59
      have hcz : (cutA ab).2.1 = 0 := by omega
      obtain ⟨hc2, j1, j2, j3, j4⟩ := (hj hl).resolve_left (fun h => h.1 hcz)
      refine W.skip ?_
      refine W.seq ?_
      refine W.seq ?_
      refine W.region ?_
      refine WL.c rfl (o_fa 0 TI49 rfl TI32 rfl rfl ?_)
      refine WL.c rfl (o_ld TI32 rfl rfl (cell_of hB7 rfl) ?_)
      refine WL.c rfl (o_ne rfl rfl ?_)
      refine WL.nil ?_
      refine W.condT' rfl (by simp; omega) ?_
      refine W.seq ?_
      have hcc := j1 he hat
      refine W.region ?_
      refine WL.c rfl (o_ldA TI49 rfl rfl (cells_all hB11) rfl ?_)
      refine WL.c rfl (o_ldA TI49 rfl rfl (cells_all hB7) rfl ?_)
      refine WL.c rfl (o_eqR TI49 (by kernel_rfl) (by kernel_rfl) rfl rfl (.int TI32 (by decide) rfl rfl (.int TI3 (by decide) rfl rfl .nil)) ?_)
      refine WL.c rfl (o_ash (show _ = Value.bool _ from rfl) ?_)
      refine WL.nil ?_
      refine W.ret ?_
      refine ret1v rfl (show _ = Value.bool _ from rfl) ?_
      exact ⟨congrArg Value.bool (by rw [hcc]; simp), hx⟩
  · skip
    skip
    refine W.region ?_
    refine WL.c rfl (o_mvh (show _ = Value.string _ from rfl) ?_)
    refine WL.c rfl (o_lenT TI9 rfl ?_)
    refine WL.c rfl (o_gt rfl rfl ?_)
    refine WL.c rfl (o_mvh (show _ = Value.bool _ from rfl) ?_)
    refine WL.s rfl (decide_eq_true (by omega)) rfl ?_
    refine WL.s rfl (decide_eq_true (by omega)) rfl ?_
    refine WL.s rfl (decide_eq_true (by omega)) rfl ?_
    refine WL.s rfl (decide_eq_true (by omega)) rfl ?_
    refine WL.z rfl rfl ?_
    refine WL.z rfl rfl ?_
    refine WL.z rfl rfl ?_
    refine WL.z rfl rfl ?_
    refine WL.z rfl rfl ?_
    refine WL.s rfl (decide_eq_true (by omega)) rfl ?_
    refine WL.c rfl (o_pickT rfl (decide_eq_true (by omega)) ?_)
    refine WL.nil ?_
    refine W.condT' rfl (by simp) ?_
    refine W.seq ?_
    refine W.region ?_
    refine WL.c rfl (o_ash (show _ = Value.bool _ from rfl) ?_)
    refine WL.nil ?_
    refine W.ret ?_
    refine ret1v rfl (show _ = Value.bool _ from rfl) ?_
    exact ⟨rfl, hx⟩
  · skip
    skip
    refine W.region ?_
    refine WL.c rfl (o_mvh (show _ = Value.string _ from rfl) ?_)
    refine WL.c rfl (o_lenT TI9 rfl ?_)
    refine WL.c rfl (o_gt rfl rfl ?_)
    refine WL.c rfl (o_mvh (show _ = Value.bool _ from rfl) ?_)
    refine WL.g rfl (decide_eq_false (by omega)) rfl (o_fa 0 TI49 rfl TI32 rfl rfl ?_)
    refine WL.g rfl (decide_eq_false (by omega)) rfl (o_ld TI32 rfl rfl (cell_of hB7 rfl) ?_)
    refine WL.g rfl (decide_eq_false (by omega)) rfl (o_ne rfl rfl ?_)
    refine WL.g rfl (decide_eq_false (by omega)) rfl (o_mvh (show _ = Value.bool _ from rfl) ?_)
    refine WL.s rfl (by simp; omega) rfl ?_
    refine WL.s rfl (by simp; omega) rfl ?_
    refine WL.s rfl (by simp; omega) rfl ?_
    refine WL.s rfl (by simp; omega) rfl ?_
    refine WL.s rfl (by simp; omega) rfl ?_
    refine WL.g rfl (decide_eq_false (by omega)) rfl (o_pickF rfl (by simp; omega) ?_)
    refine WL.c rfl (o_pickO rfl rfl ?_)
    refine WL.nil ?_
    refine W.condF' rfl (by simp; omega) ?_
    refine W.skip ?_
    refine W.seq ?_
    refine W.region ?_
    refine WL.c rfl (o_mvh (show _ = Value.string _ from rfl) ?_)
    refine WL.c rfl (o_call Try.call21 (lc rfl ln) ((cut_spec ab _ (by omega)).mono ?_))
    rintro v54 w54 ⟨v54, rfl, hT54, hx54⟩
    replace hx := hx.tr hx54
    replace hB6 := hx54.blk hB6 (fun h => h)
    replace hB7 := hx54.blk hB7 (fun h => h)
    replace hD24 := hD24.ext hx54
    replace hB8 := hx54.blk hB8 (fun h => h)
    replace hB9 := hx54.blk hB9 (fun h => h)
    replace hD29 := hD29.ext hx54
    replace hB10 := hx54.blk hB10 (fun h => h)
    replace hB11 := hx54.blk hB11 (fun h => h)
    replace hD34 := hD34.ext hx54
    refine WL.c rfl (o_mvh (by first | exact (show _ = Value.tuple _ from rfl) | exact rfl) ?_)
    refine WL.c rfl (o_ext rfl rfl ?_)
    refine WL.c rfl (o_ext rfl rfl ?_)
    refine WL.c rfl (o_alB TI49 ?_)
    intro wa hCa hxa hsa
    refine WL.c rfl (o_ash (by first | exact (show _ = Value.slice _ _ _ from rfl) | exact rfl) ?_)
    refine WL.u (o_stA TI49 rfl (show _ = Value.agg (faultV (cutA ab).2.1 (cutA ab).2.2) from rfl) rfl rfl hCa rfl ?_)
    intro w13z hB13 hob hsb
    have hxb := Ext.own hxa (Nat.le_refl _) hob
    obtain ⟨b13, hb13⟩ : ∃ c, c = w54.heap.size := ⟨_, rfl⟩
    rw [← hb13] at hB13 ⊢
    clear hCa hxa hsa hob hsb
    replace hx := hx.tr hxb
    replace hB6 := hxb.blk hB6 (fun h => h)
    replace hB7 := hxb.blk hB7 (fun h => h)
    replace hD24 := hD24.ext hxb
    replace hB8 := hxb.blk hB8 (fun h => h)
    replace hB9 := hxb.blk hB9 (fun h => h)
    replace hD29 := hD29.ext hxb
    replace hB10 := hxb.blk hB10 (fun h => h)
    replace hB11 := hxb.blk hB11 (fun h => h)
    replace hD34 := hD34.ext hxb
    clear hxb
    refine WL.nil ?_
    refine W.seq ?_
    refine W.seq ?_
    refine W.region ?_
    refine WL.c rfl (o_fa 0 TI49 rfl TI32 rfl rfl ?_)
    refine WL.c rfl (o_ld TI32 rfl rfl (cell_of hB13 rfl) ?_)
    refine WL.c rfl (o_ne rfl rfl ?_)
    refine WL.nil ?_
    refine W.cond rfl (fun c59 => ?_) (fun c59 => ?_)
    · try simp only [decide_eq_true_eq, decide_eq_false_iff_not, Bool.not_eq_true', Bool.not_eq_false', Bool.and_eq_true, Bool.or_eq_true, Bool.and_eq_false_iff, Bool.or_eq_false_iff] at c59
      have hcz : ¬ (cutA ab).2.1 = 0 := by omega
      obtain ⟨-, hcc⟩ := (hj hl).resolve_right (fun h => hcz (by rw [h.1]))
      refine W.seq ?_
      refine W.region ?_
      refine WL.c rfl (o_ldA TI49 rfl rfl (cells_all hB11) rfl ?_)
      refine WL.c rfl (o_ldA TI49 rfl rfl (cells_all hB13) rfl ?_)
      refine WL.c rfl (o_eqR TI49 (by kernel_rfl) (by kernel_rfl) rfl rfl (.int TI32 (by decide) rfl rfl (.int TI3 (by decide) rfl rfl .nil)) ?_)
      refine WL.c rfl (o_ash (show _ = Value.bool _ from rfl) ?_)
      refine WL.nil ?_
      refine W.ret ?_
      refine ret1v rfl (show _ = Value.bool _ from rfl) ?_
      exact ⟨congrArg Value.bool (by rw [hcc]; simp), hx⟩
    · try simp only [decide_eq_true_eq, decide_eq_false_iff_not, Bool.not_eq_true', Bool.not_eq_false', Bool.and_eq_true, Bool.or_eq_true, Bool.and_eq_false_iff, Bool.or_eq_false_iff] at c59
      have hcz : (cutA ab).2.1 = 0 := by omega
      obtain ⟨hc2, j1, j2, j3, j4⟩ := (hj hl).resolve_left (fun h => h.1 hcz)
      refine W.skip ?_
      refine W.seq ?_
      refine W.seq ?_
      refine W.region ?_
      refine WL.c rfl (o_fa 0 TI49 rfl TI32 rfl rfl ?_)
      refine WL.c rfl (o_ld TI32 rfl rfl (cell_of hB7 rfl) ?_)
      refine WL.c rfl (o_ne rfl rfl ?_)
      refine WL.nil ?_
      refine W.condF' rfl (by simp; omega) ?_
      refine W.skip ?_
      refine W.seq ?_
      refine W.seq ?_
      refine W.region ?_
      refine WL.c rfl (o_fa 0 TI28 rfl TI26 rfl rfl ?_)
      refine WL.c rfl (o_ld TI26 rfl rfl (cell_of hB6 rfl) ?_)
      refine WL.c rfl (o_lenR TI26 rfl hD24.rd.row ?_)
      refine WL.c rfl (o_fa 0 TI28 rfl TI26 rfl rfl ?_)
      refine WL.c rfl (o_ld TI26 rfl rfl (cell_of hB8 rfl) ?_)
      refine WL.c rfl (o_lenR TI26 rfl hD29.rd.row ?_)
      refine WL.c rfl (o_addi rfl rfl (by omega) ?_)
      refine WL.c rfl (o_gt rfl rfl ?_)
      refine WL.nil ?_
      refine W.cond rfl (fun c76 => ?_) (fun c76 => ?_)
      · try simp only [decide_eq_true_eq, decide_eq_false_iff_not, Bool.not_eq_true', Bool.not_eq_false', Bool.and_eq_true, Bool.or_eq_true, Bool.and_eq_false_iff, Bool.or_eq_false_iff] at c76
        refine W.seq ?_
        have hcc := j2 he (by omega)
        refine W.region ?_
        refine WL.c rfl (o_fa 0 TI49 rfl TI32 rfl rfl ?_)
        refine WL.c rfl (o_ld TI32 rfl rfl (cell_of hB11 rfl) ?_)
        refine WL.c rfl (o_eq rfl rfl ?_)
        refine WL.c rfl (o_ash (show _ = Value.bool _ from rfl) ?_)
        refine WL.nil ?_
        refine W.ret ?_
        refine ret1v rfl (show _ = Value.bool _ from rfl) ?_
        exact ⟨congrArg Value.bool (by rw [hcc]; rfl), hx⟩
      · try simp only [decide_eq_true_eq, decide_eq_false_iff_not, Bool.not_eq_true', Bool.not_eq_false', Bool.and_eq_true, Bool.or_eq_true, Bool.and_eq_false_iff, Bool.or_eq_false_iff] at c76
        refine W.skip ?_
        refine W.seq ?_
        refine W.seq ?_
        have hsm : A.1.length + B.1.length ≤ 256 := by omega
        refine W.region ?_
        refine WL.c rfl (o_fa 0 TI49 rfl TI32 rfl rfl ?_)
        refine WL.c rfl (o_ld TI32 rfl rfl (cell_of hB9 rfl) ?_)
        refine WL.c rfl (o_ne rfl rfl ?_)
        refine WL.nil ?_
        refine W.cond rfl (fun c82 => ?_) (fun c82 => ?_)
        · try simp only [decide_eq_true_eq, decide_eq_false_iff_not, Bool.not_eq_true', Bool.not_eq_false', Bool.and_eq_true, Bool.or_eq_true, Bool.and_eq_false_iff, Bool.or_eq_false_iff] at c82
          refine W.seq ?_
          have hbe : B.2.1 ≠ 0 := by omega
          have hcc := j3 he hbe
          refine W.region ?_
          refine WL.c rfl (o_fa 0 TI49 rfl TI32 rfl rfl ?_)
          refine WL.c rfl (o_ld TI32 rfl rfl (cell_of hB11 rfl) ?_)
          refine WL.c rfl (o_eq rfl rfl ?_)
          refine WL.c rfl (o_mvh (show _ = Value.bool _ from rfl) ?_)
          refine WL.sp 3 rfl (fun g86 => ?_) (fun g86 => ?_)
          · skip
            refine WL.s rfl (g86) rfl ?_
            refine WL.s rfl (g86) rfl ?_
            refine WL.s rfl (g86) rfl ?_
            refine WL.s rfl (g86) rfl ?_
            refine WL.s rfl (g86) rfl ?_
            refine WL.s rfl (g86) rfl ?_
            refine WL.s rfl (g86) rfl ?_
            refine WL.s rfl (g86) rfl ?_
            refine WL.s rfl (g86) rfl ?_
            refine WL.s rfl (g86) rfl ?_
            refine WL.s rfl (g86) rfl ?_
            refine WL.c rfl (o_pickT rfl (g86) ?_)
            refine WL.c rfl (o_ash (show _ = Value.bool _ from rfl) ?_)
            refine WL.nil ?_
            refine W.ret ?_
            refine ret1v rfl (show _ = Value.bool _ from rfl) ?_
            exact ⟨congrArg Value.bool (by rcases hcc with h5 | h5 <;> simp [h5] <;> omega), hx⟩
          · skip
            refine WL.g rfl (g86) rfl (o_ldA TI49 rfl rfl (cells_all hB11) rfl ?_)
            refine WL.g rfl (g86) rfl (o_fa 0 TI49 rfl TI32 rfl rfl ?_)
            refine WL.g rfl (g86) rfl (o_ld TI32 rfl rfl (cell_of hB9 rfl) ?_)
            refine WL.g rfl (g86) rfl (o_fa 1 TI49 rfl TI3 rfl rfl ?_)
            refine WL.g rfl (g86) rfl (o_ld TI3 rfl rfl (cell_of hB9 rfl) ?_)
            refine WL.g rfl (g86) rfl (o_mvh (show _ = Value.string _ from rfl) ?_)
            refine WL.g rfl (g86) rfl (o_lenT TI9 rfl ?_)
            refine WL.g rfl (g86) rfl (o_addi rfl rfl (by omega) ?_)
            refine WL.g rfl (g86) rfl (o_addi rfl rfl (by omega) ?_)
            refine WL.g rfl (g86) rfl (o_bldC (cs := [_, _]) TI49 (Sizes.cons TI32 (Sizes.cons TI3 Sizes.nil)) rfl (lcp (show _ = Value.int _ _ from rfl) (lcp (show _ = Value.int _ _ from rfl) lnp)) rfl rfl ?_)
            refine WL.g rfl (g86) rfl (o_eqR TI49 (by kernel_rfl) (by kernel_rfl) rfl rfl (.int TI32 (by decide) rfl rfl (.int TI3 (by decide) rfl rfl .nil)) ?_)
            refine WL.c rfl (o_pickO rfl rfl ?_)
            refine WL.c rfl (o_ash (show _ = Value.bool _ from rfl) ?_)
            refine WL.nil ?_
            refine W.ret ?_
            refine ret1v rfl (show _ = Value.bool _ from rfl) ?_
            exact ⟨congrArg Value.bool (by rcases hcc with h5 | h5 <;> simp [h5] <;> omega), hx⟩
        · try simp only [decide_eq_true_eq, decide_eq_false_iff_not, Bool.not_eq_true', Bool.not_eq_false', Bool.and_eq_true, Bool.or_eq_true, Bool.and_eq_false_iff, Bool.or_eq_false_iff] at c82
          refine W.skip ?_
          refine W.seq ?_
          have hbe : B.2.1 = 0 := by omega
          obtain ⟨hcc, hbare⟩ := j4 he hbe hsm
          refine W.region ?_
          refine WL.c rfl (o_ldA TI28 rfl rfl (show Cells _ b6 0 [dv24] from Cells.of hB6 0 _ (by simp)) rfl ?_)
          refine WL.c rfl (o_call Try.call23 (lc rfl ln) ((bare_spec A.1 dv24 V24 _ hD24.rd hok1).mono ?_))
          rintro v100 w100 ⟨av, UA, rfl, hDA, hx100⟩
          replace hx := hx.tr hx100
          replace hB6 := hx100.blk hB6 (fun h => h)
          replace hB7 := hx100.blk hB7 (fun h => h)
          replace hD24 := hD24.ext hx100
          replace hB8 := hx100.blk hB8 (fun h => h)
          replace hB9 := hx100.blk hB9 (fun h => h)
          replace hD29 := hD29.ext hx100
          replace hB10 := hx100.blk hB10 (fun h => h)
          replace hB11 := hx100.blk hB11 (fun h => h)
          replace hD34 := hD34.ext hx100
          have hs100 := hx.size
          refine WL.c rfl (o_alB TI28 ?_)
          intro wa hCa hxa hsa
          have l10 := (Array.getElem?_eq_some_iff.1 hB10).1
          have l11 := (Array.getElem?_eq_some_iff.1 hB11).1
          refine WL.u (o_stA TI28 rfl (show _ = Value.agg #[av] from rfl) rfl (by simp [own_one hDA.row]) hCa rfl ?_)
          intro w14z hB14 hob hsb
          have hxb := Ext.own hxa (Nat.le_refl _) hob
          obtain ⟨b14, hb14⟩ : ∃ c, c = w100.heap.size := ⟨_, rfl⟩
          rw [← hb14] at hB14 ⊢
          clear hCa hxa hsa hob hsb
          replace hx := hx.tr hxb
          replace hB6 := hxb.blk hB6 (fun h => h)
          replace hB7 := hxb.blk hB7 (fun h => h)
          replace hD24 := hD24.ext hxb
          replace hB8 := hxb.blk hB8 (fun h => h)
          replace hB9 := hxb.blk hB9 (fun h => h)
          replace hD29 := hD29.ext hxb
          replace hB10 := hxb.blk hB10 (fun h => h)
          replace hB11 := hxb.blk hB11 (fun h => h)
          replace hD34 := hD34.ext hxb
          replace hDA := hDA.ext hxb
          clear hxb
          refine WL.nil ?_
          refine W.seq ?_
          refine W.region ?_
          refine WL.c rfl (o_ldA TI28 rfl rfl (show Cells _ b8 0 [dv29] from Cells.of hB8 0 _ (by simp)) rfl ?_)
          refine WL.c rfl (o_call Try.call23 (lc rfl ln) ((bare_spec B.1 dv29 V29 _ hD29.rd hok2).mono ?_))
          rintro v102 w102 ⟨cv, UB, rfl, hDB, hx102⟩
          replace hx := hx.tr hx102
          replace hB6 := hx102.blk hB6 (fun h => h)
          replace hB7 := hx102.blk hB7 (fun h => h)
          replace hD24 := hD24.ext hx102
          replace hB8 := hx102.blk hB8 (fun h => h)
          replace hB9 := hx102.blk hB9 (fun h => h)
          replace hD29 := hD29.ext hx102
          replace hB10 := hx102.blk hB10 (fun h => h)
          replace hB11 := hx102.blk hB11 (fun h => h)
          replace hD34 := hD34.ext hx102
          replace hDA := hDA.ext hx102
          replace hB14 := hx102.blk hB14 (fun h => h)
          refine WL.c rfl (o_alB TI28 ?_)
          intro wa hCa hxa hsa
          refine WL.u (o_stA TI28 rfl (show _ = Value.agg #[cv] from rfl) rfl (by simp [own_one hDB.row]) hCa rfl ?_)
          intro w15z hB15 hob hsb
          have hxb := Ext.own hxa (Nat.le_refl _) hob
          obtain ⟨b15, hb15⟩ : ∃ c, c = w102.heap.size := ⟨_, rfl⟩
          rw [← hb15] at hB15 ⊢
          clear hCa hxa hsa hob hsb
          replace hx := hx.tr hxb
          replace hB6 := hxb.blk hB6 (fun h => h)
          replace hB7 := hxb.blk hB7 (fun h => h)
          replace hD24 := hD24.ext hxb
          replace hB8 := hxb.blk hB8 (fun h => h)
          replace hB9 := hxb.blk hB9 (fun h => h)
          replace hD29 := hD29.ext hxb
          replace hB10 := hxb.blk hB10 (fun h => h)
          replace hB11 := hxb.blk hB11 (fun h => h)
          replace hD34 := hD34.ext hxb
          replace hDA := hDA.ext hxb
          replace hB14 := hxb.blk hB14 (fun h => h)
          replace hDB := hDB.ext hxb
          clear hxb
          refine WL.nil ?_
          refine W.seq ?_
          refine W.cut (fun e1 w1 => ∃ vv UU, e1 10 = .pointer (some ⟨b10, 0, none⟩) ∧ e1 11 = .pointer (some ⟨b11, 0, none⟩) ∧ e1 14 = .pointer (some ⟨b14, 0, none⟩) ∧ w1.heap[b10]? = some (.cells #[dv34] 28 (0, 0)) ∧ w1.heap[b11]? = some (.cells (faultV C.2.1 C.2.2) 49 (0, 0)) ∧ w1.heap[b14]? = some (.cells #[vv] 28 (0, 0)) ∧ DefR w1 C.1 dv34 V34 ∧ DefR w1 (A.1.map bareD ++ B.1.map bareD) vv UU ∧ Ext w0 w1) ?_ ?_
          · -- region 20
            refine W.enum rfl ?_
            have hxd := Only.drew w15z
            replace hx := hx.tr hxd
            replace hB6 := hxd.blk hB6 (fun h => h)
            replace hB7 := hxd.blk hB7 (fun h => h)
            replace hD24 := hD24.ext hxd
            replace hB8 := hxd.blk hB8 (fun h => h)
            replace hB9 := hxd.blk hB9 (fun h => h)
            replace hD29 := hD29.ext hxd
            replace hB10 := hxd.blk hB10 (fun h => h)
            replace hB11 := hxd.blk hB11 (fun h => h)
            replace hD34 := hD34.ext hxd
            replace hDA := hDA.ext hxd
            replace hB14 := hxd.blk hB14 (fun h => h)
            replace hDB := hDB.ext hxd
            replace hB15 := hxd.blk hB15 (fun h => h)
            clear hxd
            generalize w15z.drew = wq at *
            have hO : Only (fun k => wq.heap.size ≤ k) wq wq := Only.refl _ _
            have hq10 := (Array.getElem?_eq_some_iff.1 hB10).1
            have hq11 := (Array.getElem?_eq_some_iff.1 hB11).1
            have hq14 := (Array.getElem?_eq_some_iff.1 hB14).1
            have hq15 := (Array.getElem?_eq_some_iff.1 hB15).1
            have hqA : ∀ k, DF av UA (A.1.map bareD).length k → ¬ wq.heap.size ≤ k := fun k hk h => by have := (hDA.lt k hk).2; omega
            have hqB : ∀ k, DF cv UB (B.1.map bareD).length k → ¬ wq.heap.size ≤ k := fun k hk h => by have := (hDB.lt k hk).2; omega
            have hqC : ∀ k, DF dv34 V34 C.1.length k → ¬ wq.heap.size ≤ k := fun k hk h => by have := (hD34.lt k hk).2; omega
            have hsq := Nat.le_refl wq.heap.size
            have hxq := hx.size
            refine WA.step (r := [0, 1, 4]) (by kernel_rfl) (by decide) (all3 ?_ ?_ ?_)
            · skip
              refine WO.c rfl rfl (o_bs0 TI26 TI40 ?_)
              have h103 := own_new0 (w := wq) (el := 40) (s := 3)
              replace hO : Only (fun k => wq.heap.size ≤ k) wq (wq.alloc (.cells #[] 40)) := (Only.alloc wq _).mono (fun _ _ h => h.elim)
              generalize wq.alloc (.cells #[] 40) = w3 at *
              refine WA.step (r := [1, 4]) (by kernel_rfl) (by decide) (all2 ?_ ?_)
              · skip
                refine WO.c rfl rfl (o_fa 0 TI28 rfl TI26 rfl rfl ?_)
                refine WA.step (r := [2, 4]) (by kernel_rfl) (by decide) (all2 ?_ ?_)
                · skip
                  refine WO.c rfl rfl (o_ld TI26 rfl rfl (cell_of (hO.blk hB14 (by omega)) rfl) ?_)
                  refine WA.step (r := [3, 4]) (by kernel_rfl) (by decide) (all2 ?_ ?_)
                  · skip
                    refine WO.c rfl rfl (o_apO (wq.heap.size) TI26 TI40 (show _ = Value.slice _ _ _ from rfl) rfl h103 (Sl.own (hDA.only hO hqA).row) rfl (by decide) (one_drows (fun j hj => own_one (hDA.tys.row j hj))) (by rw [maxLen_eq, List.length_map]; omega) (by rw [List.length_map]; omega) hO.size ?_)
                    intro v106 w106 hown106 ho106 hb106 _
                    replace hO := hO.trans' ho106 (fun _ h => h) (fun k _ hk => (h103.lt k hk).1)
                    rw [Nat.zero_add, List.nil_append] at hown106
                    clear ho106 hb106
                    refine WA.step (r := [4]) (by kernel_rfl) (by decide) (all1 ?_)
                    refine WO.c rfl rfl (o_fa 0 TI28 rfl TI26 rfl rfl ?_)
                    refine WA.step (r := [5]) (by kernel_rfl) (by decide) (all1 ?_)
                    refine WO.c rfl rfl (o_ld TI26 rfl rfl (cell_of (hO.blk hB15 (by omega)) rfl) ?_)
                    refine WA.step (r := [6]) (by kernel_rfl) (by decide) (all1 ?_)
                    refine WO.c rfl rfl (o_apO (wq.heap.size) TI26 TI40 rfl rfl hown106 (Sl.own (hDB.only hO hqB).row) rfl (by decide) (one_drows (fun j hj => own_one (hDB.tys.row j hj))) (by rw [maxLen_eq, List.length_map, List.length_map]; omega) (by rw [List.length_map, List.length_map]; omega) hO.size ?_)
                    intro v109 w109 hown109 ho109 hb109 _
                    replace hO := hO.trans' ho109 (fun _ h => h) (fun k _ hk => (hown106.lt k hk).1)
                    clear ho109 hb109
                    refine WA.step (r := [7]) (by kernel_rfl) (by decide) (all1 ?_)
                    refine WO.c rfl rfl (o_fa 0 TI28 rfl TI26 rfl rfl ?_)
                    refine WA.step (r := [8]) (by kernel_rfl) (by decide) (all1 ?_)
                    refine WO.u rfl (o_stB TI26 rfl (show _ = v109 from rfl) (own_one hown109) (hO.blk hB14 (by omega)) (show 0 < 1 by decide) ?_)
                    intro w110 hB14z ho110 hs110
                    replace hB14z : w110.heap[b14]? = some (.cells #[v109] 28 (0, 0)) := hB14z
                    have g14 := hO.blk hB14 (by omega)
                    have gC := hD34.only hO hqC
                    have gA := hDA.only hO hqA
                    have gB := hDB.only hO hqB
                    have hfin := (⟨ho110.blk (hO.blk hB10 (by omega)) (by omega), ho110.blk (hO.blk hB11 (by omega)) (by omega), hB14z, (gC.only ho110 (gC.off g14)).rd,
                      defR_app (gA.only ho110 (gA.off g14)).rd (gB.only ho110 (gB.off g14)).rd (Sl.own (own_only hown109 ho110 (fun k hk he => by subst he; exact own_off hown109 g14 (by decide) hk))),
                      (hx.trans' hO (fun _ h => h) (fun k hk h => by omega)).trans' ho110 (fun _ h => h) (fun k hk he => by omega)⟩ : w110.heap[b10]? = some (.cells #[dv34] 28 (0, 0)) ∧ w110.heap[b11]? = some (.cells (faultV C.2.1 C.2.2) 49 (0, 0)) ∧ w110.heap[b14]? = some (.cells #[v109] 28 (0, 0)) ∧ DefR w110 C.1 dv34 V34 ∧ DefR w110 (A.1.map bareD ++ B.1.map bareD) v109 _ ∧ Ext w0 w110)
                    refine WA.done (by kernel_rfl) ?_
                    exact ⟨_, _, rfl, rfl, rfl, hfin⟩
                  · skip
                    refine WO.c rfl rfl (o_fa 0 TI28 rfl TI26 rfl rfl ?_)
                    refine WA.step (r := [3, 5]) (by kernel_rfl) (by decide) (all2 ?_ ?_)
                    · skip
                      refine WO.c rfl rfl (o_apO (wq.heap.size) TI26 TI40 (show _ = Value.slice _ _ _ from rfl) rfl h103 (Sl.own (hDA.only hO hqA).row) rfl (by decide) (one_drows (fun j hj => own_one (hDA.tys.row j hj))) (by rw [maxLen_eq, List.length_map]; omega) (by rw [List.length_map]; omega) hO.size ?_)
                      intro v106 w106 hown106 ho106 hb106 _
                      replace hO := hO.trans' ho106 (fun _ h => h) (fun k _ hk => (h103.lt k hk).1)
                      rw [Nat.zero_add, List.nil_append] at hown106
                      clear ho106 hb106
                      refine WA.step (r := [5]) (by kernel_rfl) (by decide) (all1 ?_)
                      refine WO.c rfl rfl (o_ld TI26 rfl rfl (cell_of (hO.blk hB15 (by omega)) rfl) ?_)
                      refine WA.step (r := [6]) (by kernel_rfl) (by decide) (all1 ?_)
                      refine WO.c rfl rfl (o_apO (wq.heap.size) TI26 TI40 rfl rfl hown106 (Sl.own (hDB.only hO hqB).row) rfl (by decide) (one_drows (fun j hj => own_one (hDB.tys.row j hj))) (by rw [maxLen_eq, List.length_map, List.length_map]; omega) (by rw [List.length_map, List.length_map]; omega) hO.size ?_)
                      intro v109 w109 hown109 ho109 hb109 _
                      replace hO := hO.trans' ho109 (fun _ h => h) (fun k _ hk => (hown106.lt k hk).1)
                      clear ho109 hb109
                      refine WA.step (r := [7]) (by kernel_rfl) (by decide) (all1 ?_)
                      refine WO.c rfl rfl (o_fa 0 TI28 rfl TI26 rfl rfl ?_)
                      refine WA.step (r := [8]) (by kernel_rfl) (by decide) (all1 ?_)
                      refine WO.u rfl (o_stB TI26 rfl (show _ = v109 from rfl) (own_one hown109) (hO.blk hB14 (by omega)) (show 0 < 1 by decide) ?_)
                      intro w110 hB14z ho110 hs110
                      replace hB14z : w110.heap[b14]? = some (.cells #[v109] 28 (0, 0)) := hB14z
                      have g14 := hO.blk hB14 (by omega)
                      have gC := hD34.only hO hqC
                      have gA := hDA.only hO hqA
                      have gB := hDB.only hO hqB
                      have hfin := (⟨ho110.blk (hO.blk hB10 (by omega)) (by omega), ho110.blk (hO.blk hB11 (by omega)) (by omega), hB14z, (gC.only ho110 (gC.off g14)).rd,
                        defR_app (gA.only ho110 (gA.off g14)).rd (gB.only ho110 (gB.off g14)).rd (Sl.own (own_only hown109 ho110 (fun k hk he => by subst he; exact own_off hown109 g14 (by decide) hk))),
                        (hx.trans' hO (fun _ h => h) (fun k hk h => by omega)).trans' ho110 (fun _ h => h) (fun k hk he => by omega)⟩ : w110.heap[b10]? = some (.cells #[dv34] 28 (0, 0)) ∧ w110.heap[b11]? = some (.cells (faultV C.2.1 C.2.2) 49 (0, 0)) ∧ w110.heap[b14]? = some (.cells #[v109] 28 (0, 0)) ∧ DefR w110 C.1 dv34 V34 ∧ DefR w110 (A.1.map bareD ++ B.1.map bareD) v109 _ ∧ Ext w0 w110)
                      refine WA.done (by kernel_rfl) ?_
                      exact ⟨_, _, rfl, rfl, rfl, hfin⟩
                    · skip
                      refine WO.c rfl rfl (o_ld TI26 rfl rfl (cell_of (hO.blk hB15 (by omega)) rfl) ?_)
                      refine WA.step (r := [3]) (by kernel_rfl) (by decide) (all1 ?_)
                      refine WO.c rfl rfl (o_apO (wq.heap.size) TI26 TI40 (show _ = Value.slice _ _ _ from rfl) rfl h103 (Sl.own (hDA.only hO hqA).row) rfl (by decide) (one_drows (fun j hj => own_one (hDA.tys.row j hj))) (by rw [maxLen_eq, List.length_map]; omega) (by rw [List.length_map]; omega) hO.size ?_)
                      intro v106 w106 hown106 ho106 hb106 _
                      replace hO := hO.trans' ho106 (fun _ h => h) (fun k _ hk => (h103.lt k hk).1)
                      rw [Nat.zero_add, List.nil_append] at hown106
                      clear ho106 hb106
                      refine WA.step (r := [6]) (by kernel_rfl) (by decide) (all1 ?_)
                      refine WO.c rfl rfl (o_apO (wq.heap.size) TI26 TI40 rfl rfl hown106 (Sl.own (hDB.only hO hqB).row) rfl (by decide) (one_drows (fun j hj => own_one (hDB.tys.row j hj))) (by rw [maxLen_eq, List.length_map, List.length_map]; omega) (by rw [List.length_map, List.length_map]; omega) hO.size ?_)
                      intro v109 w109 hown109 ho109 hb109 _
                      replace hO := hO.trans' ho109 (fun _ h => h) (fun k _ hk => (hown106.lt k hk).1)
                      clear ho109 hb109
                      refine WA.step (r := [7]) (by kernel_rfl) (by decide) (all1 ?_)
                      refine WO.c rfl rfl (o_fa 0 TI28 rfl TI26 rfl rfl ?_)
                      refine WA.step (r := [8]) (by kernel_rfl) (by decide) (all1 ?_)
                      refine WO.u rfl (o_stB TI26 rfl (show _ = v109 from rfl) (own_one hown109) (hO.blk hB14 (by omega)) (show 0 < 1 by decide) ?_)
                      intro w110 hB14z ho110 hs110
                      replace hB14z : w110.heap[b14]? = some (.cells #[v109] 28 (0, 0)) := hB14z
                      have g14 := hO.blk hB14 (by omega)
                      have gC := hD34.only hO hqC
                      have gA := hDA.only hO hqA
                      have gB := hDB.only hO hqB
                      have hfin := (⟨ho110.blk (hO.blk hB10 (by omega)) (by omega), ho110.blk (hO.blk hB11 (by omega)) (by omega), hB14z, (gC.only ho110 (gC.off g14)).rd,
                        defR_app (gA.only ho110 (gA.off g14)).rd (gB.only ho110 (gB.off g14)).rd (Sl.own (own_only hown109 ho110 (fun k hk he => by subst he; exact own_off hown109 g14 (by decide) hk))),
                        (hx.trans' hO (fun _ h => h) (fun k hk h => by omega)).trans' ho110 (fun _ h => h) (fun k hk he => by omega)⟩ : w110.heap[b10]? = some (.cells #[dv34] 28 (0, 0)) ∧ w110.heap[b11]? = some (.cells (faultV C.2.1 C.2.2) 49 (0, 0)) ∧ w110.heap[b14]? = some (.cells #[v109] 28 (0, 0)) ∧ DefR w110 C.1 dv34 V34 ∧ DefR w110 (A.1.map bareD ++ B.1.map bareD) v109 _ ∧ Ext w0 w110)
                      refine WA.done (by kernel_rfl) ?_
                      exact ⟨_, _, rfl, rfl, rfl, hfin⟩
                · skip
                  refine WO.c rfl rfl (o_fa 0 TI28 rfl TI26 rfl rfl ?_)
                  refine WA.step (r := [2, 5]) (by kernel_rfl) (by decide) (all2 ?_ ?_)
                  · skip
                    refine WO.c rfl rfl (o_ld TI26 rfl rfl (cell_of (hO.blk hB14 (by omega)) rfl) ?_)
                    refine WA.step (r := [3, 5]) (by kernel_rfl) (by decide) (all2 ?_ ?_)
                    · skip
                      refine WO.c rfl rfl (o_apO (wq.heap.size) TI26 TI40 (show _ = Value.slice _ _ _ from rfl) rfl h103 (Sl.own (hDA.only hO hqA).row) rfl (by decide) (one_drows (fun j hj => own_one (hDA.tys.row j hj))) (by rw [maxLen_eq, List.length_map]; omega) (by rw [List.length_map]; omega) hO.size ?_)
                      intro v106 w106 hown106 ho106 hb106 _
                      replace hO := hO.trans' ho106 (fun _ h => h) (fun k _ hk => (h103.lt k hk).1)
                      rw [Nat.zero_add, List.nil_append] at hown106
                      clear ho106 hb106
                      refine WA.step (r := [5]) (by kernel_rfl) (by decide) (all1 ?_)
                      refine WO.c rfl rfl (o_ld TI26 rfl rfl (cell_of (hO.blk hB15 (by omega)) rfl) ?_)
                      refine WA.step (r := [6]) (by kernel_rfl) (by decide) (all1 ?_)
                      refine WO.c rfl rfl (o_apO (wq.heap.size) TI26 TI40 rfl rfl hown106 (Sl.own (hDB.only hO hqB).row) rfl (by decide) (one_drows (fun j hj => own_one (hDB.tys.row j hj))) (by rw [maxLen_eq, List.length_map, List.length_map]; omega) (by rw [List.length_map, List.length_map]; omega) hO.size ?_)
                      intro v109 w109 hown109 ho109 hb109 _
                      replace hO := hO.trans' ho109 (fun _ h => h) (fun k _ hk => (hown106.lt k hk).1)
                      clear ho109 hb109
                      refine WA.step (r := [7]) (by kernel_rfl) (by decide) (all1 ?_)
                      refine WO.c rfl rfl (o_fa 0 TI28 rfl TI26 rfl rfl ?_)
                      refine WA.step (r := [8]) (by kernel_rfl) (by decide) (all1 ?_)
                      refine WO.u rfl (o_stB TI26 rfl (show _ = v109 from rfl) (own_one hown109) (hO.blk hB14 (by omega)) (show 0 < 1 by decide) ?_)
                      intro w110 hB14z ho110 hs110
                      replace hB14z : w110.heap[b14]? = some (.cells #[v109] 28 (0, 0)) := hB14z
                      have g14 := hO.blk hB14 (by omega)
                      have gC := hD34.only hO hqC
                      have gA := hDA.only hO hqA
                      have gB := hDB.only hO hqB
                      have hfin := (⟨ho110.blk (hO.blk hB10 (by omega)) (by omega), ho110.blk (hO.blk hB11 (by omega)) (by omega), hB14z, (gC.only ho110 (gC.off g14)).rd,
                        defR_app (gA.only ho110 (gA.off g14)).rd (gB.only ho110 (gB.off g14)).rd (Sl.own (own_only hown109 ho110 (fun k hk he => by subst he; exact own_off hown109 g14 (by decide) hk))),
                        (hx.trans' hO (fun _ h => h) (fun k hk h => by omega)).trans' ho110 (fun _ h => h) (fun k hk he => by omega)⟩ : w110.heap[b10]? = some (.cells #[dv34] 28 (0, 0)) ∧ w110.heap[b11]? = some (.cells (faultV C.2.1 C.2.2) 49 (0, 0)) ∧ w110.heap[b14]? = some (.cells #[v109] 28 (0, 0)) ∧ DefR w110 C.1 dv34 V34 ∧ DefR w110 (A.1.map bareD ++ B.1.map bareD) v109 _ ∧ Ext w0 w110)
                      refine WA.done (by kernel_rfl) ?_
                      exact ⟨_, _, rfl, rfl, rfl, hfin⟩
                    · skip
                      refine WO.c rfl rfl (o_ld TI26 rfl rfl (cell_of (hO.blk hB15 (by omega)) rfl) ?_)
                      refine WA.step (r := [3]) (by kernel_rfl) (by decide) (all1 ?_)
                      refine WO.c rfl rfl (o_apO (wq.heap.size) TI26 TI40 (show _ = Value.slice _ _ _ from rfl) rfl h103 (Sl.own (hDA.only hO hqA).row) rfl (by decide) (one_drows (fun j hj => own_one (hDA.tys.row j hj))) (by rw [maxLen_eq, List.length_map]; omega) (by rw [List.length_map]; omega) hO.size ?_)
                      intro v106 w106 hown106 ho106 hb106 _
                      replace hO := hO.trans' ho106 (fun _ h => h) (fun k _ hk => (h103.lt k hk).1)
                      rw [Nat.zero_add, List.nil_append] at hown106
                      clear ho106 hb106
                      refine WA.step (r := [6]) (by kernel_rfl) (by decide) (all1 ?_)
                      refine WO.c rfl rfl (o_apO (wq.heap.size) TI26 TI40 rfl rfl hown106 (Sl.own (hDB.only hO hqB).row) rfl (by decide) (one_drows (fun j hj => own_one (hDB.tys.row j hj))) (by rw [maxLen_eq, List.length_map, List.length_map]; omega) (by rw [List.length_map, List.length_map]; omega) hO.size ?_)
                      intro v109 w109 hown109 ho109 hb109 _
                      replace hO := hO.trans' ho109 (fun _ h => h) (fun k _ hk => (hown106.lt k hk).1)
                      clear ho109 hb109
                      refine WA.step (r := [7]) (by kernel_rfl) (by decide) (all1 ?_)
                      refine WO.c rfl rfl (o_fa 0 TI28 rfl TI26 rfl rfl ?_)
                      refine WA.step (r := [8]) (by kernel_rfl) (by decide) (all1 ?_)
                      refine WO.u rfl (o_stB TI26 rfl (show _ = v109 from rfl) (own_one hown109) (hO.blk hB14 (by omega)) (show 0 < 1 by decide) ?_)
                      intro w110 hB14z ho110 hs110
                      replace hB14z : w110.heap[b14]? = some (.cells #[v109] 28 (0, 0)) := hB14z
                      have g14 := hO.blk hB14 (by omega)
                      have gC := hD34.only hO hqC
                      have gA := hDA.only hO hqA
                      have gB := hDB.only hO hqB
                      have hfin := (⟨ho110.blk (hO.blk hB10 (by omega)) (by omega), ho110.blk (hO.blk hB11 (by omega)) (by omega), hB14z, (gC.only ho110 (gC.off g14)).rd,
                        defR_app (gA.only ho110 (gA.off g14)).rd (gB.only ho110 (gB.off g14)).rd (Sl.own (own_only hown109 ho110 (fun k hk he => by subst he; exact own_off hown109 g14 (by decide) hk))),
                        (hx.trans' hO (fun _ h => h) (fun k hk h => by omega)).trans' ho110 (fun _ h => h) (fun k hk he => by omega)⟩ : w110.heap[b10]? = some (.cells #[dv34] 28 (0, 0)) ∧ w110.heap[b11]? = some (.cells (faultV C.2.1 C.2.2) 49 (0, 0)) ∧ w110.heap[b14]? = some (.cells #[v109] 28 (0, 0)) ∧ DefR w110 C.1 dv34 V34 ∧ DefR w110 (A.1.map bareD ++ B.1.map bareD) v109 _ ∧ Ext w0 w110)
                      refine WA.done (by kernel_rfl) ?_
                      exact ⟨_, _, rfl, rfl, rfl, hfin⟩
                  · skip
                    refine WO.c rfl rfl (o_ld TI26 rfl rfl (cell_of (hO.blk hB15 (by omega)) rfl) ?_)
                    refine WA.step (r := [2]) (by kernel_rfl) (by decide) (all1 ?_)
                    refine WO.c rfl rfl (o_ld TI26 rfl rfl (cell_of (hO.blk hB14 (by omega)) rfl) ?_)
                    refine WA.step (r := [3]) (by kernel_rfl) (by decide) (all1 ?_)
                    refine WO.c rfl rfl (o_apO (wq.heap.size) TI26 TI40 (show _ = Value.slice _ _ _ from rfl) rfl h103 (Sl.own (hDA.only hO hqA).row) rfl (by decide) (one_drows (fun j hj => own_one (hDA.tys.row j hj))) (by rw [maxLen_eq, List.length_map]; omega) (by rw [List.length_map]; omega) hO.size ?_)
                    intro v106 w106 hown106 ho106 hb106 _
                    replace hO := hO.trans' ho106 (fun _ h => h) (fun k _ hk => (h103.lt k hk).1)
                    rw [Nat.zero_add, List.nil_append] at hown106
                    clear ho106 hb106
                    refine WA.step (r := [6]) (by kernel_rfl) (by decide) (all1 ?_)
                    refine WO.c rfl rfl (o_apO (wq.heap.size) TI26 TI40 rfl rfl hown106 (Sl.own (hDB.only hO hqB).row) rfl (by decide) (one_drows (fun j hj => own_one (hDB.tys.row j hj))) (by rw [maxLen_eq, List.length_map, List.length_map]; omega) (by rw [List.length_map, List.length_map]; omega) hO.size ?_)
                    intro v109 w109 hown109 ho109 hb109 _
                    replace hO := hO.trans' ho109 (fun _ h => h) (fun k _ hk => (hown106.lt k hk).1)
                    clear ho109 hb109
                    refine WA.step (r := [7]) (by kernel_rfl) (by decide) (all1 ?_)
                    refine WO.c rfl rfl (o_fa 0 TI28 rfl TI26 rfl rfl ?_)
                    refine WA.step (r := [8]) (by kernel_rfl) (by decide) (all1 ?_)
                    refine WO.u rfl (o_stB TI26 rfl (show _ = v109 from rfl) (own_one hown109) (hO.blk hB14 (by omega)) (show 0 < 1 by decide) ?_)
                    intro w110 hB14z ho110 hs110
                    replace hB14z : w110.heap[b14]? = some (.cells #[v109] 28 (0, 0)) := hB14z
                    have g14 := hO.blk hB14 (by omega)
                    have gC := hD34.only hO hqC
                    have gA := hDA.only hO hqA
                    have gB := hDB.only hO hqB
                    have hfin := (⟨ho110.blk (hO.blk hB10 (by omega)) (by omega), ho110.blk (hO.blk hB11 (by omega)) (by omega), hB14z, (gC.only ho110 (gC.off g14)).rd,
                      defR_app (gA.only ho110 (gA.off g14)).rd (gB.only ho110 (gB.off g14)).rd (Sl.own (own_only hown109 ho110 (fun k hk he => by subst he; exact own_off hown109 g14 (by decide) hk))),
                      (hx.trans' hO (fun _ h => h) (fun k hk h => by omega)).trans' ho110 (fun _ h => h) (fun k hk he => by omega)⟩ : w110.heap[b10]? = some (.cells #[dv34] 28 (0, 0)) ∧ w110.heap[b11]? = some (.cells (faultV C.2.1 C.2.2) 49 (0, 0)) ∧ w110.heap[b14]? = some (.cells #[v109] 28 (0, 0)) ∧ DefR w110 C.1 dv34 V34 ∧ DefR w110 (A.1.map bareD ++ B.1.map bareD) v109 _ ∧ Ext w0 w110)
                    refine WA.done (by kernel_rfl) ?_
                    exact ⟨_, _, rfl, rfl, rfl, hfin⟩
              · skip
                refine WO.c rfl rfl (o_fa 0 TI28 rfl TI26 rfl rfl ?_)
                refine WA.step (r := [1, 5]) (by kernel_rfl) (by decide) (all2 ?_ ?_)
                · skip
                  refine WO.c rfl rfl (o_fa 0 TI28 rfl TI26 rfl rfl ?_)
                  refine WA.step (r := [2, 5]) (by kernel_rfl) (by decide) (all2 ?_ ?_)
                  · skip
                    refine WO.c rfl rfl (o_ld TI26 rfl rfl (cell_of (hO.blk hB14 (by omega)) rfl) ?_)
                    refine WA.step (r := [3, 5]) (by kernel_rfl) (by decide) (all2 ?_ ?_)
                    · skip
                      refine WO.c rfl rfl (o_apO (wq.heap.size) TI26 TI40 (show _ = Value.slice _ _ _ from rfl) rfl h103 (Sl.own (hDA.only hO hqA).row) rfl (by decide) (one_drows (fun j hj => own_one (hDA.tys.row j hj))) (by rw [maxLen_eq, List.length_map]; omega) (by rw [List.length_map]; omega) hO.size ?_)
                      intro v106 w106 hown106 ho106 hb106 _
                      replace hO := hO.trans' ho106 (fun _ h => h) (fun k _ hk => (h103.lt k hk).1)
                      rw [Nat.zero_add, List.nil_append] at hown106
                      clear ho106 hb106
                      refine WA.step (r := [5]) (by kernel_rfl) (by decide) (all1 ?_)
                      refine WO.c rfl rfl (o_ld TI26 rfl rfl (cell_of (hO.blk hB15 (by omega)) rfl) ?_)
                      refine WA.step (r := [6]) (by kernel_rfl) (by decide) (all1 ?_)
                      refine WO.c rfl rfl (o_apO (wq.heap.size) TI26 TI40 rfl rfl hown106 (Sl.own (hDB.only hO hqB).row) rfl (by decide) (one_drows (fun j hj => own_one (hDB.tys.row j hj))) (by rw [maxLen_eq, List.length_map, List.length_map]; omega) (by rw [List.length_map, List.length_map]; omega) hO.size ?_)
                      intro v109 w109 hown109 ho109 hb109 _
                      replace hO := hO.trans' ho109 (fun _ h => h) (fun k _ hk => (hown106.lt k hk).1)
                      clear ho109 hb109
                      refine WA.step (r := [7]) (by kernel_rfl) (by decide) (all1 ?_)
                      refine WO.c rfl rfl (o_fa 0 TI28 rfl TI26 rfl rfl ?_)
                      refine WA.step (r := [8]) (by kernel_rfl) (by decide) (all1 ?_)
                      refine WO.u rfl (o_stB TI26 rfl (show _ = v109 from rfl) (own_one hown109) (hO.blk hB14 (by omega)) (show 0 < 1 by decide) ?_)
                      intro w110 hB14z ho110 hs110
                      replace hB14z : w110.heap[b14]? = some (.cells #[v109] 28 (0, 0)) := hB14z
                      have g14 := hO.blk hB14 (by omega)
                      have gC := hD34.only hO hqC
                      have gA := hDA.only hO hqA
                      have gB := hDB.only hO hqB
                      have hfin := (⟨ho110.blk (hO.blk hB10 (by omega)) (by omega), ho110.blk (hO.blk hB11 (by omega)) (by omega), hB14z, (gC.only ho110 (gC.off g14)).rd,
                        defR_app (gA.only ho110 (gA.off g14)).rd (gB.only ho110 (gB.off g14)).rd (Sl.own (own_only hown109 ho110 (fun k hk he => by subst he; exact own_off hown109 g14 (by decide) hk))),
                        (hx.trans' hO (fun _ h => h) (fun k hk h => by omega)).trans' ho110 (fun _ h => h) (fun k hk he => by omega)⟩ : w110.heap[b10]? = some (.cells #[dv34] 28 (0, 0)) ∧ w110.heap[b11]? = some (.cells (faultV C.2.1 C.2.2) 49 (0, 0)) ∧ w110.heap[b14]? = some (.cells #[v109] 28 (0, 0)) ∧ DefR w110 C.1 dv34 V34 ∧ DefR w110 (A.1.map bareD ++ B.1.map bareD) v109 _ ∧ Ext w0 w110)
                      refine WA.done (by kernel_rfl) ?_
                      exact ⟨_, _, rfl, rfl, rfl, hfin⟩
                    · skip
                      refine WO.c rfl rfl (o_ld TI26 rfl rfl (cell_of (hO.blk hB15 (by omega)) rfl) ?_)
                      refine WA.step (r := [3]) (by kernel_rfl) (by decide) (all1 ?_)
                      refine WO.c rfl rfl (o_apO (wq.heap.size) TI26 TI40 (show _ = Value.slice _ _ _ from rfl) rfl h103 (Sl.own (hDA.only hO hqA).row) rfl (by decide) (one_drows (fun j hj => own_one (hDA.tys.row j hj))) (by rw [maxLen_eq, List.length_map]; omega) (by rw [List.length_map]; omega) hO.size ?_)
                      intro v106 w106 hown106 ho106 hb106 _
                      replace hO := hO.trans' ho106 (fun _ h => h) (fun k _ hk => (h103.lt k hk).1)
                      rw [Nat.zero_add, List.nil_append] at hown106
                      clear ho106 hb106
                      refine WA.step (r := [6]) (by kernel_rfl) (by decide) (all1 ?_)
                      refine WO.c rfl rfl (o_apO (wq.heap.size) TI26 TI40 rfl rfl hown106 (Sl.own (hDB.only hO hqB).row) rfl (by decide) (one_drows (fun j hj => own_one (hDB.tys.row j hj))) (by rw [maxLen_eq, List.length_map, List.length_map]; omega) (by rw [List.length_map, List.length_map]; omega) hO.size ?_)
                      intro v109 w109 hown109 ho109 hb109 _
                      replace hO := hO.trans' ho109 (fun _ h => h) (fun k _ hk => (hown106.lt k hk).1)
                      clear ho109 hb109
                      refine WA.step (r := [7]) (by kernel_rfl) (by decide) (all1 ?_)
                      refine WO.c rfl rfl (o_fa 0 TI28 rfl TI26 rfl rfl ?_)
                      refine WA.step (r := [8]) (by kernel_rfl) (by decide) (all1 ?_)
                      refine WO.u rfl (o_stB TI26 rfl (show _ = v109 from rfl) (own_one hown109) (hO.blk hB14 (by omega)) (show 0 < 1 by decide) ?_)
                      intro w110 hB14z ho110 hs110
                      replace hB14z : w110.heap[b14]? = some (.cells #[v109] 28 (0, 0)) := hB14z
                      have g14 := hO.blk hB14 (by omega)
                      have gC := hD34.only hO hqC
                      have gA := hDA.only hO hqA
                      have gB := hDB.only hO hqB
                      have hfin := (⟨ho110.blk (hO.blk hB10 (by omega)) (by omega), ho110.blk (hO.blk hB11 (by omega)) (by omega), hB14z, (gC.only ho110 (gC.off g14)).rd,
                        defR_app (gA.only ho110 (gA.off g14)).rd (gB.only ho110 (gB.off g14)).rd (Sl.own (own_only hown109 ho110 (fun k hk he => by subst he; exact own_off hown109 g14 (by decide) hk))),
                        (hx.trans' hO (fun _ h => h) (fun k hk h => by omega)).trans' ho110 (fun _ h => h) (fun k hk he => by omega)⟩ : w110.heap[b10]? = some (.cells #[dv34] 28 (0, 0)) ∧ w110.heap[b11]? = some (.cells (faultV C.2.1 C.2.2) 49 (0, 0)) ∧ w110.heap[b14]? = some (.cells #[v109] 28 (0, 0)) ∧ DefR w110 C.1 dv34 V34 ∧ DefR w110 (A.1.map bareD ++ B.1.map bareD) v109 _ ∧ Ext w0 w110)
                      refine WA.done (by kernel_rfl) ?_
                      exact ⟨_, _, rfl, rfl, rfl, hfin⟩
                  · skip
                    refine WO.c rfl rfl (o_ld TI26 rfl rfl (cell_of (hO.blk hB15 (by omega)) rfl) ?_)
                    refine WA.step (r := [2]) (by kernel_rfl) (by decide) (all1 ?_)
                    refine WO.c rfl rfl (o_ld TI26 rfl rfl (cell_of (hO.blk hB14 (by omega)) rfl) ?_)
                    refine WA.step (r := [3]) (by kernel_rfl) (by decide) (all1 ?_)
                    refine WO.c rfl rfl (o_apO (wq.heap.size) TI26 TI40 (show _ = Value.slice _ _ _ from rfl) rfl h103 (Sl.own (hDA.only hO hqA).row) rfl (by decide) (one_drows (fun j hj => own_one (hDA.tys.row j hj))) (by rw [maxLen_eq, List.length_map]; omega) (by rw [List.length_map]; omega) hO.size ?_)
                    intro v106 w106 hown106 ho106 hb106 _
                    replace hO := hO.trans' ho106 (fun _ h => h) (fun k _ hk => (h103.lt k hk).1)
                    rw [Nat.zero_add, List.nil_append] at hown106
                    clear ho106 hb106
                    refine WA.step (r := [6]) (by kernel_rfl) (by decide) (all1 ?_)
                    refine WO.c rfl rfl (o_apO (wq.heap.size) TI26 TI40 rfl rfl hown106 (Sl.own (hDB.only hO hqB).row) rfl (by decide) (one_drows (fun j hj => own_one (hDB.tys.row j hj))) (by rw [maxLen_eq, List.length_map, List.length_map]; omega) (by rw [List.length_map, List.length_map]; omega) hO.size ?_)
                    intro v109 w109 hown109 ho109 hb109 _
                    replace hO := hO.trans' ho109 (fun _ h => h) (fun k _ hk => (hown106.lt k hk).1)
                    clear ho109 hb109
                    refine WA.step (r := [7]) (by kernel_rfl) (by decide) (all1 ?_)
                    refine WO.c rfl rfl (o_fa 0 TI28 rfl TI26 rfl rfl ?_)
                    refine WA.step (r := [8]) (by kernel_rfl) (by decide) (all1 ?_)
                    refine WO.u rfl (o_stB TI26 rfl (show _ = v109 from rfl) (own_one hown109) (hO.blk hB14 (by omega)) (show 0 < 1 by decide) ?_)
                    intro w110 hB14z ho110 hs110
                    replace hB14z : w110.heap[b14]? = some (.cells #[v109] 28 (0, 0)) := hB14z
                    have g14 := hO.blk hB14 (by omega)
                    have gC := hD34.only hO hqC
                    have gA := hDA.only hO hqA
                    have gB := hDB.only hO hqB
                    have hfin := (⟨ho110.blk (hO.blk hB10 (by omega)) (by omega), ho110.blk (hO.blk hB11 (by omega)) (by omega), hB14z, (gC.only ho110 (gC.off g14)).rd,
                      defR_app (gA.only ho110 (gA.off g14)).rd (gB.only ho110 (gB.off g14)).rd (Sl.own (own_only hown109 ho110 (fun k hk he => by subst he; exact own_off hown109 g14 (by decide) hk))),
                      (hx.trans' hO (fun _ h => h) (fun k hk h => by omega)).trans' ho110 (fun _ h => h) (fun k hk he => by omega)⟩ : w110.heap[b10]? = some (.cells #[dv34] 28 (0, 0)) ∧ w110.heap[b11]? = some (.cells (faultV C.2.1 C.2.2) 49 (0, 0)) ∧ w110.heap[b14]? = some (.cells #[v109] 28 (0, 0)) ∧ DefR w110 C.1 dv34 V34 ∧ DefR w110 (A.1.map bareD ++ B.1.map bareD) v109 _ ∧ Ext w0 w110)
                    refine WA.done (by kernel_rfl) ?_
                    exact ⟨_, _, rfl, rfl, rfl, hfin⟩
                · skip
                  refine WO.c rfl rfl (o_ld TI26 rfl rfl (cell_of (hO.blk hB15 (by omega)) rfl) ?_)
                  refine WA.step (r := [1]) (by kernel_rfl) (by decide) (all1 ?_)
                  refine WO.c rfl rfl (o_fa 0 TI28 rfl TI26 rfl rfl ?_)
                  refine WA.step (r := [2]) (by kernel_rfl) (by decide) (all1 ?_)
                  refine WO.c rfl rfl (o_ld TI26 rfl rfl (cell_of (hO.blk hB14 (by omega)) rfl) ?_)
                  refine WA.step (r := [3]) (by kernel_rfl) (by decide) (all1 ?_)
                  refine WO.c rfl rfl (o_apO (wq.heap.size) TI26 TI40 (show _ = Value.slice _ _ _ from rfl) rfl h103 (Sl.own (hDA.only hO hqA).row) rfl (by decide) (one_drows (fun j hj => own_one (hDA.tys.row j hj))) (by rw [maxLen_eq, List.length_map]; omega) (by rw [List.length_map]; omega) hO.size ?_)
                  intro v106 w106 hown106 ho106 hb106 _
                  replace hO := hO.trans' ho106 (fun _ h => h) (fun k _ hk => (h103.lt k hk).1)
                  rw [Nat.zero_add, List.nil_append] at hown106
                  clear ho106 hb106
                  refine WA.step (r := [6]) (by kernel_rfl) (by decide) (all1 ?_)
                  refine WO.c rfl rfl (o_apO (wq.heap.size) TI26 TI40 rfl rfl hown106 (Sl.own (hDB.only hO hqB).row) rfl (by decide) (one_drows (fun j hj => own_one (hDB.tys.row j hj))) (by rw [maxLen_eq, List.length_map, List.length_map]; omega) (by rw [List.length_map, List.length_map]; omega) hO.size ?_)
                  intro v109 w109 hown109 ho109 hb109 _
                  replace hO := hO.trans' ho109 (fun _ h => h) (fun k _ hk => (hown106.lt k hk).1)
                  clear ho109 hb109
                  refine WA.step (r := [7]) (by kernel_rfl) (by decide) (all1 ?_)
                  refine WO.c rfl rfl (o_fa 0 TI28 rfl TI26 rfl rfl ?_)
                  refine WA.step (r := [8]) (by kernel_rfl) (by decide) (all1 ?_)
                  refine WO.u rfl (o_stB TI26 rfl (show _ = v109 from rfl) (own_one hown109) (hO.blk hB14 (by omega)) (show 0 < 1 by decide) ?_)
                  intro w110 hB14z ho110 hs110
                  replace hB14z : w110.heap[b14]? = some (.cells #[v109] 28 (0, 0)) := hB14z
                  have g14 := hO.blk hB14 (by omega)
                  have gC := hD34.only hO hqC
                  have gA := hDA.only hO hqA
                  have gB := hDB.only hO hqB
                  have hfin := (⟨ho110.blk (hO.blk hB10 (by omega)) (by omega), ho110.blk (hO.blk hB11 (by omega)) (by omega), hB14z, (gC.only ho110 (gC.off g14)).rd,
                    defR_app (gA.only ho110 (gA.off g14)).rd (gB.only ho110 (gB.off g14)).rd (Sl.own (own_only hown109 ho110 (fun k hk he => by subst he; exact own_off hown109 g14 (by decide) hk))),
                    (hx.trans' hO (fun _ h => h) (fun k hk h => by omega)).trans' ho110 (fun _ h => h) (fun k hk he => by omega)⟩ : w110.heap[b10]? = some (.cells #[dv34] 28 (0, 0)) ∧ w110.heap[b11]? = some (.cells (faultV C.2.1 C.2.2) 49 (0, 0)) ∧ w110.heap[b14]? = some (.cells #[v109] 28 (0, 0)) ∧ DefR w110 C.1 dv34 V34 ∧ DefR w110 (A.1.map bareD ++ B.1.map bareD) v109 _ ∧ Ext w0 w110)
                  refine WA.done (by kernel_rfl) ?_
                  exact ⟨_, _, rfl, rfl, rfl, hfin⟩
            · skip
              refine WO.c rfl rfl (o_fa 0 TI28 rfl TI26 rfl rfl ?_)
              refine WA.step (r := [0, 2, 4]) (by kernel_rfl) (by decide) (all3 ?_ ?_ ?_)
              · skip
                refine WO.c rfl rfl (o_bs0 TI26 TI40 ?_)
                have h103 := own_new0 (w := wq) (el := 40) (s := 3)
                replace hO : Only (fun k => wq.heap.size ≤ k) wq (wq.alloc (.cells #[] 40)) := (Only.alloc wq _).mono (fun _ _ h => h.elim)
                generalize wq.alloc (.cells #[] 40) = w3 at *
                refine WA.step (r := [2, 4]) (by kernel_rfl) (by decide) (all2 ?_ ?_)
                · skip
                  refine WO.c rfl rfl (o_ld TI26 rfl rfl (cell_of (hO.blk hB14 (by omega)) rfl) ?_)
                  refine WA.step (r := [3, 4]) (by kernel_rfl) (by decide) (all2 ?_ ?_)
                  · skip
                    refine WO.c rfl rfl (o_apO (wq.heap.size) TI26 TI40 (show _ = Value.slice _ _ _ from rfl) rfl h103 (Sl.own (hDA.only hO hqA).row) rfl (by decide) (one_drows (fun j hj => own_one (hDA.tys.row j hj))) (by rw [maxLen_eq, List.length_map]; omega) (by rw [List.length_map]; omega) hO.size ?_)
                    intro v106 w106 hown106 ho106 hb106 _
                    replace hO := hO.trans' ho106 (fun _ h => h) (fun k _ hk => (h103.lt k hk).1)
                    rw [Nat.zero_add, List.nil_append] at hown106
                    clear ho106 hb106
                    refine WA.step (r := [4]) (by kernel_rfl) (by decide) (all1 ?_)
                    refine WO.c rfl rfl (o_fa 0 TI28 rfl TI26 rfl rfl ?_)
                    refine WA.step (r := [5]) (by kernel_rfl) (by decide) (all1 ?_)
                    refine WO.c rfl rfl (o_ld TI26 rfl rfl (cell_of (hO.blk hB15 (by omega)) rfl) ?_)
                    refine WA.step (r := [6]) (by kernel_rfl) (by decide) (all1 ?_)
                    refine WO.c rfl rfl (o_apO (wq.heap.size) TI26 TI40 rfl rfl hown106 (Sl.own (hDB.only hO hqB).row) rfl (by decide) (one_drows (fun j hj => own_one (hDB.tys.row j hj))) (by rw [maxLen_eq, List.length_map, List.length_map]; omega) (by rw [List.length_map, List.length_map]; omega) hO.size ?_)
                    intro v109 w109 hown109 ho109 hb109 _
                    replace hO := hO.trans' ho109 (fun _ h => h) (fun k _ hk => (hown106.lt k hk).1)
                    clear ho109 hb109
                    refine WA.step (r := [7]) (by kernel_rfl) (by decide) (all1 ?_)
                    refine WO.c rfl rfl (o_fa 0 TI28 rfl TI26 rfl rfl ?_)
                    refine WA.step (r := [8]) (by kernel_rfl) (by decide) (all1 ?_)
                    refine WO.u rfl (o_stB TI26 rfl (show _ = v109 from rfl) (own_one hown109) (hO.blk hB14 (by omega)) (show 0 < 1 by decide) ?_)
                    intro w110 hB14z ho110 hs110
                    replace hB14z : w110.heap[b14]? = some (.cells #[v109] 28 (0, 0)) := hB14z
                    have g14 := hO.blk hB14 (by omega)
                    have gC := hD34.only hO hqC
                    have gA := hDA.only hO hqA
                    have gB := hDB.only hO hqB
                    have hfin := (⟨ho110.blk (hO.blk hB10 (by omega)) (by omega), ho110.blk (hO.blk hB11 (by omega)) (by omega), hB14z, (gC.only ho110 (gC.off g14)).rd,
                      defR_app (gA.only ho110 (gA.off g14)).rd (gB.only ho110 (gB.off g14)).rd (Sl.own (own_only hown109 ho110 (fun k hk he => by subst he; exact own_off hown109 g14 (by decide) hk))),
                      (hx.trans' hO (fun _ h => h) (fun k hk h => by omega)).trans' ho110 (fun _ h => h) (fun k hk he => by omega)⟩ : w110.heap[b10]? = some (.cells #[dv34] 28 (0, 0)) ∧ w110.heap[b11]? = some (.cells (faultV C.2.1 C.2.2) 49 (0, 0)) ∧ w110.heap[b14]? = some (.cells #[v109] 28 (0, 0)) ∧ DefR w110 C.1 dv34 V34 ∧ DefR w110 (A.1.map bareD ++ B.1.map bareD) v109 _ ∧ Ext w0 w110)
                    refine WA.done (by kernel_rfl) ?_
                    exact ⟨_, _, rfl, rfl, rfl, hfin⟩
                  · skip
                    refine WO.c rfl rfl (o_fa 0 TI28 rfl TI26 rfl rfl ?_)
                    refine WA.step (r := [3, 5]) (by kernel_rfl) (by decide) (all2 ?_ ?_)
                    · skip
                      refine WO.c rfl rfl (o_apO (wq.heap.size) TI26 TI40 (show _ = Value.slice _ _ _ from rfl) rfl h103 (Sl.own (hDA.only hO hqA).row) rfl (by decide) (one_drows (fun j hj => own_one (hDA.tys.row j hj))) (by rw [maxLen_eq, List.length_map]; omega) (by rw [List.length_map]; omega) hO.size ?_)
                      intro v106 w106 hown106 ho106 hb106 _
                      replace hO := hO.trans' ho106 (fun _ h => h) (fun k _ hk => (h103.lt k hk).1)
                      rw [Nat.zero_add, List.nil_append] at hown106
                      clear ho106 hb106
                      refine WA.step (r := [5]) (by kernel_rfl) (by decide) (all1 ?_)
                      refine WO.c rfl rfl (o_ld TI26 rfl rfl (cell_of (hO.blk hB15 (by omega)) rfl) ?_)
                      refine WA.step (r := [6]) (by kernel_rfl) (by decide) (all1 ?_)
                      refine WO.c rfl rfl (o_apO (wq.heap.size) TI26 TI40 rfl rfl hown106 (Sl.own (hDB.only hO hqB).row) rfl (by decide) (one_drows (fun j hj => own_one (hDB.tys.row j hj))) (by rw [maxLen_eq, List.length_map, List.length_map]; omega) (by rw [List.length_map, List.length_map]; omega) hO.size ?_)
                      intro v109 w109 hown109 ho109 hb109 _
                      replace hO := hO.trans' ho109 (fun _ h => h) (fun k _ hk => (hown106.lt k hk).1)
                      clear ho109 hb109
                      refine WA.step (r := [7]) (by kernel_rfl) (by decide) (all1 ?_)
                      refine WO.c rfl rfl (o_fa 0 TI28 rfl TI26 rfl rfl ?_)
                      refine WA.step (r := [8]) (by kernel_rfl) (by decide) (all1 ?_)
                      refine WO.u rfl (o_stB TI26 rfl (show _ = v109 from rfl) (own_one hown109) (hO.blk hB14 (by omega)) (show 0 < 1 by decide) ?_)
                      intro w110 hB14z ho110 hs110
                      replace hB14z : w110.heap[b14]? = some (.cells #[v109] 28 (0, 0)) := hB14z
                      have g14 := hO.blk hB14 (by omega)
                      have gC := hD34.only hO hqC
                      have gA := hDA.only hO hqA
                      have gB := hDB.only hO hqB
                      have hfin := (⟨ho110.blk (hO.blk hB10 (by omega)) (by omega), ho110.blk (hO.blk hB11 (by omega)) (by omega), hB14z, (gC.only ho110 (gC.off g14)).rd,
                        defR_app (gA.only ho110 (gA.off g14)).rd (gB.only ho110 (gB.off g14)).rd (Sl.own (own_only hown109 ho110 (fun k hk he => by subst he; exact own_off hown109 g14 (by decide) hk))),
                        (hx.trans' hO (fun _ h => h) (fun k hk h => by omega)).trans' ho110 (fun _ h => h) (fun k hk he => by omega)⟩ : w110.heap[b10]? = some (.cells #[dv34] 28 (0, 0)) ∧ w110.heap[b11]? = some (.cells (faultV C.2.1 C.2.2) 49 (0, 0)) ∧ w110.heap[b14]? = some (.cells #[v109] 28 (0, 0)) ∧ DefR w110 C.1 dv34 V34 ∧ DefR w110 (A.1.map bareD ++ B.1.map bareD) v109 _ ∧ Ext w0 w110)
                      refine WA.done (by kernel_rfl) ?_
                      exact ⟨_, _, rfl, rfl, rfl, hfin⟩
                    · skip
                      refine WO.c rfl rfl (o_ld TI26 rfl rfl (cell_of (hO.blk hB15 (by omega)) rfl) ?_)
                      refine WA.step (r := [3]) (by kernel_rfl) (by decide) (all1 ?_)
                      refine WO.c rfl rfl (o_apO (wq.heap.size) TI26 TI40 (show _ = Value.slice _ _ _ from rfl) rfl h103 (Sl.own (hDA.only hO hqA).row) rfl (by decide) (one_drows (fun j hj => own_one (hDA.tys.row j hj))) (by rw [maxLen_eq, List.length_map]; omega) (by rw [List.length_map]; omega) hO.size ?_)
                      intro v106 w106 hown106 ho106 hb106 _
                      replace hO := hO.trans' ho106 (fun _ h => h) (fun k _ hk => (h103.lt k hk).1)
                      rw [Nat.zero_add, List.nil_append] at hown106
                      clear ho106 hb106
                      refine WA.step (r := [6]) (by kernel_rfl) (by decide) (all1 ?_)
                      refine WO.c rfl rfl (o_apO (wq.heap.size) TI26 TI40 rfl rfl hown106 (Sl.own (hDB.only hO hqB).row) rfl (by decide) (one_drows (fun j hj => own_one (hDB.tys.row j hj))) (by rw [maxLen_eq, List.length_map, List.length_map]; omega) (by rw [List.length_map, List.length_map]; omega) hO.size ?_)
                      intro v109 w109 hown109 ho109 hb109 _
                      replace hO := hO.trans' ho109 (fun _ h => h) (fun k _ hk => (hown106.lt k hk).1)
                      clear ho109 hb109
                      refine WA.step (r := [7]) (by kernel_rfl) (by decide) (all1 ?_)
                      refine WO.c rfl rfl (o_fa 0 TI28 rfl TI26 rfl rfl ?_)
                      refine WA.step (r := [8]) (by kernel_rfl) (by decide) (all1 ?_)
                      refine WO.u rfl (o_stB TI26 rfl (show _ = v109 from rfl) (own_one hown109) (hO.blk hB14 (by omega)) (show 0 < 1 by decide) ?_)
                      intro w110 hB14z ho110 hs110
                      replace hB14z : w110.heap[b14]? = some (.cells #[v109] 28 (0, 0)) := hB14z
                      have g14 := hO.blk hB14 (by omega)
                      have gC := hD34.only hO hqC
                      have gA := hDA.only hO hqA
                      have gB := hDB.only hO hqB
                      have hfin := (⟨ho110.blk (hO.blk hB10 (by omega)) (by omega), ho110.blk (hO.blk hB11 (by omega)) (by omega), hB14z, (gC.only ho110 (gC.off g14)).rd,
                        defR_app (gA.only ho110 (gA.off g14)).rd (gB.only ho110 (gB.off g14)).rd (Sl.own (own_only hown109 ho110 (fun k hk he => by subst he; exact own_off hown109 g14 (by decide) hk))),
                        (hx.trans' hO (fun _ h => h) (fun k hk h => by omega)).trans' ho110 (fun _ h => h) (fun k hk he => by omega)⟩ : w110.heap[b10]? = some (.cells #[dv34] 28 (0, 0)) ∧ w110.heap[b11]? = some (.cells (faultV C.2.1 C.2.2) 49 (0, 0)) ∧ w110.heap[b14]? = some (.cells #[v109] 28 (0, 0)) ∧ DefR w110 C.1 dv34 V34 ∧ DefR w110 (A.1.map bareD ++ B.1.map bareD) v109 _ ∧ Ext w0 w110)
                      refine WA.done (by kernel_rfl) ?_
                      exact ⟨_, _, rfl, rfl, rfl, hfin⟩
                · skip
                  refine WO.c rfl rfl (o_fa 0 TI28 rfl TI26 rfl rfl ?_)
                  refine WA.step (r := [2, 5]) (by kernel_rfl) (by decide) (all2 ?_ ?_)
                  · skip
                    refine WO.c rfl rfl (o_ld TI26 rfl rfl (cell_of (hO.blk hB14 (by omega)) rfl) ?_)
                    refine WA.step (r := [3, 5]) (by kernel_rfl) (by decide) (all2 ?_ ?_)
                    · skip
                      refine WO.c rfl rfl (o_apO (wq.heap.size) TI26 TI40 (show _ = Value.slice _ _ _ from rfl) rfl h103 (Sl.own (hDA.only hO hqA).row) rfl (by decide) (one_drows (fun j hj => own_one (hDA.tys.row j hj))) (by rw [maxLen_eq, List.length_map]; omega) (by rw [List.length_map]; omega) hO.size ?_)
                      intro v106 w106 hown106 ho106 hb106 _
                      replace hO := hO.trans' ho106 (fun _ h => h) (fun k _ hk => (h103.lt k hk).1)
                      rw [Nat.zero_add, List.nil_append] at hown106
                      clear ho106 hb106
                      refine WA.step (r := [5]) (by kernel_rfl) (by decide) (all1 ?_)
                      refine WO.c rfl rfl (o_ld TI26 rfl rfl (cell_of (hO.blk hB15 (by omega)) rfl) ?_)
                      refine WA.step (r := [6]) (by kernel_rfl) (by decide) (all1 ?_)
                      refine WO.c rfl rfl (o_apO (wq.heap.size) TI26 TI40 rfl rfl hown106 (Sl.own (hDB.only hO hqB).row) rfl (by decide) (one_drows (fun j hj => own_one (hDB.tys.row j hj))) (by rw [maxLen_eq, List.length_map, List.length_map]; omega) (by rw [List.length_map, List.length_map]; omega) hO.size ?_)
                      intro v109 w109 hown109 ho109 hb109 _
                      replace hO := hO.trans' ho109 (fun _ h => h) (fun k _ hk => (hown106.lt k hk).1)
                      clear ho109 hb109
                      refine WA.step (r := [7]) (by kernel_rfl) (by decide) (all1 ?_)
                      refine WO.c rfl rfl (o_fa 0 TI28 rfl TI26 rfl rfl ?_)
                      refine WA.step (r := [8]) (by kernel_rfl) (by decide) (all1 ?_)
                      refine WO.u rfl (o_stB TI26 rfl (show _ = v109 from rfl) (own_one hown109) (hO.blk hB14 (by omega)) (show 0 < 1 by decide) ?_)
                      intro w110 hB14z ho110 hs110
                      replace hB14z : w110.heap[b14]? = some (.cells #[v109] 28 (0, 0)) := hB14z
                      have g14 := hO.blk hB14 (by omega)
                      have gC := hD34.only hO hqC
                      have gA := hDA.only hO hqA
                      have gB := hDB.only hO hqB
                      have hfin := (⟨ho110.blk (hO.blk hB10 (by omega)) (by omega), ho110.blk (hO.blk hB11 (by omega)) (by omega), hB14z, (gC.only ho110 (gC.off g14)).rd,
                        defR_app (gA.only ho110 (gA.off g14)).rd (gB.only ho110 (gB.off g14)).rd (Sl.own (own_only hown109 ho110 (fun k hk he => by subst he; exact own_off hown109 g14 (by decide) hk))),
                        (hx.trans' hO (fun _ h => h) (fun k hk h => by omega)).trans' ho110 (fun _ h => h) (fun k hk he => by omega)⟩ : w110.heap[b10]? = some (.cells #[dv34] 28 (0, 0)) ∧ w110.heap[b11]? = some (.cells (faultV C.2.1 C.2.2) 49 (0, 0)) ∧ w110.heap[b14]? = some (.cells #[v109] 28 (0, 0)) ∧ DefR w110 C.1 dv34 V34 ∧ DefR w110 (A.1.map bareD ++ B.1.map bareD) v109 _ ∧ Ext w0 w110)
                      refine WA.done (by kernel_rfl) ?_
                      exact ⟨_, _, rfl, rfl, rfl, hfin⟩
                    · skip
                      refine WO.c rfl rfl (o_ld TI26 rfl rfl (cell_of (hO.blk hB15 (by omega)) rfl) ?_)
                      refine WA.step (r := [3]) (by kernel_rfl) (by decide) (all1 ?_)
                      refine WO.c rfl rfl (o_apO (wq.heap.size) TI26 TI40 (show _ = Value.slice _ _ _ from rfl) rfl h103 (Sl.own (hDA.only hO hqA).row) rfl (by decide) (one_drows (fun j hj => own_one (hDA.tys.row j hj))) (by rw [maxLen_eq, List.length_map]; omega) (by rw [List.length_map]; omega) hO.size ?_)
                      intro v106 w106 hown106 ho106 hb106 _
                      replace hO := hO.trans' ho106 (fun _ h => h) (fun k _ hk => (h103.lt k hk).1)
                      rw [Nat.zero_add, List.nil_append] at hown106
                      clear ho106 hb106
                      refine WA.step (r := [6]) (by kernel_rfl) (by decide) (all1 ?_)
                      refine WO.c rfl rfl (o_apO (wq.heap.size) TI26 TI40 rfl rfl hown106 (Sl.own (hDB.only hO hqB).row) rfl (by decide) (one_drows (fun j hj => own_one (hDB.tys.row j hj))) (by rw [maxLen_eq, List.length_map, List.length_map]; omega) (by rw [List.length_map, List.length_map]; omega) hO.size ?_)
                      intro v109 w109 hown109 ho109 hb109 _
                      replace hO := hO.trans' ho109 (fun _ h => h) (fun k _ hk => (hown106.lt k hk).1)
                      clear ho109 hb109
                      refine WA.step (r := [7]) (by kernel_rfl) (by decide) (all1 ?_)
                      refine WO.c rfl rfl (o_fa 0 TI28 rfl TI26 rfl rfl ?_)
                      refine WA.step (r := [8]) (by kernel_rfl) (by decide) (all1 ?_)
                      refine WO.u rfl (o_stB TI26 rfl (show _ = v109 from rfl) (own_one hown109) (hO.blk hB14 (by omega)) (show 0 < 1 by decide) ?_)
                      intro w110 hB14z ho110 hs110
                      replace hB14z : w110.heap[b14]? = some (.cells #[v109] 28 (0, 0)) := hB14z
                      have g14 := hO.blk hB14 (by omega)
                      have gC := hD34.only hO hqC
                      have gA := hDA.only hO hqA
                      have gB := hDB.only hO hqB
                      have hfin := (⟨ho110.blk (hO.blk hB10 (by omega)) (by omega), ho110.blk (hO.blk hB11 (by omega)) (by omega), hB14z, (gC.only ho110 (gC.off g14)).rd,
                        defR_app (gA.only ho110 (gA.off g14)).rd (gB.only ho110 (gB.off g14)).rd (Sl.own (own_only hown109 ho110 (fun k hk he => by subst he; exact own_off hown109 g14 (by decide) hk))),
                        (hx.trans' hO (fun _ h => h) (fun k hk h => by omega)).trans' ho110 (fun _ h => h) (fun k hk he => by omega)⟩ : w110.heap[b10]? = some (.cells #[dv34] 28 (0, 0)) ∧ w110.heap[b11]? = some (.cells (faultV C.2.1 C.2.2) 49 (0, 0)) ∧ w110.heap[b14]? = some (.cells #[v109] 28 (0, 0)) ∧ DefR w110 C.1 dv34 V34 ∧ DefR w110 (A.1.map bareD ++ B.1.map bareD) v109 _ ∧ Ext w0 w110)
                      refine WA.done (by kernel_rfl) ?_
                      exact ⟨_, _, rfl, rfl, rfl, hfin⟩
                  · skip
                    refine WO.c rfl rfl (o_ld TI26 rfl rfl (cell_of (hO.blk hB15 (by omega)) rfl) ?_)
                    refine WA.step (r := [2]) (by kernel_rfl) (by decide) (all1 ?_)
                    refine WO.c rfl rfl (o_ld TI26 rfl rfl (cell_of (hO.blk hB14 (by omega)) rfl) ?_)
                    refine WA.step (r := [3]) (by kernel_rfl) (by decide) (all1 ?_)
                    refine WO.c rfl rfl (o_apO (wq.heap.size) TI26 TI40 (show _ = Value.slice _ _ _ from rfl) rfl h103 (Sl.own (hDA.only hO hqA).row) rfl (by decide) (one_drows (fun j hj => own_one (hDA.tys.row j hj))) (by rw [maxLen_eq, List.length_map]; omega) (by rw [List.length_map]; omega) hO.size ?_)
                    intro v106 w106 hown106 ho106 hb106 _
                    replace hO := hO.trans' ho106 (fun _ h => h) (fun k _ hk => (h103.lt k hk).1)
                    rw [Nat.zero_add, List.nil_append] at hown106
                    clear ho106 hb106
                    refine WA.step (r := [6]) (by kernel_rfl) (by decide) (all1 ?_)
                    refine WO.c rfl rfl (o_apO (wq.heap.size) TI26 TI40 rfl rfl hown106 (Sl.own (hDB.only hO hqB).row) rfl (by decide) (one_drows (fun j hj => own_one (hDB.tys.row j hj))) (by rw [maxLen_eq, List.length_map, List.length_map]; omega) (by rw [List.length_map, List.length_map]; omega) hO.size ?_)
                    intro v109 w109 hown109 ho109 hb109 _
                    replace hO := hO.trans' ho109 (fun _ h => h) (fun k _ hk => (hown106.lt k hk).1)
                    clear ho109 hb109
                    refine WA.step (r := [7]) (by kernel_rfl) (by decide) (all1 ?_)
                    refine WO.c rfl rfl (o_fa 0 TI28 rfl TI26 rfl rfl ?_)
                    refine WA.step (r := [8]) (by kernel_rfl) (by decide) (all1 ?_)
                    refine WO.u rfl (o_stB TI26 rfl (show _ = v109 from rfl) (own_one hown109) (hO.blk hB14 (by omega)) (show 0 < 1 by decide) ?_)
                    intro w110 hB14z ho110 hs110
                    replace hB14z : w110.heap[b14]? = some (.cells #[v109] 28 (0, 0)) := hB14z
                    have g14 := hO.blk hB14 (by omega)
                    have gC := hD34.only hO hqC
                    have gA := hDA.only hO hqA
                    have gB := hDB.only hO hqB
                    have hfin := (⟨ho110.blk (hO.blk hB10 (by omega)) (by omega), ho110.blk (hO.blk hB11 (by omega)) (by omega), hB14z, (gC.only ho110 (gC.off g14)).rd,
                      defR_app (gA.only ho110 (gA.off g14)).rd (gB.only ho110 (gB.off g14)).rd (Sl.own (own_only hown109 ho110 (fun k hk he => by subst he; exact own_off hown109 g14 (by decide) hk))),
                      (hx.trans' hO (fun _ h => h) (fun k hk h => by omega)).trans' ho110 (fun _ h => h) (fun k hk he => by omega)⟩ : w110.heap[b10]? = some (.cells #[dv34] 28 (0, 0)) ∧ w110.heap[b11]? = some (.cells (faultV C.2.1 C.2.2) 49 (0, 0)) ∧ w110.heap[b14]? = some (.cells #[v109] 28 (0, 0)) ∧ DefR w110 C.1 dv34 V34 ∧ DefR w110 (A.1.map bareD ++ B.1.map bareD) v109 _ ∧ Ext w0 w110)
                    refine WA.done (by kernel_rfl) ?_
                    exact ⟨_, _, rfl, rfl, rfl, hfin⟩
              · skip
                refine WO.c rfl rfl (o_ld TI26 rfl rfl (cell_of (hO.blk hB14 (by omega)) rfl) ?_)
                refine WA.step (r := [0, 4]) (by kernel_rfl) (by decide) (all2 ?_ ?_)
                · skip
                  refine WO.c rfl rfl (o_bs0 TI26 TI40 ?_)
                  have h103 := own_new0 (w := wq) (el := 40) (s := 3)
                  replace hO : Only (fun k => wq.heap.size ≤ k) wq (wq.alloc (.cells #[] 40)) := (Only.alloc wq _).mono (fun _ _ h => h.elim)
                  generalize wq.alloc (.cells #[] 40) = w3 at *
                  refine WA.step (r := [3, 4]) (by kernel_rfl) (by decide) (all2 ?_ ?_)
                  · skip
                    refine WO.c rfl rfl (o_apO (wq.heap.size) TI26 TI40 (show _ = Value.slice _ _ _ from rfl) rfl h103 (Sl.own (hDA.only hO hqA).row) rfl (by decide) (one_drows (fun j hj => own_one (hDA.tys.row j hj))) (by rw [maxLen_eq, List.length_map]; omega) (by rw [List.length_map]; omega) hO.size ?_)
                    intro v106 w106 hown106 ho106 hb106 _
                    replace hO := hO.trans' ho106 (fun _ h => h) (fun k _ hk => (h103.lt k hk).1)
                    rw [Nat.zero_add, List.nil_append] at hown106
                    clear ho106 hb106
                    refine WA.step (r := [4]) (by kernel_rfl) (by decide) (all1 ?_)
                    refine WO.c rfl rfl (o_fa 0 TI28 rfl TI26 rfl rfl ?_)
                    refine WA.step (r := [5]) (by kernel_rfl) (by decide) (all1 ?_)
                    refine WO.c rfl rfl (o_ld TI26 rfl rfl (cell_of (hO.blk hB15 (by omega)) rfl) ?_)
                    refine WA.step (r := [6]) (by kernel_rfl) (by decide) (all1 ?_)
                    refine WO.c rfl rfl (o_apO (wq.heap.size) TI26 TI40 rfl rfl hown106 (Sl.own (hDB.only hO hqB).row) rfl (by decide) (one_drows (fun j hj => own_one (hDB.tys.row j hj))) (by rw [maxLen_eq, List.length_map, List.length_map]; omega) (by rw [List.length_map, List.length_map]; omega) hO.size ?_)
                    intro v109 w109 hown109 ho109 hb109 _
                    replace hO := hO.trans' ho109 (fun _ h => h) (fun k _ hk => (hown106.lt k hk).1)
                    clear ho109 hb109
                    refine WA.step (r := [7]) (by kernel_rfl) (by decide) (all1 ?_)
                    refine WO.c rfl rfl (o_fa 0 TI28 rfl TI26 rfl rfl ?_)
                    refine WA.step (r := [8]) (by kernel_rfl) (by decide) (all1 ?_)
                    refine WO.u rfl (o_stB TI26 rfl (show _ = v109 from rfl) (own_one hown109) (hO.blk hB14 (by omega)) (show 0 < 1 by decide) ?_)
                    intro w110 hB14z ho110 hs110
                    replace hB14z : w110.heap[b14]? = some (.cells #[v109] 28 (0, 0)) := hB14z
                    have g14 := hO.blk hB14 (by omega)
                    have gC := hD34.only hO hqC
                    have gA := hDA.only hO hqA
                    have gB := hDB.only hO hqB
                    have hfin := (⟨ho110.blk (hO.blk hB10 (by omega)) (by omega), ho110.blk (hO.blk hB11 (by omega)) (by omega), hB14z, (gC.only ho110 (gC.off g14)).rd,
                      defR_app (gA.only ho110 (gA.off g14)).rd (gB.only ho110 (gB.off g14)).rd (Sl.own (own_only hown109 ho110 (fun k hk he => by subst he; exact own_off hown109 g14 (by decide) hk))),
                      (hx.trans' hO (fun _ h => h) (fun k hk h => by omega)).trans' ho110 (fun _ h => h) (fun k hk he => by omega)⟩ : w110.heap[b10]? = some (.cells #[dv34] 28 (0, 0)) ∧ w110.heap[b11]? = some (.cells (faultV C.2.1 C.2.2) 49 (0, 0)) ∧ w110.heap[b14]? = some (.cells #[v109] 28 (0, 0)) ∧ DefR w110 C.1 dv34 V34 ∧ DefR w110 (A.1.map bareD ++ B.1.map bareD) v109 _ ∧ Ext w0 w110)
                    refine WA.done (by kernel_rfl) ?_
                    exact ⟨_, _, rfl, rfl, rfl, hfin⟩
                  · skip
                    refine WO.c rfl rfl (o_fa 0 TI28 rfl TI26 rfl rfl ?_)
                    refine WA.step (r := [3, 5]) (by kernel_rfl) (by decide) (all2 ?_ ?_)
                    · skip
                      refine WO.c rfl rfl (o_apO (wq.heap.size) TI26 TI40 (show _ = Value.slice _ _ _ from rfl) rfl h103 (Sl.own (hDA.only hO hqA).row) rfl (by decide) (one_drows (fun j hj => own_one (hDA.tys.row j hj))) (by rw [maxLen_eq, List.length_map]; omega) (by rw [List.length_map]; omega) hO.size ?_)
                      intro v106 w106 hown106 ho106 hb106 _
                      replace hO := hO.trans' ho106 (fun _ h => h) (fun k _ hk => (h103.lt k hk).1)
                      rw [Nat.zero_add, List.nil_append] at hown106
                      clear ho106 hb106
                      refine WA.step (r := [5]) (by kernel_rfl) (by decide) (all1 ?_)
                      refine WO.c rfl rfl (o_ld TI26 rfl rfl (cell_of (hO.blk hB15 (by omega)) rfl) ?_)
                      refine WA.step (r := [6]) (by kernel_rfl) (by decide) (all1 ?_)
                      refine WO.c rfl rfl (o_apO (wq.heap.size) TI26 TI40 rfl rfl hown106 (Sl.own (hDB.only hO hqB).row) rfl (by decide) (one_drows (fun j hj => own_one (hDB.tys.row j hj))) (by rw [maxLen_eq, List.length_map, List.length_map]; omega) (by rw [List.length_map, List.length_map]; omega) hO.size ?_)
                      intro v109 w109 hown109 ho109 hb109 _
                      replace hO := hO.trans' ho109 (fun _ h => h) (fun k _ hk => (hown106.lt k hk).1)
                      clear ho109 hb109
                      refine WA.step (r := [7]) (by kernel_rfl) (by decide) (all1 ?_)
                      refine WO.c rfl rfl (o_fa 0 TI28 rfl TI26 rfl rfl ?_)
                      refine WA.step (r := [8]) (by kernel_rfl) (by decide) (all1 ?_)
                      refine WO.u rfl (o_stB TI26 rfl (show _ = v109 from rfl) (own_one hown109) (hO.blk hB14 (by omega)) (show 0 < 1 by decide) ?_)
                      intro w110 hB14z ho110 hs110
                      replace hB14z : w110.heap[b14]? = some (.cells #[v109] 28 (0, 0)) := hB14z
                      have g14 := hO.blk hB14 (by omega)
                      have gC := hD34.only hO hqC
                      have gA := hDA.only hO hqA
                      have gB := hDB.only hO hqB
                      have hfin := (⟨ho110.blk (hO.blk hB10 (by omega)) (by omega), ho110.blk (hO.blk hB11 (by omega)) (by omega), hB14z, (gC.only ho110 (gC.off g14)).rd,
                        defR_app (gA.only ho110 (gA.off g14)).rd (gB.only ho110 (gB.off g14)).rd (Sl.own (own_only hown109 ho110 (fun k hk he => by subst he; exact own_off hown109 g14 (by decide) hk))),
                        (hx.trans' hO (fun _ h => h) (fun k hk h => by omega)).trans' ho110 (fun _ h => h) (fun k hk he => by omega)⟩ : w110.heap[b10]? = some (.cells #[dv34] 28 (0, 0)) ∧ w110.heap[b11]? = some (.cells (faultV C.2.1 C.2.2) 49 (0, 0)) ∧ w110.heap[b14]? = some (.cells #[v109] 28 (0, 0)) ∧ DefR w110 C.1 dv34 V34 ∧ DefR w110 (A.1.map bareD ++ B.1.map bareD) v109 _ ∧ Ext w0 w110)
                      refine WA.done (by kernel_rfl) ?_
                      exact ⟨_, _, rfl, rfl, rfl, hfin⟩
                    · skip
                      refine WO.c rfl rfl (o_ld TI26 rfl rfl (cell_of (hO.blk hB15 (by omega)) rfl) ?_)
                      refine WA.step (r := [3]) (by kernel_rfl) (by decide) (all1 ?_)
                      refine WO.c rfl rfl (o_apO (wq.heap.size) TI26 TI40 (show _ = Value.slice _ _ _ from rfl) rfl h103 (Sl.own (hDA.only hO hqA).row) rfl (by decide) (one_drows (fun j hj => own_one (hDA.tys.row j hj))) (by rw [maxLen_eq, List.length_map]; omega) (by rw [List.length_map]; omega) hO.size ?_)
                      intro v106 w106 hown106 ho106 hb106 _
                      replace hO := hO.trans' ho106 (fun _ h => h) (fun k _ hk => (h103.lt k hk).1)
                      rw [Nat.zero_add, List.nil_append] at hown106
                      clear ho106 hb106
                      refine WA.step (r := [6]) (by kernel_rfl) (by decide) (all1 ?_)
                      refine WO.c rfl rfl (o_apO (wq.heap.size) TI26 TI40 rfl rfl hown106 (Sl.own (hDB.only hO hqB).row) rfl (by decide) (one_drows (fun j hj => own_one (hDB.tys.row j hj))) (by rw [maxLen_eq, List.length_map, List.length_map]; omega) (by rw [List.length_map, List.length_map]; omega) hO.size ?_)
                      intro v109 w109 hown109 ho109 hb109 _
                      replace hO := hO.trans' ho109 (fun _ h => h) (fun k _ hk => (hown106.lt k hk).1)
                      clear ho109 hb109
                      refine WA.step (r := [7]) (by kernel_rfl) (by decide) (all1 ?_)
                      refine WO.c rfl rfl (o_fa 0 TI28 rfl TI26 rfl rfl ?_)
                      refine WA.step (r := [8]) (by kernel_rfl) (by decide) (all1 ?_)
                      refine WO.u rfl (o_stB TI26 rfl (show _ = v109 from rfl) (own_one hown109) (hO.blk hB14 (by omega)) (show 0 < 1 by decide) ?_)
                      intro w110 hB14z ho110 hs110
                      replace hB14z : w110.heap[b14]? = some (.cells #[v109] 28 (0, 0)) := hB14z
                      have g14 := hO.blk hB14 (by omega)
                      have gC := hD34.only hO hqC
                      have gA := hDA.only hO hqA
                      have gB := hDB.only hO hqB
                      have hfin := (⟨ho110.blk (hO.blk hB10 (by omega)) (by omega), ho110.blk (hO.blk hB11 (by omega)) (by omega), hB14z, (gC.only ho110 (gC.off g14)).rd,
                        defR_app (gA.only ho110 (gA.off g14)).rd (gB.only ho110 (gB.off g14)).rd (Sl.own (own_only hown109 ho110 (fun k hk he => by subst he; exact own_off hown109 g14 (by decide) hk))),
                        (hx.trans' hO (fun _ h => h) (fun k hk h => by omega)).trans' ho110 (fun _ h => h) (fun k hk he => by omega)⟩ : w110.heap[b10]? = some (.cells #[dv34] 28 (0, 0)) ∧ w110.heap[b11]? = some (.cells (faultV C.2.1 C.2.2) 49 (0, 0)) ∧ w110.heap[b14]? = some (.cells #[v109] 28 (0, 0)) ∧ DefR w110 C.1 dv34 V34 ∧ DefR w110 (A.1.map bareD ++ B.1.map bareD) v109 _ ∧ Ext w0 w110)
                      refine WA.done (by kernel_rfl) ?_
                      exact ⟨_, _, rfl, rfl, rfl, hfin⟩
                · skip
                  refine WO.c rfl rfl (o_fa 0 TI28 rfl TI26 rfl rfl ?_)
                  refine WA.step (r := [0, 5]) (by kernel_rfl) (by decide) (all2 ?_ ?_)
                  · skip
                    refine WO.c rfl rfl (o_bs0 TI26 TI40 ?_)
                    have h103 := own_new0 (w := wq) (el := 40) (s := 3)
                    replace hO : Only (fun k => wq.heap.size ≤ k) wq (wq.alloc (.cells #[] 40)) := (Only.alloc wq _).mono (fun _ _ h => h.elim)
                    generalize wq.alloc (.cells #[] 40) = w3 at *
                    refine WA.step (r := [3, 5]) (by kernel_rfl) (by decide) (all2 ?_ ?_)
                    · skip
                      refine WO.c rfl rfl (o_apO (wq.heap.size) TI26 TI40 (show _ = Value.slice _ _ _ from rfl) rfl h103 (Sl.own (hDA.only hO hqA).row) rfl (by decide) (one_drows (fun j hj => own_one (hDA.tys.row j hj))) (by rw [maxLen_eq, List.length_map]; omega) (by rw [List.length_map]; omega) hO.size ?_)
                      intro v106 w106 hown106 ho106 hb106 _
                      replace hO := hO.trans' ho106 (fun _ h => h) (fun k _ hk => (h103.lt k hk).1)
                      rw [Nat.zero_add, List.nil_append] at hown106
                      clear ho106 hb106
                      refine WA.step (r := [5]) (by kernel_rfl) (by decide) (all1 ?_)
                      refine WO.c rfl rfl (o_ld TI26 rfl rfl (cell_of (hO.blk hB15 (by omega)) rfl) ?_)
                      refine WA.step (r := [6]) (by kernel_rfl) (by decide) (all1 ?_)
                      refine WO.c rfl rfl (o_apO (wq.heap.size) TI26 TI40 rfl rfl hown106 (Sl.own (hDB.only hO hqB).row) rfl (by decide) (one_drows (fun j hj => own_one (hDB.tys.row j hj))) (by rw [maxLen_eq, List.length_map, List.length_map]; omega) (by rw [List.length_map, List.length_map]; omega) hO.size ?_)
                      intro v109 w109 hown109 ho109 hb109 _
                      replace hO := hO.trans' ho109 (fun _ h => h) (fun k _ hk => (hown106.lt k hk).1)
                      clear ho109 hb109
                      refine WA.step (r := [7]) (by kernel_rfl) (by decide) (all1 ?_)
                      refine WO.c rfl rfl (o_fa 0 TI28 rfl TI26 rfl rfl ?_)
                      refine WA.step (r := [8]) (by kernel_rfl) (by decide) (all1 ?_)
                      refine WO.u rfl (o_stB TI26 rfl (show _ = v109 from rfl) (own_one hown109) (hO.blk hB14 (by omega)) (show 0 < 1 by decide) ?_)
                      intro w110 hB14z ho110 hs110
                      replace hB14z : w110.heap[b14]? = some (.cells #[v109] 28 (0, 0)) := hB14z
                      have g14 := hO.blk hB14 (by omega)
                      have gC := hD34.only hO hqC
                      have gA := hDA.only hO hqA
                      have gB := hDB.only hO hqB
                      have hfin := (⟨ho110.blk (hO.blk hB10 (by omega)) (by omega), ho110.blk (hO.blk hB11 (by omega)) (by omega), hB14z, (gC.only ho110 (gC.off g14)).rd,
                        defR_app (gA.only ho110 (gA.off g14)).rd (gB.only ho110 (gB.off g14)).rd (Sl.own (own_only hown109 ho110 (fun k hk he => by subst he; exact own_off hown109 g14 (by decide) hk))),
                        (hx.trans' hO (fun _ h => h) (fun k hk h => by omega)).trans' ho110 (fun _ h => h) (fun k hk he => by omega)⟩ : w110.heap[b10]? = some (.cells #[dv34] 28 (0, 0)) ∧ w110.heap[b11]? = some (.cells (faultV C.2.1 C.2.2) 49 (0, 0)) ∧ w110.heap[b14]? = some (.cells #[v109] 28 (0, 0)) ∧ DefR w110 C.1 dv34 V34 ∧ DefR w110 (A.1.map bareD ++ B.1.map bareD) v109 _ ∧ Ext w0 w110)
                      refine WA.done (by kernel_rfl) ?_
                      exact ⟨_, _, rfl, rfl, rfl, hfin⟩
                    · skip
                      refine WO.c rfl rfl (o_ld TI26 rfl rfl (cell_of (hO.blk hB15 (by omega)) rfl) ?_)
                      refine WA.step (r := [3]) (by kernel_rfl) (by decide) (all1 ?_)
                      refine WO.c rfl rfl (o_apO (wq.heap.size) TI26 TI40 (show _ = Value.slice _ _ _ from rfl) rfl h103 (Sl.own (hDA.only hO hqA).row) rfl (by decide) (one_drows (fun j hj => own_one (hDA.tys.row j hj))) (by rw [maxLen_eq, List.length_map]; omega) (by rw [List.length_map]; omega) hO.size ?_)
                      intro v106 w106 hown106 ho106 hb106 _
                      replace hO := hO.trans' ho106 (fun _ h => h) (fun k _ hk => (h103.lt k hk).1)
                      rw [Nat.zero_add, List.nil_append] at hown106
                      clear ho106 hb106
                      refine WA.step (r := [6]) (by kernel_rfl) (by decide) (all1 ?_)
                      refine WO.c rfl rfl (o_apO (wq.heap.size) TI26 TI40 rfl rfl hown106 (Sl.own (hDB.only hO hqB).row) rfl (by decide) (one_drows (fun j hj => own_one (hDB.tys.row j hj))) (by rw [maxLen_eq, List.length_map, List.length_map]; omega) (by rw [List.length_map, List.length_map]; omega) hO.size ?_)
                      intro v109 w109 hown109 ho109 hb109 _
                      replace hO := hO.trans' ho109 (fun _ h => h) (fun k _ hk => (hown106.lt k hk).1)
                      clear ho109 hb109
                      refine WA.step (r := [7]) (by kernel_rfl) (by decide) (all1 ?_)
                      refine WO.c rfl rfl (o_fa 0 TI28 rfl TI26 rfl rfl ?_)
                      refine WA.step (r := [8]) (by kernel_rfl) (by decide) (all1 ?_)
                      refine WO.u rfl (o_stB TI26 rfl (show _ = v109 from rfl) (own_one hown109) (hO.blk hB14 (by omega)) (show 0 < 1 by decide) ?_)
                      intro w110 hB14z ho110 hs110
                      replace hB14z : w110.heap[b14]? = some (.cells #[v109] 28 (0, 0)) := hB14z
                      have g14 := hO.blk hB14 (by omega)
                      have gC := hD34.only hO hqC
                      have gA := hDA.only hO hqA
                      have gB := hDB.only hO hqB
                      have hfin := (⟨ho110.blk (hO.blk hB10 (by omega)) (by omega), ho110.blk (hO.blk hB11 (by omega)) (by omega), hB14z, (gC.only ho110 (gC.off g14)).rd,
                        defR_app (gA.only ho110 (gA.off g14)).rd (gB.only ho110 (gB.off g14)).rd (Sl.own (own_only hown109 ho110 (fun k hk he => by subst he; exact own_off hown109 g14 (by decide) hk))),
                        (hx.trans' hO (fun _ h => h) (fun k hk h => by omega)).trans' ho110 (fun _ h => h) (fun k hk he => by omega)⟩ : w110.heap[b10]? = some (.cells #[dv34] 28 (0, 0)) ∧ w110.heap[b11]? = some (.cells (faultV C.2.1 C.2.2) 49 (0, 0)) ∧ w110.heap[b14]? = some (.cells #[v109] 28 (0, 0)) ∧ DefR w110 C.1 dv34 V34 ∧ DefR w110 (A.1.map bareD ++ B.1.map bareD) v109 _ ∧ Ext w0 w110)
                      refine WA.done (by kernel_rfl) ?_
                      exact ⟨_, _, rfl, rfl, rfl, hfin⟩
                  · skip
                    refine WO.c rfl rfl (o_ld TI26 rfl rfl (cell_of (hO.blk hB15 (by omega)) rfl) ?_)
                    refine WA.step (r := [0]) (by kernel_rfl) (by decide) (all1 ?_)
                    refine WO.c rfl rfl (o_bs0 TI26 TI40 ?_)
                    have h103 := own_new0 (w := wq) (el := 40) (s := 3)
                    replace hO : Only (fun k => wq.heap.size ≤ k) wq (wq.alloc (.cells #[] 40)) := (Only.alloc wq _).mono (fun _ _ h => h.elim)
                    generalize wq.alloc (.cells #[] 40) = w3 at *
                    refine WA.step (r := [3]) (by kernel_rfl) (by decide) (all1 ?_)
                    refine WO.c rfl rfl (o_apO (wq.heap.size) TI26 TI40 (show _ = Value.slice _ _ _ from rfl) rfl h103 (Sl.own (hDA.only hO hqA).row) rfl (by decide) (one_drows (fun j hj => own_one (hDA.tys.row j hj))) (by rw [maxLen_eq, List.length_map]; omega) (by rw [List.length_map]; omega) hO.size ?_)
                    intro v106 w106 hown106 ho106 hb106 _
                    replace hO := hO.trans' ho106 (fun _ h => h) (fun k _ hk => (h103.lt k hk).1)
                    rw [Nat.zero_add, List.nil_append] at hown106
                    clear ho106 hb106
                    refine WA.step (r := [6]) (by kernel_rfl) (by decide) (all1 ?_)
                    refine WO.c rfl rfl (o_apO (wq.heap.size) TI26 TI40 rfl rfl hown106 (Sl.own (hDB.only hO hqB).row) rfl (by decide) (one_drows (fun j hj => own_one (hDB.tys.row j hj))) (by rw [maxLen_eq, List.length_map, List.length_map]; omega) (by rw [List.length_map, List.length_map]; omega) hO.size ?_)
                    intro v109 w109 hown109 ho109 hb109 _
                    replace hO := hO.trans' ho109 (fun _ h => h) (fun k _ hk => (hown106.lt k hk).1)
                    clear ho109 hb109
                    refine WA.step (r := [7]) (by kernel_rfl) (by decide) (all1 ?_)
                    refine WO.c rfl rfl (o_fa 0 TI28 rfl TI26 rfl rfl ?_)
                    refine WA.step (r := [8]) (by kernel_rfl) (by decide) (all1 ?_)
                    refine WO.u rfl (o_stB TI26 rfl (show _ = v109 from rfl) (own_one hown109) (hO.blk hB14 (by omega)) (show 0 < 1 by decide) ?_)
                    intro w110 hB14z ho110 hs110
                    replace hB14z : w110.heap[b14]? = some (.cells #[v109] 28 (0, 0)) := hB14z
                    have g14 := hO.blk hB14 (by omega)
                    have gC := hD34.only hO hqC
                    have gA := hDA.only hO hqA
                    have gB := hDB.only hO hqB
                    have hfin := (⟨ho110.blk (hO.blk hB10 (by omega)) (by omega), ho110.blk (hO.blk hB11 (by omega)) (by omega), hB14z, (gC.only ho110 (gC.off g14)).rd,
                      defR_app (gA.only ho110 (gA.off g14)).rd (gB.only ho110 (gB.off g14)).rd (Sl.own (own_only hown109 ho110 (fun k hk he => by subst he; exact own_off hown109 g14 (by decide) hk))),
                      (hx.trans' hO (fun _ h => h) (fun k hk h => by omega)).trans' ho110 (fun _ h => h) (fun k hk he => by omega)⟩ : w110.heap[b10]? = some (.cells #[dv34] 28 (0, 0)) ∧ w110.heap[b11]? = some (.cells (faultV C.2.1 C.2.2) 49 (0, 0)) ∧ w110.heap[b14]? = some (.cells #[v109] 28 (0, 0)) ∧ DefR w110 C.1 dv34 V34 ∧ DefR w110 (A.1.map bareD ++ B.1.map bareD) v109 _ ∧ Ext w0 w110)
                    refine WA.done (by kernel_rfl) ?_
                    exact ⟨_, _, rfl, rfl, rfl, hfin⟩
              · skip
                refine WO.c rfl rfl (o_fa 0 TI28 rfl TI26 rfl rfl ?_)
                refine WA.step (r := [0, 2, 5]) (by kernel_rfl) (by decide) (all3 ?_ ?_ ?_)
                · skip
                  refine WO.c rfl rfl (o_bs0 TI26 TI40 ?_)
                  have h103 := own_new0 (w := wq) (el := 40) (s := 3)
                  replace hO : Only (fun k => wq.heap.size ≤ k) wq (wq.alloc (.cells #[] 40)) := (Only.alloc wq _).mono (fun _ _ h => h.elim)
                  generalize wq.alloc (.cells #[] 40) = w3 at *
                  refine WA.step (r := [2, 5]) (by kernel_rfl) (by decide) (all2 ?_ ?_)
                  · skip
                    refine WO.c rfl rfl (o_ld TI26 rfl rfl (cell_of (hO.blk hB14 (by omega)) rfl) ?_)
                    refine WA.step (r := [3, 5]) (by kernel_rfl) (by decide) (all2 ?_ ?_)
                    · skip
                      refine WO.c rfl rfl (o_apO (wq.heap.size) TI26 TI40 (show _ = Value.slice _ _ _ from rfl) rfl h103 (Sl.own (hDA.only hO hqA).row) rfl (by decide) (one_drows (fun j hj => own_one (hDA.tys.row j hj))) (by rw [maxLen_eq, List.length_map]; omega) (by rw [List.length_map]; omega) hO.size ?_)
                      intro v106 w106 hown106 ho106 hb106 _
                      replace hO := hO.trans' ho106 (fun _ h => h) (fun k _ hk => (h103.lt k hk).1)
                      rw [Nat.zero_add, List.nil_append] at hown106
                      clear ho106 hb106
                      refine WA.step (r := [5]) (by kernel_rfl) (by decide) (all1 ?_)
                      refine WO.c rfl rfl (o_ld TI26 rfl rfl (cell_of (hO.blk hB15 (by omega)) rfl) ?_)
                      refine WA.step (r := [6]) (by kernel_rfl) (by decide) (all1 ?_)
                      refine WO.c rfl rfl (o_apO (wq.heap.size) TI26 TI40 rfl rfl hown106 (Sl.own (hDB.only hO hqB).row) rfl (by decide) (one_drows (fun j hj => own_one (hDB.tys.row j hj))) (by rw [maxLen_eq, List.length_map, List.length_map]; omega) (by rw [List.length_map, List.length_map]; omega) hO.size ?_)
                      intro v109 w109 hown109 ho109 hb109 _
                      replace hO := hO.trans' ho109 (fun _ h => h) (fun k _ hk => (hown106.lt k hk).1)
                      clear ho109 hb109
                      refine WA.step (r := [7]) (by kernel_rfl) (by decide) (all1 ?_)
                      refine WO.c rfl rfl (o_fa 0 TI28 rfl TI26 rfl rfl ?_)
                      refine WA.step (r := [8]) (by kernel_rfl) (by decide) (all1 ?_)
                      refine WO.u rfl (o_stB TI26 rfl (show _ = v109 from rfl) (own_one hown109) (hO.blk hB14 (by omega)) (show 0 < 1 by decide) ?_)
                      intro w110 hB14z ho110 hs110
                      replace hB14z : w110.heap[b14]? = some (.cells #[v109] 28 (0, 0)) := hB14z
                      have g14 := hO.blk hB14 (by omega)
                      have gC := hD34.only hO hqC
                      have gA := hDA.only hO hqA
                      have gB := hDB.only hO hqB
                      have hfin := (⟨ho110.blk (hO.blk hB10 (by omega)) (by omega), ho110.blk (hO.blk hB11 (by omega)) (by omega), hB14z, (gC.only ho110 (gC.off g14)).rd,
                        defR_app (gA.only ho110 (gA.off g14)).rd (gB.only ho110 (gB.off g14)).rd (Sl.own (own_only hown109 ho110 (fun k hk he => by subst he; exact own_off hown109 g14 (by decide) hk))),
                        (hx.trans' hO (fun _ h => h) (fun k hk h => by omega)).trans' ho110 (fun _ h => h) (fun k hk he => by omega)⟩ : w110.heap[b10]? = some (.cells #[dv34] 28 (0, 0)) ∧ w110.heap[b11]? = some (.cells (faultV C.2.1 C.2.2) 49 (0, 0)) ∧ w110.heap[b14]? = some (.cells #[v109] 28 (0, 0)) ∧ DefR w110 C.1 dv34 V34 ∧ DefR w110 (A.1.map bareD ++ B.1.map bareD) v109 _ ∧ Ext w0 w110)
                      refine WA.done (by kernel_rfl) ?_
                      exact ⟨_, _, rfl, rfl, rfl, hfin⟩
                    · skip
                      refine WO.c rfl rfl (o_ld TI26 rfl rfl (cell_of (hO.blk hB15 (by omega)) rfl) ?_)
                      refine WA.step (r := [3]) (by kernel_rfl) (by decide) (all1 ?_)
                      refine WO.c rfl rfl (o_apO (wq.heap.size) TI26 TI40 (show _ = Value.slice _ _ _ from rfl) rfl h103 (Sl.own (hDA.only hO hqA).row) rfl (by decide) (one_drows (fun j hj => own_one (hDA.tys.row j hj))) (by rw [maxLen_eq, List.length_map]; omega) (by rw [List.length_map]; omega) hO.size ?_)
                      intro v106 w106 hown106 ho106 hb106 _
                      replace hO := hO.trans' ho106 (fun _ h => h) (fun k _ hk => (h103.lt k hk).1)
                      rw [Nat.zero_add, List.nil_append] at hown106
                      clear ho106 hb106
                      refine WA.step (r := [6]) (by kernel_rfl) (by decide) (all1 ?_)
                      refine WO.c rfl rfl (o_apO (wq.heap.size) TI26 TI40 rfl rfl hown106 (Sl.own (hDB.only hO hqB).row) rfl (by decide) (one_drows (fun j hj => own_one (hDB.tys.row j hj))) (by rw [maxLen_eq, List.length_map, List.length_map]; omega) (by rw [List.length_map, List.length_map]; omega) hO.size ?_)
                      intro v109 w109 hown109 ho109 hb109 _
                      replace hO := hO.trans' ho109 (fun _ h => h) (fun k _ hk => (hown106.lt k hk).1)
                      clear ho109 hb109
                      refine WA.step (r := [7]) (by kernel_rfl) (by decide) (all1 ?_)
                      refine WO.c rfl rfl (o_fa 0 TI28 rfl TI26 rfl rfl ?_)
                      refine WA.step (r := [8]) (by kernel_rfl) (by decide) (all1 ?_)
                      refine WO.u rfl (o_stB TI26 rfl (show _ = v109 from rfl) (own_one hown109) (hO.blk hB14 (by omega)) (show 0 < 1 by decide) ?_)
                      intro w110 hB14z ho110 hs110
                      replace hB14z : w110.heap[b14]? = some (.cells #[v109] 28 (0, 0)) := hB14z
                      have g14 := hO.blk hB14 (by omega)
                      have gC := hD34.only hO hqC
                      have gA := hDA.only hO hqA
                      have gB := hDB.only hO hqB
                      have hfin := (⟨ho110.blk (hO.blk hB10 (by omega)) (by omega), ho110.blk (hO.blk hB11 (by omega)) (by omega), hB14z, (gC.only ho110 (gC.off g14)).rd,
                        defR_app (gA.only ho110 (gA.off g14)).rd (gB.only ho110 (gB.off g14)).rd (Sl.own (own_only hown109 ho110 (fun k hk he => by subst he; exact own_off hown109 g14 (by decide) hk))),
                        (hx.trans' hO (fun _ h => h) (fun k hk h => by omega)).trans' ho110 (fun _ h => h) (fun k hk he => by omega)⟩ : w110.heap[b10]? = some (.cells #[dv34] 28 (0, 0)) ∧ w110.heap[b11]? = some (.cells (faultV C.2.1 C.2.2) 49 (0, 0)) ∧ w110.heap[b14]? = some (.cells #[v109] 28 (0, 0)) ∧ DefR w110 C.1 dv34 V34 ∧ DefR w110 (A.1.map bareD ++ B.1.map bareD) v109 _ ∧ Ext w0 w110)
                      refine WA.done (by kernel_rfl) ?_
                      exact ⟨_, _, rfl, rfl, rfl, hfin⟩
                  · skip
                    refine WO.c rfl rfl (o_ld TI26 rfl rfl (cell_of (hO.blk hB15 (by omega)) rfl) ?_)
                    refine WA.step (r := [2]) (by kernel_rfl) (by decide) (all1 ?_)
                    refine WO.c rfl rfl (o_ld TI26 rfl rfl (cell_of (hO.blk hB14 (by omega)) rfl) ?_)
                    refine WA.step (r := [3]) (by kernel_rfl) (by decide) (all1 ?_)
                    refine WO.c rfl rfl (o_apO (wq.heap.size) TI26 TI40 (show _ = Value.slice _ _ _ from rfl) rfl h103 (Sl.own (hDA.only hO hqA).row) rfl (by decide) (one_drows (fun j hj => own_one (hDA.tys.row j hj))) (by rw [maxLen_eq, List.length_map]; omega) (by rw [List.length_map]; omega) hO.size ?_)
                    intro v106 w106 hown106 ho106 hb106 _
                    replace hO := hO.trans' ho106 (fun _ h => h) (fun k _ hk => (h103.lt k hk).1)
                    rw [Nat.zero_add, List.nil_append] at hown106
                    clear ho106 hb106
                    refine WA.step (r := [6]) (by kernel_rfl) (by decide) (all1 ?_)
                    refine WO.c rfl rfl (o_apO (wq.heap.size) TI26 TI40 rfl rfl hown106 (Sl.own (hDB.only hO hqB).row) rfl (by decide) (one_drows (fun j hj => own_one (hDB.tys.row j hj))) (by rw [maxLen_eq, List.length_map, List.length_map]; omega) (by rw [List.length_map, List.length_map]; omega) hO.size ?_)
                    intro v109 w109 hown109 ho109 hb109 _
                    replace hO := hO.trans' ho109 (fun _ h => h) (fun k _ hk => (hown106.lt k hk).1)
                    clear ho109 hb109
                    refine WA.step (r := [7]) (by kernel_rfl) (by decide) (all1 ?_)
                    refine WO.c rfl rfl (o_fa 0 TI28 rfl TI26 rfl rfl ?_)
                    refine WA.step (r := [8]) (by kernel_rfl) (by decide) (all1 ?_)
                    refine WO.u rfl (o_stB TI26 rfl (show _ = v109 from rfl) (own_one hown109) (hO.blk hB14 (by omega)) (show 0 < 1 by decide) ?_)
                    intro w110 hB14z ho110 hs110
                    replace hB14z : w110.heap[b14]? = some (.cells #[v109] 28 (0, 0)) := hB14z
                    have g14 := hO.blk hB14 (by omega)
                    have gC := hD34.only hO hqC
                    have gA := hDA.only hO hqA
                    have gB := hDB.only hO hqB
                    have hfin := (⟨ho110.blk (hO.blk hB10 (by omega)) (by omega), ho110.blk (hO.blk hB11 (by omega)) (by omega), hB14z, (gC.only ho110 (gC.off g14)).rd,
                      defR_app (gA.only ho110 (gA.off g14)).rd (gB.only ho110 (gB.off g14)).rd (Sl.own (own_only hown109 ho110 (fun k hk he => by subst he; exact own_off hown109 g14 (by decide) hk))),
                      (hx.trans' hO (fun _ h => h) (fun k hk h => by omega)).trans' ho110 (fun _ h => h) (fun k hk he => by omega)⟩ : w110.heap[b10]? = some (.cells #[dv34] 28 (0, 0)) ∧ w110.heap[b11]? = some (.cells (faultV C.2.1 C.2.2) 49 (0, 0)) ∧ w110.heap[b14]? = some (.cells #[v109] 28 (0, 0)) ∧ DefR w110 C.1 dv34 V34 ∧ DefR w110 (A.1.map bareD ++ B.1.map bareD) v109 _ ∧ Ext w0 w110)
                    refine WA.done (by kernel_rfl) ?_
                    exact ⟨_, _, rfl, rfl, rfl, hfin⟩
                · skip
                  refine WO.c rfl rfl (o_ld TI26 rfl rfl (cell_of (hO.blk hB14 (by omega)) rfl) ?_)
                  refine WA.step (r := [0, 5]) (by kernel_rfl) (by decide) (all2 ?_ ?_)
                  · skip
                    refine WO.c rfl rfl (o_bs0 TI26 TI40 ?_)
                    have h103 := own_new0 (w := wq) (el := 40) (s := 3)
                    replace hO : Only (fun k => wq.heap.size ≤ k) wq (wq.alloc (.cells #[] 40)) := (Only.alloc wq _).mono (fun _ _ h => h.elim)
                    generalize wq.alloc (.cells #[] 40) = w3 at *
                    refine WA.step (r := [3, 5]) (by kernel_rfl) (by decide) (all2 ?_ ?_)
                    · skip
                      refine WO.c rfl rfl (o_apO (wq.heap.size) TI26 TI40 (show _ = Value.slice _ _ _ from rfl) rfl h103 (Sl.own (hDA.only hO hqA).row) rfl (by decide) (one_drows (fun j hj => own_one (hDA.tys.row j hj))) (by rw [maxLen_eq, List.length_map]; omega) (by rw [List.length_map]; omega) hO.size ?_)
                      intro v106 w106 hown106 ho106 hb106 _
                      replace hO := hO.trans' ho106 (fun _ h => h) (fun k _ hk => (h103.lt k hk).1)
                      rw [Nat.zero_add, List.nil_append] at hown106
                      clear ho106 hb106
                      refine WA.step (r := [5]) (by kernel_rfl) (by decide) (all1 ?_)
                      refine WO.c rfl rfl (o_ld TI26 rfl rfl (cell_of (hO.blk hB15 (by omega)) rfl) ?_)
                      refine WA.step (r := [6]) (by kernel_rfl) (by decide) (all1 ?_)
                      refine WO.c rfl rfl (o_apO (wq.heap.size) TI26 TI40 rfl rfl hown106 (Sl.own (hDB.only hO hqB).row) rfl (by decide) (one_drows (fun j hj => own_one (hDB.tys.row j hj))) (by rw [maxLen_eq, List.length_map, List.length_map]; omega) (by rw [List.length_map, List.length_map]; omega) hO.size ?_)
                      intro v109 w109 hown109 ho109 hb109 _
                      replace hO := hO.trans' ho109 (fun _ h => h) (fun k _ hk => (hown106.lt k hk).1)
                      clear ho109 hb109
                      refine WA.step (r := [7]) (by kernel_rfl) (by decide) (all1 ?_)
                      refine WO.c rfl rfl (o_fa 0 TI28 rfl TI26 rfl rfl ?_)
                      refine WA.step (r := [8]) (by kernel_rfl) (by decide) (all1 ?_)
                      refine WO.u rfl (o_stB TI26 rfl (show _ = v109 from rfl) (own_one hown109) (hO.blk hB14 (by omega)) (show 0 < 1 by decide) ?_)
                      intro w110 hB14z ho110 hs110
                      replace hB14z : w110.heap[b14]? = some (.cells #[v109] 28 (0, 0)) := hB14z
                      have g14 := hO.blk hB14 (by omega)
                      have gC := hD34.only hO hqC
                      have gA := hDA.only hO hqA
                      have gB := hDB.only hO hqB
                      have hfin := (⟨ho110.blk (hO.blk hB10 (by omega)) (by omega), ho110.blk (hO.blk hB11 (by omega)) (by omega), hB14z, (gC.only ho110 (gC.off g14)).rd,
                        defR_app (gA.only ho110 (gA.off g14)).rd (gB.only ho110 (gB.off g14)).rd (Sl.own (own_only hown109 ho110 (fun k hk he => by subst he; exact own_off hown109 g14 (by decide) hk))),
                        (hx.trans' hO (fun _ h => h) (fun k hk h => by omega)).trans' ho110 (fun _ h => h) (fun k hk he => by omega)⟩ : w110.heap[b10]? = some (.cells #[dv34] 28 (0, 0)) ∧ w110.heap[b11]? = some (.cells (faultV C.2.1 C.2.2) 49 (0, 0)) ∧ w110.heap[b14]? = some (.cells #[v109] 28 (0, 0)) ∧ DefR w110 C.1 dv34 V34 ∧ DefR w110 (A.1.map bareD ++ B.1.map bareD) v109 _ ∧ Ext w0 w110)
                      refine WA.done (by kernel_rfl) ?_
                      exact ⟨_, _, rfl, rfl, rfl, hfin⟩
                    · skip
                      refine WO.c rfl rfl (o_ld TI26 rfl rfl (cell_of (hO.blk hB15 (by omega)) rfl) ?_)
                      refine WA.step (r := [3]) (by kernel_rfl) (by decide) (all1 ?_)
                      refine WO.c rfl rfl (o_apO (wq.heap.size) TI26 TI40 (show _ = Value.slice _ _ _ from rfl) rfl h103 (Sl.own (hDA.only hO hqA).row) rfl (by decide) (one_drows (fun j hj => own_one (hDA.tys.row j hj))) (by rw [maxLen_eq, List.length_map]; omega) (by rw [List.length_map]; omega) hO.size ?_)
                      intro v106 w106 hown106 ho106 hb106 _
                      replace hO := hO.trans' ho106 (fun _ h => h) (fun k _ hk => (h103.lt k hk).1)
                      rw [Nat.zero_add, List.nil_append] at hown106
                      clear ho106 hb106
                      refine WA.step (r := [6]) (by kernel_rfl) (by decide) (all1 ?_)
                      refine WO.c rfl rfl (o_apO (wq.heap.size) TI26 TI40 rfl rfl hown106 (Sl.own (hDB.only hO hqB).row) rfl (by decide) (one_drows (fun j hj => own_one (hDB.tys.row j hj))) (by rw [maxLen_eq, List.length_map, List.length_map]; omega) (by rw [List.length_map, List.length_map]; omega) hO.size ?_)
                      intro v109 w109 hown109 ho109 hb109 _
                      replace hO := hO.trans' ho109 (fun _ h => h) (fun k _ hk => (hown106.lt k hk).1)
                      clear ho109 hb109
                      refine WA.step (r := [7]) (by kernel_rfl) (by decide) (all1 ?_)
                      refine WO.c rfl rfl (o_fa 0 TI28 rfl TI26 rfl rfl ?_)
                      refine WA.step (r := [8]) (by kernel_rfl) (by decide) (all1 ?_)
                      refine WO.u rfl (o_stB TI26 rfl (show _ = v109 from rfl) (own_one hown109) (hO.blk hB14 (by omega)) (show 0 < 1 by decide) ?_)
                      intro w110 hB14z ho110 hs110
                      replace hB14z : w110.heap[b14]? = some (.cells #[v109] 28 (0, 0)) := hB14z
                      have g14 := hO.blk hB14 (by omega)
                      have gC := hD34.only hO hqC
                      have gA := hDA.only hO hqA
                      have gB := hDB.only hO hqB
                      have hfin := (⟨ho110.blk (hO.blk hB10 (by omega)) (by omega), ho110.blk (hO.blk hB11 (by omega)) (by omega), hB14z, (gC.only ho110 (gC.off g14)).rd,
                        defR_app (gA.only ho110 (gA.off g14)).rd (gB.only ho110 (gB.off g14)).rd (Sl.own (own_only hown109 ho110 (fun k hk he => by subst he; exact own_off hown109 g14 (by decide) hk))),
                        (hx.trans' hO (fun _ h => h) (fun k hk h => by omega)).trans' ho110 (fun _ h => h) (fun k hk he => by omega)⟩ : w110.heap[b10]? = some (.cells #[dv34] 28 (0, 0)) ∧ w110.heap[b11]? = some (.cells (faultV C.2.1 C.2.2) 49 (0, 0)) ∧ w110.heap[b14]? = some (.cells #[v109] 28 (0, 0)) ∧ DefR w110 C.1 dv34 V34 ∧ DefR w110 (A.1.map bareD ++ B.1.map bareD) v109 _ ∧ Ext w0 w110)
                      refine WA.done (by kernel_rfl) ?_
                      exact ⟨_, _, rfl, rfl, rfl, hfin⟩
                  · skip
                    refine WO.c rfl rfl (o_ld TI26 rfl rfl (cell_of (hO.blk hB15 (by omega)) rfl) ?_)
                    refine WA.step (r := [0]) (by kernel_rfl) (by decide) (all1 ?_)
                    refine WO.c rfl rfl (o_bs0 TI26 TI40 ?_)
                    have h103 := own_new0 (w := wq) (el := 40) (s := 3)
                    replace hO : Only (fun k => wq.heap.size ≤ k) wq (wq.alloc (.cells #[] 40)) := (Only.alloc wq _).mono (fun _ _ h => h.elim)
                    generalize wq.alloc (.cells #[] 40) = w3 at *
                    refine WA.step (r := [3]) (by kernel_rfl) (by decide) (all1 ?_)
                    refine WO.c rfl rfl (o_apO (wq.heap.size) TI26 TI40 (show _ = Value.slice _ _ _ from rfl) rfl h103 (Sl.own (hDA.only hO hqA).row) rfl (by decide) (one_drows (fun j hj => own_one (hDA.tys.row j hj))) (by rw [maxLen_eq, List.length_map]; omega) (by rw [List.length_map]; omega) hO.size ?_)
                    intro v106 w106 hown106 ho106 hb106 _
                    replace hO := hO.trans' ho106 (fun _ h => h) (fun k _ hk => (h103.lt k hk).1)
                    rw [Nat.zero_add, List.nil_append] at hown106
                    clear ho106 hb106
                    refine WA.step (r := [6]) (by kernel_rfl) (by decide) (all1 ?_)
                    refine WO.c rfl rfl (o_apO (wq.heap.size) TI26 TI40 rfl rfl hown106 (Sl.own (hDB.only hO hqB).row) rfl (by decide) (one_drows (fun j hj => own_one (hDB.tys.row j hj))) (by rw [maxLen_eq, List.length_map, List.length_map]; omega) (by rw [List.length_map, List.length_map]; omega) hO.size ?_)
                    intro v109 w109 hown109 ho109 hb109 _
                    replace hO := hO.trans' ho109 (fun _ h => h) (fun k _ hk => (hown106.lt k hk).1)
                    clear ho109 hb109
                    refine WA.step (r := [7]) (by kernel_rfl) (by decide) (all1 ?_)
                    refine WO.c rfl rfl (o_fa 0 TI28 rfl TI26 rfl rfl ?_)
                    refine WA.step (r := [8]) (by kernel_rfl) (by decide) (all1 ?_)
                    refine WO.u rfl (o_stB TI26 rfl (show _ = v109 from rfl) (own_one hown109) (hO.blk hB14 (by omega)) (show 0 < 1 by decide) ?_)
                    intro w110 hB14z ho110 hs110
                    replace hB14z : w110.heap[b14]? = some (.cells #[v109] 28 (0, 0)) := hB14z
                    have g14 := hO.blk hB14 (by omega)
                    have gC := hD34.only hO hqC
                    have gA := hDA.only hO hqA
                    have gB := hDB.only hO hqB
                    have hfin := (⟨ho110.blk (hO.blk hB10 (by omega)) (by omega), ho110.blk (hO.blk hB11 (by omega)) (by omega), hB14z, (gC.only ho110 (gC.off g14)).rd,
                      defR_app (gA.only ho110 (gA.off g14)).rd (gB.only ho110 (gB.off g14)).rd (Sl.own (own_only hown109 ho110 (fun k hk he => by subst he; exact own_off hown109 g14 (by decide) hk))),
                      (hx.trans' hO (fun _ h => h) (fun k hk h => by omega)).trans' ho110 (fun _ h => h) (fun k hk he => by omega)⟩ : w110.heap[b10]? = some (.cells #[dv34] 28 (0, 0)) ∧ w110.heap[b11]? = some (.cells (faultV C.2.1 C.2.2) 49 (0, 0)) ∧ w110.heap[b14]? = some (.cells #[v109] 28 (0, 0)) ∧ DefR w110 C.1 dv34 V34 ∧ DefR w110 (A.1.map bareD ++ B.1.map bareD) v109 _ ∧ Ext w0 w110)
                    refine WA.done (by kernel_rfl) ?_
                    exact ⟨_, _, rfl, rfl, rfl, hfin⟩
                · skip
                  refine WO.c rfl rfl (o_ld TI26 rfl rfl (cell_of (hO.blk hB15 (by omega)) rfl) ?_)
                  refine WA.step (r := [0, 2]) (by kernel_rfl) (by decide) (all2 ?_ ?_)
                  · skip
                    refine WO.c rfl rfl (o_bs0 TI26 TI40 ?_)
                    have h103 := own_new0 (w := wq) (el := 40) (s := 3)
                    replace hO : Only (fun k => wq.heap.size ≤ k) wq (wq.alloc (.cells #[] 40)) := (Only.alloc wq _).mono (fun _ _ h => h.elim)
                    generalize wq.alloc (.cells #[] 40) = w3 at *
                    refine WA.step (r := [2]) (by kernel_rfl) (by decide) (all1 ?_)
                    refine WO.c rfl rfl (o_ld TI26 rfl rfl (cell_of (hO.blk hB14 (by omega)) rfl) ?_)
                    refine WA.step (r := [3]) (by kernel_rfl) (by decide) (all1 ?_)
                    refine WO.c rfl rfl (o_apO (wq.heap.size) TI26 TI40 (show _ = Value.slice _ _ _ from rfl) rfl h103 (Sl.own (hDA.only hO hqA).row) rfl (by decide) (one_drows (fun j hj => own_one (hDA.tys.row j hj))) (by rw [maxLen_eq, List.length_map]; omega) (by rw [List.length_map]; omega) hO.size ?_)
                    intro v106 w106 hown106 ho106 hb106 _
                    replace hO := hO.trans' ho106 (fun _ h => h) (fun k _ hk => (h103.lt k hk).1)
                    rw [Nat.zero_add, List.nil_append] at hown106
                    clear ho106 hb106
                    refine WA.step (r := [6]) (by kernel_rfl) (by decide) (all1 ?_)
                    refine WO.c rfl rfl (o_apO (wq.heap.size) TI26 TI40 rfl rfl hown106 (Sl.own (hDB.only hO hqB).row) rfl (by decide) (one_drows (fun j hj => own_one (hDB.tys.row j hj))) (by rw [maxLen_eq, List.length_map, List.length_map]; omega) (by rw [List.length_map, List.length_map]; omega) hO.size ?_)
                    intro v109 w109 hown109 ho109 hb109 _
                    replace hO := hO.trans' ho109 (fun _ h => h) (fun k _ hk => (hown106.lt k hk).1)
                    clear ho109 hb109
                    refine WA.step (r := [7]) (by kernel_rfl) (by decide) (all1 ?_)
                    refine WO.c rfl rfl (o_fa 0 TI28 rfl TI26 rfl rfl ?_)
                    refine WA.step (r := [8]) (by kernel_rfl) (by decide) (all1 ?_)
                    refine WO.u rfl (o_stB TI26 rfl (show _ = v109 from rfl) (own_one hown109) (hO.blk hB14 (by omega)) (show 0 < 1 by decide) ?_)
                    intro w110 hB14z ho110 hs110
                    replace hB14z : w110.heap[b14]? = some (.cells #[v109] 28 (0, 0)) := hB14z
                    have g14 := hO.blk hB14 (by omega)
                    have gC := hD34.only hO hqC
                    have gA := hDA.only hO hqA
                    have gB := hDB.only hO hqB
                    have hfin := (⟨ho110.blk (hO.blk hB10 (by omega)) (by omega), ho110.blk (hO.blk hB11 (by omega)) (by omega), hB14z, (gC.only ho110 (gC.off g14)).rd,
                      defR_app (gA.only ho110 (gA.off g14)).rd (gB.only ho110 (gB.off g14)).rd (Sl.own (own_only hown109 ho110 (fun k hk he => by subst he; exact own_off hown109 g14 (by decide) hk))),
                      (hx.trans' hO (fun _ h => h) (fun k hk h => by omega)).trans' ho110 (fun _ h => h) (fun k hk he => by omega)⟩ : w110.heap[b10]? = some (.cells #[dv34] 28 (0, 0)) ∧ w110.heap[b11]? = some (.cells (faultV C.2.1 C.2.2) 49 (0, 0)) ∧ w110.heap[b14]? = some (.cells #[v109] 28 (0, 0)) ∧ DefR w110 C.1 dv34 V34 ∧ DefR w110 (A.1.map bareD ++ B.1.map bareD) v109 _ ∧ Ext w0 w110)
                    refine WA.done (by kernel_rfl) ?_
                    exact ⟨_, _, rfl, rfl, rfl, hfin⟩
                  · skip
                    refine WO.c rfl rfl (o_ld TI26 rfl rfl (cell_of (hO.blk hB14 (by omega)) rfl) ?_)
                    refine WA.step (r := [0]) (by kernel_rfl) (by decide) (all1 ?_)
                    refine WO.c rfl rfl (o_bs0 TI26 TI40 ?_)
                    have h103 := own_new0 (w := wq) (el := 40) (s := 3)
                    replace hO : Only (fun k => wq.heap.size ≤ k) wq (wq.alloc (.cells #[] 40)) := (Only.alloc wq _).mono (fun _ _ h => h.elim)
                    generalize wq.alloc (.cells #[] 40) = w3 at *
                    refine WA.step (r := [3]) (by kernel_rfl) (by decide) (all1 ?_)
                    refine WO.c rfl rfl (o_apO (wq.heap.size) TI26 TI40 (show _ = Value.slice _ _ _ from rfl) rfl h103 (Sl.own (hDA.only hO hqA).row) rfl (by decide) (one_drows (fun j hj => own_one (hDA.tys.row j hj))) (by rw [maxLen_eq, List.length_map]; omega) (by rw [List.length_map]; omega) hO.size ?_)
                    intro v106 w106 hown106 ho106 hb106 _
                    replace hO := hO.trans' ho106 (fun _ h => h) (fun k _ hk => (h103.lt k hk).1)
                    rw [Nat.zero_add, List.nil_append] at hown106
                    clear ho106 hb106
                    refine WA.step (r := [6]) (by kernel_rfl) (by decide) (all1 ?_)
                    refine WO.c rfl rfl (o_apO (wq.heap.size) TI26 TI40 rfl rfl hown106 (Sl.own (hDB.only hO hqB).row) rfl (by decide) (one_drows (fun j hj => own_one (hDB.tys.row j hj))) (by rw [maxLen_eq, List.length_map, List.length_map]; omega) (by rw [List.length_map, List.length_map]; omega) hO.size ?_)
                    intro v109 w109 hown109 ho109 hb109 _
                    replace hO := hO.trans' ho109 (fun _ h => h) (fun k _ hk => (hown106.lt k hk).1)
                    clear ho109 hb109
                    refine WA.step (r := [7]) (by kernel_rfl) (by decide) (all1 ?_)
                    refine WO.c rfl rfl (o_fa 0 TI28 rfl TI26 rfl rfl ?_)
                    refine WA.step (r := [8]) (by kernel_rfl) (by decide) (all1 ?_)
                    refine WO.u rfl (o_stB TI26 rfl (show _ = v109 from rfl) (own_one hown109) (hO.blk hB14 (by omega)) (show 0 < 1 by decide) ?_)
                    intro w110 hB14z ho110 hs110
                    replace hB14z : w110.heap[b14]? = some (.cells #[v109] 28 (0, 0)) := hB14z
                    have g14 := hO.blk hB14 (by omega)
                    have gC := hD34.only hO hqC
                    have gA := hDA.only hO hqA
                    have gB := hDB.only hO hqB
                    have hfin := (⟨ho110.blk (hO.blk hB10 (by omega)) (by omega), ho110.blk (hO.blk hB11 (by omega)) (by omega), hB14z, (gC.only ho110 (gC.off g14)).rd,
                      defR_app (gA.only ho110 (gA.off g14)).rd (gB.only ho110 (gB.off g14)).rd (Sl.own (own_only hown109 ho110 (fun k hk he => by subst he; exact own_off hown109 g14 (by decide) hk))),
                      (hx.trans' hO (fun _ h => h) (fun k hk h => by omega)).trans' ho110 (fun _ h => h) (fun k hk he => by omega)⟩ : w110.heap[b10]? = some (.cells #[dv34] 28 (0, 0)) ∧ w110.heap[b11]? = some (.cells (faultV C.2.1 C.2.2) 49 (0, 0)) ∧ w110.heap[b14]? = some (.cells #[v109] 28 (0, 0)) ∧ DefR w110 C.1 dv34 V34 ∧ DefR w110 (A.1.map bareD ++ B.1.map bareD) v109 _ ∧ Ext w0 w110)
                    refine WA.done (by kernel_rfl) ?_
                    exact ⟨_, _, rfl, rfl, rfl, hfin⟩
            · skip
              refine WO.c rfl rfl (o_fa 0 TI28 rfl TI26 rfl rfl ?_)
              refine WA.step (r := [0, 1, 5]) (by kernel_rfl) (by decide) (all3 ?_ ?_ ?_)
              · skip
                refine WO.c rfl rfl (o_bs0 TI26 TI40 ?_)
                have h103 := own_new0 (w := wq) (el := 40) (s := 3)
                replace hO : Only (fun k => wq.heap.size ≤ k) wq (wq.alloc (.cells #[] 40)) := (Only.alloc wq _).mono (fun _ _ h => h.elim)
                generalize wq.alloc (.cells #[] 40) = w3 at *
                refine WA.step (r := [1, 5]) (by kernel_rfl) (by decide) (all2 ?_ ?_)
                · skip
                  refine WO.c rfl rfl (o_fa 0 TI28 rfl TI26 rfl rfl ?_)
                  refine WA.step (r := [2, 5]) (by kernel_rfl) (by decide) (all2 ?_ ?_)
                  · skip
                    refine WO.c rfl rfl (o_ld TI26 rfl rfl (cell_of (hO.blk hB14 (by omega)) rfl) ?_)
                    refine WA.step (r := [3, 5]) (by kernel_rfl) (by decide) (all2 ?_ ?_)
                    · skip
                      refine WO.c rfl rfl (o_apO (wq.heap.size) TI26 TI40 (show _ = Value.slice _ _ _ from rfl) rfl h103 (Sl.own (hDA.only hO hqA).row) rfl (by decide) (one_drows (fun j hj => own_one (hDA.tys.row j hj))) (by rw [maxLen_eq, List.length_map]; omega) (by rw [List.length_map]; omega) hO.size ?_)
                      intro v106 w106 hown106 ho106 hb106 _
                      replace hO := hO.trans' ho106 (fun _ h => h) (fun k _ hk => (h103.lt k hk).1)
                      rw [Nat.zero_add, List.nil_append] at hown106
                      clear ho106 hb106
                      refine WA.step (r := [5]) (by kernel_rfl) (by decide) (all1 ?_)
                      refine WO.c rfl rfl (o_ld TI26 rfl rfl (cell_of (hO.blk hB15 (by omega)) rfl) ?_)
                      refine WA.step (r := [6]) (by kernel_rfl) (by decide) (all1 ?_)
                      refine WO.c rfl rfl (o_apO (wq.heap.size) TI26 TI40 rfl rfl hown106 (Sl.own (hDB.only hO hqB).row) rfl (by decide) (one_drows (fun j hj => own_one (hDB.tys.row j hj))) (by rw [maxLen_eq, List.length_map, List.length_map]; omega) (by rw [List.length_map, List.length_map]; omega) hO.size ?_)
                      intro v109 w109 hown109 ho109 hb109 _
                      replace hO := hO.trans' ho109 (fun _ h => h) (fun k _ hk => (hown106.lt k hk).1)
                      clear ho109 hb109
                      refine WA.step (r := [7]) (by kernel_rfl) (by decide) (all1 ?_)
                      refine WO.c rfl rfl (o_fa 0 TI28 rfl TI26 rfl rfl ?_)
                      refine WA.step (r := [8]) (by kernel_rfl) (by decide) (all1 ?_)
                      refine WO.u rfl (o_stB TI26 rfl (show _ = v109 from rfl) (own_one hown109) (hO.blk hB14 (by omega)) (show 0 < 1 by decide) ?_)
                      intro w110 hB14z ho110 hs110
                      replace hB14z : w110.heap[b14]? = some (.cells #[v109] 28 (0, 0)) := hB14z
                      have g14 := hO.blk hB14 (by omega)
                      have gC := hD34.only hO hqC
                      have gA := hDA.only hO hqA
                      have gB := hDB.only hO hqB
                      have hfin := (⟨ho110.blk (hO.blk hB10 (by omega)) (by omega), ho110.blk (hO.blk hB11 (by omega)) (by omega), hB14z, (gC.only ho110 (gC.off g14)).rd,
                        defR_app (gA.only ho110 (gA.off g14)).rd (gB.only ho110 (gB.off g14)).rd (Sl.own (own_only hown109 ho110 (fun k hk he => by subst he; exact own_off hown109 g14 (by decide) hk))),
                        (hx.trans' hO (fun _ h => h) (fun k hk h => by omega)).trans' ho110 (fun _ h => h) (fun k hk he => by omega)⟩ : w110.heap[b10]? = some (.cells #[dv34] 28 (0, 0)) ∧ w110.heap[b11]? = some (.cells (faultV C.2.1 C.2.2) 49 (0, 0)) ∧ w110.heap[b14]? = some (.cells #[v109] 28 (0, 0)) ∧ DefR w110 C.1 dv34 V34 ∧ DefR w110 (A.1.map bareD ++ B.1.map bareD) v109 _ ∧ Ext w0 w110)
                      refine WA.done (by kernel_rfl) ?_
                      exact ⟨_, _, rfl, rfl, rfl, hfin⟩
                    · skip
                      refine WO.c rfl rfl (o_ld TI26 rfl rfl (cell_of (hO.blk hB15 (by omega)) rfl) ?_)
                      refine WA.step (r := [3]) (by kernel_rfl) (by decide) (all1 ?_)
                      refine WO.c rfl rfl (o_apO (wq.heap.size) TI26 TI40 (show _ = Value.slice _ _ _ from rfl) rfl h103 (Sl.own (hDA.only hO hqA).row) rfl (by decide) (one_drows (fun j hj => own_one (hDA.tys.row j hj))) (by rw [maxLen_eq, List.length_map]; omega) (by rw [List.length_map]; omega) hO.size ?_)
                      intro v106 w106 hown106 ho106 hb106 _
                      replace hO := hO.trans' ho106 (fun _ h => h) (fun k _ hk => (h103.lt k hk).1)
                      rw [Nat.zero_add, List.nil_append] at hown106
                      clear ho106 hb106
                      refine WA.step (r := [6]) (by kernel_rfl) (by decide) (all1 ?_)
                      refine WO.c rfl rfl (o_apO (wq.heap.size) TI26 TI40 rfl rfl hown106 (Sl.own (hDB.only hO hqB).row) rfl (by decide) (one_drows (fun j hj => own_one (hDB.tys.row j hj))) (by rw [maxLen_eq, List.length_map, List.length_map]; omega) (by rw [List.length_map, List.length_map]; omega) hO.size ?_)
                      intro v109 w109 hown109 ho109 hb109 _
                      replace hO := hO.trans' ho109 (fun _ h => h) (fun k _ hk => (hown106.lt k hk).1)
                      clear ho109 hb109
                      refine WA.step (r := [7]) (by kernel_rfl) (by decide) (all1 ?_)
                      refine WO.c rfl rfl (o_fa 0 TI28 rfl TI26 rfl rfl ?_)
                      refine WA.step (r := [8]) (by kernel_rfl) (by decide) (all1 ?_)
                      refine WO.u rfl (o_stB TI26 rfl (show _ = v109 from rfl) (own_one hown109) (hO.blk hB14 (by omega)) (show 0 < 1 by decide) ?_)
                      intro w110 hB14z ho110 hs110
                      replace hB14z : w110.heap[b14]? = some (.cells #[v109] 28 (0, 0)) := hB14z
                      have g14 := hO.blk hB14 (by omega)
                      have gC := hD34.only hO hqC
                      have gA := hDA.only hO hqA
                      have gB := hDB.only hO hqB
                      have hfin := (⟨ho110.blk (hO.blk hB10 (by omega)) (by omega), ho110.blk (hO.blk hB11 (by omega)) (by omega), hB14z, (gC.only ho110 (gC.off g14)).rd,
                        defR_app (gA.only ho110 (gA.off g14)).rd (gB.only ho110 (gB.off g14)).rd (Sl.own (own_only hown109 ho110 (fun k hk he => by subst he; exact own_off hown109 g14 (by decide) hk))),
                        (hx.trans' hO (fun _ h => h) (fun k hk h => by omega)).trans' ho110 (fun _ h => h) (fun k hk he => by omega)⟩ : w110.heap[b10]? = some (.cells #[dv34] 28 (0, 0)) ∧ w110.heap[b11]? = some (.cells (faultV C.2.1 C.2.2) 49 (0, 0)) ∧ w110.heap[b14]? = some (.cells #[v109] 28 (0, 0)) ∧ DefR w110 C.1 dv34 V34 ∧ DefR w110 (A.1.map bareD ++ B.1.map bareD) v109 _ ∧ Ext w0 w110)
                      refine WA.done (by kernel_rfl) ?_
                      exact ⟨_, _, rfl, rfl, rfl, hfin⟩
                  · skip
                    refine WO.c rfl rfl (o_ld TI26 rfl rfl (cell_of (hO.blk hB15 (by omega)) rfl) ?_)
                    refine WA.step (r := [2]) (by kernel_rfl) (by decide) (all1 ?_)
                    refine WO.c rfl rfl (o_ld TI26 rfl rfl (cell_of (hO.blk hB14 (by omega)) rfl) ?_)
                    refine WA.step (r := [3]) (by kernel_rfl) (by decide) (all1 ?_)
                    refine WO.c rfl rfl (o_apO (wq.heap.size) TI26 TI40 (show _ = Value.slice _ _ _ from rfl) rfl h103 (Sl.own (hDA.only hO hqA).row) rfl (by decide) (one_drows (fun j hj => own_one (hDA.tys.row j hj))) (by rw [maxLen_eq, List.length_map]; omega) (by rw [List.length_map]; omega) hO.size ?_)
                    intro v106 w106 hown106 ho106 hb106 _
                    replace hO := hO.trans' ho106 (fun _ h => h) (fun k _ hk => (h103.lt k hk).1)
                    rw [Nat.zero_add, List.nil_append] at hown106
                    clear ho106 hb106
                    refine WA.step (r := [6]) (by kernel_rfl) (by decide) (all1 ?_)
                    refine WO.c rfl rfl (o_apO (wq.heap.size) TI26 TI40 rfl rfl hown106 (Sl.own (hDB.only hO hqB).row) rfl (by decide) (one_drows (fun j hj => own_one (hDB.tys.row j hj))) (by rw [maxLen_eq, List.length_map, List.length_map]; omega) (by rw [List.length_map, List.length_map]; omega) hO.size ?_)
                    intro v109 w109 hown109 ho109 hb109 _
                    replace hO := hO.trans' ho109 (fun _ h => h) (fun k _ hk => (hown106.lt k hk).1)
                    clear ho109 hb109
                    refine WA.step (r := [7]) (by kernel_rfl) (by decide) (all1 ?_)
                    refine WO.c rfl rfl (o_fa 0 TI28 rfl TI26 rfl rfl ?_)
                    refine WA.step (r := [8]) (by kernel_rfl) (by decide) (all1 ?_)
                    refine WO.u rfl (o_stB TI26 rfl (show _ = v109 from rfl) (own_one hown109) (hO.blk hB14 (by omega)) (show 0 < 1 by decide) ?_)
                    intro w110 hB14z ho110 hs110
                    replace hB14z : w110.heap[b14]? = some (.cells #[v109] 28 (0, 0)) := hB14z
                    have g14 := hO.blk hB14 (by omega)
                    have gC := hD34.only hO hqC
                    have gA := hDA.only hO hqA
                    have gB := hDB.only hO hqB
                    have hfin := (⟨ho110.blk (hO.blk hB10 (by omega)) (by omega), ho110.blk (hO.blk hB11 (by omega)) (by omega), hB14z, (gC.only ho110 (gC.off g14)).rd,
                      defR_app (gA.only ho110 (gA.off g14)).rd (gB.only ho110 (gB.off g14)).rd (Sl.own (own_only hown109 ho110 (fun k hk he => by subst he; exact own_off hown109 g14 (by decide) hk))),
                      (hx.trans' hO (fun _ h => h) (fun k hk h => by omega)).trans' ho110 (fun _ h => h) (fun k hk he => by omega)⟩ : w110.heap[b10]? = some (.cells #[dv34] 28 (0, 0)) ∧ w110.heap[b11]? = some (.cells (faultV C.2.1 C.2.2) 49 (0, 0)) ∧ w110.heap[b14]? = some (.cells #[v109] 28 (0, 0)) ∧ DefR w110 C.1 dv34 V34 ∧ DefR w110 (A.1.map bareD ++ B.1.map bareD) v109 _ ∧ Ext w0 w110)
                    refine WA.done (by kernel_rfl) ?_
                    exact ⟨_, _, rfl, rfl, rfl, hfin⟩
                · skip
                  refine WO.c rfl rfl (o_ld TI26 rfl rfl (cell_of (hO.blk hB15 (by omega)) rfl) ?_)
                  refine WA.step (r := [1]) (by kernel_rfl) (by decide) (all1 ?_)
                  refine WO.c rfl rfl (o_fa 0 TI28 rfl TI26 rfl rfl ?_)
                  refine WA.step (r := [2]) (by kernel_rfl) (by decide) (all1 ?_)
                  refine WO.c rfl rfl (o_ld TI26 rfl rfl (cell_of (hO.blk hB14 (by omega)) rfl) ?_)
                  refine WA.step (r := [3]) (by kernel_rfl) (by decide) (all1 ?_)
                  refine WO.c rfl rfl (o_apO (wq.heap.size) TI26 TI40 (show _ = Value.slice _ _ _ from rfl) rfl h103 (Sl.own (hDA.only hO hqA).row) rfl (by decide) (one_drows (fun j hj => own_one (hDA.tys.row j hj))) (by rw [maxLen_eq, List.length_map]; omega) (by rw [List.length_map]; omega) hO.size ?_)
                  intro v106 w106 hown106 ho106 hb106 _
                  replace hO := hO.trans' ho106 (fun _ h => h) (fun k _ hk => (h103.lt k hk).1)
                  rw [Nat.zero_add, List.nil_append] at hown106
                  clear ho106 hb106
                  refine WA.step (r := [6]) (by kernel_rfl) (by decide) (all1 ?_)
                  refine WO.c rfl rfl (o_apO (wq.heap.size) TI26 TI40 rfl rfl hown106 (Sl.own (hDB.only hO hqB).row) rfl (by decide) (one_drows (fun j hj => own_one (hDB.tys.row j hj))) (by rw [maxLen_eq, List.length_map, List.length_map]; omega) (by rw [List.length_map, List.length_map]; omega) hO.size ?_)
                  intro v109 w109 hown109 ho109 hb109 _
                  replace hO := hO.trans' ho109 (fun _ h => h) (fun k _ hk => (hown106.lt k hk).1)
                  clear ho109 hb109
                  refine WA.step (r := [7]) (by kernel_rfl) (by decide) (all1 ?_)
                  refine WO.c rfl rfl (o_fa 0 TI28 rfl TI26 rfl rfl ?_)
                  refine WA.step (r := [8]) (by kernel_rfl) (by decide) (all1 ?_)
                  refine WO.u rfl (o_stB TI26 rfl (show _ = v109 from rfl) (own_one hown109) (hO.blk hB14 (by omega)) (show 0 < 1 by decide) ?_)
                  intro w110 hB14z ho110 hs110
                  replace hB14z : w110.heap[b14]? = some (.cells #[v109] 28 (0, 0)) := hB14z
                  have g14 := hO.blk hB14 (by omega)
                  have gC := hD34.only hO hqC
                  have gA := hDA.only hO hqA
                  have gB := hDB.only hO hqB
                  have hfin := (⟨ho110.blk (hO.blk hB10 (by omega)) (by omega), ho110.blk (hO.blk hB11 (by omega)) (by omega), hB14z, (gC.only ho110 (gC.off g14)).rd,
                    defR_app (gA.only ho110 (gA.off g14)).rd (gB.only ho110 (gB.off g14)).rd (Sl.own (own_only hown109 ho110 (fun k hk he => by subst he; exact own_off hown109 g14 (by decide) hk))),
                    (hx.trans' hO (fun _ h => h) (fun k hk h => by omega)).trans' ho110 (fun _ h => h) (fun k hk he => by omega)⟩ : w110.heap[b10]? = some (.cells #[dv34] 28 (0, 0)) ∧ w110.heap[b11]? = some (.cells (faultV C.2.1 C.2.2) 49 (0, 0)) ∧ w110.heap[b14]? = some (.cells #[v109] 28 (0, 0)) ∧ DefR w110 C.1 dv34 V34 ∧ DefR w110 (A.1.map bareD ++ B.1.map bareD) v109 _ ∧ Ext w0 w110)
                  refine WA.done (by kernel_rfl) ?_
                  exact ⟨_, _, rfl, rfl, rfl, hfin⟩
              · skip
                refine WO.c rfl rfl (o_fa 0 TI28 rfl TI26 rfl rfl ?_)
                refine WA.step (r := [0, 2, 5]) (by kernel_rfl) (by decide) (all3 ?_ ?_ ?_)
                · skip
                  refine WO.c rfl rfl (o_bs0 TI26 TI40 ?_)
                  have h103 := own_new0 (w := wq) (el := 40) (s := 3)
                  replace hO : Only (fun k => wq.heap.size ≤ k) wq (wq.alloc (.cells #[] 40)) := (Only.alloc wq _).mono (fun _ _ h => h.elim)
                  generalize wq.alloc (.cells #[] 40) = w3 at *
                  refine WA.step (r := [2, 5]) (by kernel_rfl) (by decide) (all2 ?_ ?_)
                  · skip
                    refine WO.c rfl rfl (o_ld TI26 rfl rfl (cell_of (hO.blk hB14 (by omega)) rfl) ?_)
                    refine WA.step (r := [3, 5]) (by kernel_rfl) (by decide) (all2 ?_ ?_)
                    · skip
                      refine WO.c rfl rfl (o_apO (wq.heap.size) TI26 TI40 (show _ = Value.slice _ _ _ from rfl) rfl h103 (Sl.own (hDA.only hO hqA).row) rfl (by decide) (one_drows (fun j hj => own_one (hDA.tys.row j hj))) (by rw [maxLen_eq, List.length_map]; omega) (by rw [List.length_map]; omega) hO.size ?_)
                      intro v106 w106 hown106 ho106 hb106 _
                      replace hO := hO.trans' ho106 (fun _ h => h) (fun k _ hk => (h103.lt k hk).1)
                      rw [Nat.zero_add, List.nil_append] at hown106
                      clear ho106 hb106
                      refine WA.step (r := [5]) (by kernel_rfl) (by decide) (all1 ?_)
                      refine WO.c rfl rfl (o_ld TI26 rfl rfl (cell_of (hO.blk hB15 (by omega)) rfl) ?_)
                      refine WA.step (r := [6]) (by kernel_rfl) (by decide) (all1 ?_)
                      refine WO.c rfl rfl (o_apO (wq.heap.size) TI26 TI40 rfl rfl hown106 (Sl.own (hDB.only hO hqB).row) rfl (by decide) (one_drows (fun j hj => own_one (hDB.tys.row j hj))) (by rw [maxLen_eq, List.length_map, List.length_map]; omega) (by rw [List.length_map, List.length_map]; omega) hO.size ?_)
                      intro v109 w109 hown109 ho109 hb109 _
                      replace hO := hO.trans' ho109 (fun _ h => h) (fun k _ hk => (hown106.lt k hk).1)
                      clear ho109 hb109
                      refine WA.step (r := [7]) (by kernel_rfl) (by decide) (all1 ?_)
                      refine WO.c rfl rfl (o_fa 0 TI28 rfl TI26 rfl rfl ?_)
                      refine WA.step (r := [8]) (by kernel_rfl) (by decide) (all1 ?_)
                      refine WO.u rfl (o_stB TI26 rfl (show _ = v109 from rfl) (own_one hown109) (hO.blk hB14 (by omega)) (show 0 < 1 by decide) ?_)
                      intro w110 hB14z ho110 hs110
                      replace hB14z : w110.heap[b14]? = some (.cells #[v109] 28 (0, 0)) := hB14z
                      have g14 := hO.blk hB14 (by omega)
                      have gC := hD34.only hO hqC
                      have gA := hDA.only hO hqA
                      have gB := hDB.only hO hqB
                      have hfin := (⟨ho110.blk (hO.blk hB10 (by omega)) (by omega), ho110.blk (hO.blk hB11 (by omega)) (by omega), hB14z, (gC.only ho110 (gC.off g14)).rd,
                        defR_app (gA.only ho110 (gA.off g14)).rd (gB.only ho110 (gB.off g14)).rd (Sl.own (own_only hown109 ho110 (fun k hk he => by subst he; exact own_off hown109 g14 (by decide) hk))),
                        (hx.trans' hO (fun _ h => h) (fun k hk h => by omega)).trans' ho110 (fun _ h => h) (fun k hk he => by omega)⟩ : w110.heap[b10]? = some (.cells #[dv34] 28 (0, 0)) ∧ w110.heap[b11]? = some (.cells (faultV C.2.1 C.2.2) 49 (0, 0)) ∧ w110.heap[b14]? = some (.cells #[v109] 28 (0, 0)) ∧ DefR w110 C.1 dv34 V34 ∧ DefR w110 (A.1.map bareD ++ B.1.map bareD) v109 _ ∧ Ext w0 w110)
                      refine WA.done (by kernel_rfl) ?_
                      exact ⟨_, _, rfl, rfl, rfl, hfin⟩
                    · skip
                      refine WO.c rfl rfl (o_ld TI26 rfl rfl (cell_of (hO.blk hB15 (by omega)) rfl) ?_)
                      refine WA.step (r := [3]) (by kernel_rfl) (by decide) (all1 ?_)
                      refine WO.c rfl rfl (o_apO (wq.heap.size) TI26 TI40 (show _ = Value.slice _ _ _ from rfl) rfl h103 (Sl.own (hDA.only hO hqA).row) rfl (by decide) (one_drows (fun j hj => own_one (hDA.tys.row j hj))) (by rw [maxLen_eq, List.length_map]; omega) (by rw [List.length_map]; omega) hO.size ?_)
                      intro v106 w106 hown106 ho106 hb106 _
                      replace hO := hO.trans' ho106 (fun _ h => h) (fun k _ hk => (h103.lt k hk).1)
                      rw [Nat.zero_add, List.nil_append] at hown106
                      clear ho106 hb106
                      refine WA.step (r := [6]) (by kernel_rfl) (by decide) (all1 ?_)
                      refine WO.c rfl rfl (o_apO (wq.heap.size) TI26 TI40 rfl rfl hown106 (Sl.own (hDB.only hO hqB).row) rfl (by decide) (one_drows (fun j hj => own_one (hDB.tys.row j hj))) (by rw [maxLen_eq, List.length_map, List.length_map]; omega) (by rw [List.length_map, List.length_map]; omega) hO.size ?_)
                      intro v109 w109 hown109 ho109 hb109 _
                      replace hO := hO.trans' ho109 (fun _ h => h) (fun k _ hk => (hown106.lt k hk).1)
                      clear ho109 hb109
                      refine WA.step (r := [7]) (by kernel_rfl) (by decide) (all1 ?_)
                      refine WO.c rfl rfl (o_fa 0 TI28 rfl TI26 rfl rfl ?_)
                      refine WA.step (r := [8]) (by kernel_rfl) (by decide) (all1 ?_)
                      refine WO.u rfl (o_stB TI26 rfl (show _ = v109 from rfl) (own_one hown109) (hO.blk hB14 (by omega)) (show 0 < 1 by decide) ?_)
                      intro w110 hB14z ho110 hs110
                      replace hB14z : w110.heap[b14]? = some (.cells #[v109] 28 (0, 0)) := hB14z
                      have g14 := hO.blk hB14 (by omega)
                      have gC := hD34.only hO hqC
                      have gA := hDA.only hO hqA
                      have gB := hDB.only hO hqB
                      have hfin := (⟨ho110.blk (hO.blk hB10 (by omega)) (by omega), ho110.blk (hO.blk hB11 (by omega)) (by omega), hB14z, (gC.only ho110 (gC.off g14)).rd,
                        defR_app (gA.only ho110 (gA.off g14)).rd (gB.only ho110 (gB.off g14)).rd (Sl.own (own_only hown109 ho110 (fun k hk he => by subst he; exact own_off hown109 g14 (by decide) hk))),
                        (hx.trans' hO (fun _ h => h) (fun k hk h => by omega)).trans' ho110 (fun _ h => h) (fun k hk he => by omega)⟩ : w110.heap[b10]? = some (.cells #[dv34] 28 (0, 0)) ∧ w110.heap[b11]? = some (.cells (faultV C.2.1 C.2.2) 49 (0, 0)) ∧ w110.heap[b14]? = some (.cells #[v109] 28 (0, 0)) ∧ DefR w110 C.1 dv34 V34 ∧ DefR w110 (A.1.map bareD ++ B.1.map bareD) v109 _ ∧ Ext w0 w110)
                      refine WA.done (by kernel_rfl) ?_
                      exact ⟨_, _, rfl, rfl, rfl, hfin⟩
                  · skip
                    refine WO.c rfl rfl (o_ld TI26 rfl rfl (cell_of (hO.blk hB15 (by omega)) rfl) ?_)
                    refine WA.step (r := [2]) (by kernel_rfl) (by decide) (all1 ?_)
                    refine WO.c rfl rfl (o_ld TI26 rfl rfl (cell_of (hO.blk hB14 (by omega)) rfl) ?_)
                    refine WA.step (r := [3]) (by kernel_rfl) (by decide) (all1 ?_)
                    refine WO.c rfl rfl (o_apO (wq.heap.size) TI26 TI40 (show _ = Value.slice _ _ _ from rfl) rfl h103 (Sl.own (hDA.only hO hqA).row) rfl (by decide) (one_drows (fun j hj => own_one (hDA.tys.row j hj))) (by rw [maxLen_eq, List.length_map]; omega) (by rw [List.length_map]; omega) hO.size ?_)
                    intro v106 w106 hown106 ho106 hb106 _
                    replace hO := hO.trans' ho106 (fun _ h => h) (fun k _ hk => (h103.lt k hk).1)
                    rw [Nat.zero_add, List.nil_append] at hown106
                    clear ho106 hb106
                    refine WA.step (r := [6]) (by kernel_rfl) (by decide) (all1 ?_)
                    refine WO.c rfl rfl (o_apO (wq.heap.size) TI26 TI40 rfl rfl hown106 (Sl.own (hDB.only hO hqB).row) rfl (by decide) (one_drows (fun j hj => own_one (hDB.tys.row j hj))) (by rw [maxLen_eq, List.length_map, List.length_map]; omega) (by rw [List.length_map, List.length_map]; omega) hO.size ?_)
                    intro v109 w109 hown109 ho109 hb109 _
                    replace hO := hO.trans' ho109 (fun _ h => h) (fun k _ hk => (hown106.lt k hk).1)
                    clear ho109 hb109
                    refine WA.step (r := [7]) (by kernel_rfl) (by decide) (all1 ?_)
                    refine WO.c rfl rfl (o_fa 0 TI28 rfl TI26 rfl rfl ?_)
                    refine WA.step (r := [8]) (by kernel_rfl) (by decide) (all1 ?_)
                    refine WO.u rfl (o_stB TI26 rfl (show _ = v109 from rfl) (own_one hown109) (hO.blk hB14 (by omega)) (show 0 < 1 by decide) ?_)
                    intro w110 hB14z ho110 hs110
                    replace hB14z : w110.heap[b14]? = some (.cells #[v109] 28 (0, 0)) := hB14z
                    have g14 := hO.blk hB14 (by omega)
                    have gC := hD34.only hO hqC
                    have gA := hDA.only hO hqA
                    have gB := hDB.only hO hqB
                    have hfin := (⟨ho110.blk (hO.blk hB10 (by omega)) (by omega), ho110.blk (hO.blk hB11 (by omega)) (by omega), hB14z, (gC.only ho110 (gC.off g14)).rd,
                      defR_app (gA.only ho110 (gA.off g14)).rd (gB.only ho110 (gB.off g14)).rd (Sl.own (own_only hown109 ho110 (fun k hk he => by subst he; exact own_off hown109 g14 (by decide) hk))),
                      (hx.trans' hO (fun _ h => h) (fun k hk h => by omega)).trans' ho110 (fun _ h => h) (fun k hk he => by omega)⟩ : w110.heap[b10]? = some (.cells #[dv34] 28 (0, 0)) ∧ w110.heap[b11]? = some (.cells (faultV C.2.1 C.2.2) 49 (0, 0)) ∧ w110.heap[b14]? = some (.cells #[v109] 28 (0, 0)) ∧ DefR w110 C.1 dv34 V34 ∧ DefR w110 (A.1.map bareD ++ B.1.map bareD) v109 _ ∧ Ext w0 w110)
                    refine WA.done (by kernel_rfl) ?_
                    exact ⟨_, _, rfl, rfl, rfl, hfin⟩
                · skip
                  refine WO.c rfl rfl (o_ld TI26 rfl rfl (cell_of (hO.blk hB14 (by omega)) rfl) ?_)
                  refine WA.step (r := [0, 5]) (by kernel_rfl) (by decide) (all2 ?_ ?_)
                  · skip
                    refine WO.c rfl rfl (o_bs0 TI26 TI40 ?_)
                    have h103 := own_new0 (w := wq) (el := 40) (s := 3)
                    replace hO : Only (fun k => wq.heap.size ≤ k) wq (wq.alloc (.cells #[] 40)) := (Only.alloc wq _).mono (fun _ _ h => h.elim)
                    generalize wq.alloc (.cells #[] 40) = w3 at *
                    refine WA.step (r := [3, 5]) (by kernel_rfl) (by decide) (all2 ?_ ?_)
                    · skip
                      refine WO.c rfl rfl (o_apO (wq.heap.size) TI26 TI40 (show _ = Value.slice _ _ _ from rfl) rfl h103 (Sl.own (hDA.only hO hqA).row) rfl (by decide) (one_drows (fun j hj => own_one (hDA.tys.row j hj))) (by rw [maxLen_eq, List.length_map]; omega) (by rw [List.length_map]; omega) hO.size ?_)
                      intro v106 w106 hown106 ho106 hb106 _
                      replace hO := hO.trans' ho106 (fun _ h => h) (fun k _ hk => (h103.lt k hk).1)
                      rw [Nat.zero_add, List.nil_append] at hown106
                      clear ho106 hb106
                      refine WA.step (r := [5]) (by kernel_rfl) (by decide) (all1 ?_)
                      refine WO.c rfl rfl (o_ld TI26 rfl rfl (cell_of (hO.blk hB15 (by omega)) rfl) ?_)
                      refine WA.step (r := [6]) (by kernel_rfl) (by decide) (all1 ?_)
                      refine WO.c rfl rfl (o_apO (wq.heap.size) TI26 TI40 rfl rfl hown106 (Sl.own (hDB.only hO hqB).row) rfl (by decide) (one_drows (fun j hj => own_one (hDB.tys.row j hj))) (by rw [maxLen_eq, List.length_map, List.length_map]; omega) (by rw [List.length_map, List.length_map]; omega) hO.size ?_)
                      intro v109 w109 hown109 ho109 hb109 _
                      replace hO := hO.trans' ho109 (fun _ h => h) (fun k _ hk => (hown106.lt k hk).1)
                      clear ho109 hb109
                      refine WA.step (r := [7]) (by kernel_rfl) (by decide) (all1 ?_)
                      refine WO.c rfl rfl (o_fa 0 TI28 rfl TI26 rfl rfl ?_)
                      refine WA.step (r := [8]) (by kernel_rfl) (by decide) (all1 ?_)
                      refine WO.u rfl (o_stB TI26 rfl (show _ = v109 from rfl) (own_one hown109) (hO.blk hB14 (by omega)) (show 0 < 1 by decide) ?_)
                      intro w110 hB14z ho110 hs110
                      replace hB14z : w110.heap[b14]? = some (.cells #[v109] 28 (0, 0)) := hB14z
                      have g14 := hO.blk hB14 (by omega)
                      have gC := hD34.only hO hqC
                      have gA := hDA.only hO hqA
                      have gB := hDB.only hO hqB
                      have hfin := (⟨ho110.blk (hO.blk hB10 (by omega)) (by omega), ho110.blk (hO.blk hB11 (by omega)) (by omega), hB14z, (gC.only ho110 (gC.off g14)).rd,
                        defR_app (gA.only ho110 (gA.off g14)).rd (gB.only ho110 (gB.off g14)).rd (Sl.own (own_only hown109 ho110 (fun k hk he => by subst he; exact own_off hown109 g14 (by decide) hk))),
                        (hx.trans' hO (fun _ h => h) (fun k hk h => by omega)).trans' ho110 (fun _ h => h) (fun k hk he => by omega)⟩ : w110.heap[b10]? = some (.cells #[dv34] 28 (0, 0)) ∧ w110.heap[b11]? = some (.cells (faultV C.2.1 C.2.2) 49 (0, 0)) ∧ w110.heap[b14]? = some (.cells #[v109] 28 (0, 0)) ∧ DefR w110 C.1 dv34 V34 ∧ DefR w110 (A.1.map bareD ++ B.1.map bareD) v109 _ ∧ Ext w0 w110)
                      refine WA.done (by kernel_rfl) ?_
                      exact ⟨_, _, rfl, rfl, rfl, hfin⟩
                    · skip
                      refine WO.c rfl rfl (o_ld TI26 rfl rfl (cell_of (hO.blk hB15 (by omega)) rfl) ?_)
                      refine WA.step (r := [3]) (by kernel_rfl) (by decide) (all1 ?_)
                      refine WO.c rfl rfl (o_apO (wq.heap.size) TI26 TI40 (show _ = Value.slice _ _ _ from rfl) rfl h103 (Sl.own (hDA.only hO hqA).row) rfl (by decide) (one_drows (fun j hj => own_one (hDA.tys.row j hj))) (by rw [maxLen_eq, List.length_map]; omega) (by rw [List.length_map]; omega) hO.size ?_)
                      intro v106 w106 hown106 ho106 hb106 _
                      replace hO := hO.trans' ho106 (fun _ h => h) (fun k _ hk => (h103.lt k hk).1)
                      rw [Nat.zero_add, List.nil_append] at hown106
                      clear ho106 hb106
                      refine WA.step (r := [6]) (by kernel_rfl) (by decide) (all1 ?_)
                      refine WO.c rfl rfl (o_apO (wq.heap.size) TI26 TI40 rfl rfl hown106 (Sl.own (hDB.only hO hqB).row) rfl (by decide) (one_drows (fun j hj => own_one (hDB.tys.row j hj))) (by rw [maxLen_eq, List.length_map, List.length_map]; omega) (by rw [List.length_map, List.length_map]; omega) hO.size ?_)
                      intro v109 w109 hown109 ho109 hb109 _
                      replace hO := hO.trans' ho109 (fun _ h => h) (fun k _ hk => (hown106.lt k hk).1)
                      clear ho109 hb109
                      refine WA.step (r := [7]) (by kernel_rfl) (by decide) (all1 ?_)
                      refine WO.c rfl rfl (o_fa 0 TI28 rfl TI26 rfl rfl ?_)
                      refine WA.step (r := [8]) (by kernel_rfl) (by decide) (all1 ?_)
                      refine WO.u rfl (o_stB TI26 rfl (show _ = v109 from rfl) (own_one hown109) (hO.blk hB14 (by omega)) (show 0 < 1 by decide) ?_)
                      intro w110 hB14z ho110 hs110
                      replace hB14z : w110.heap[b14]? = some (.cells #[v109] 28 (0, 0)) := hB14z
                      have g14 := hO.blk hB14 (by omega)
                      have gC := hD34.only hO hqC
                      have gA := hDA.only hO hqA
                      have gB := hDB.only hO hqB
                      have hfin := (⟨ho110.blk (hO.blk hB10 (by omega)) (by omega), ho110.blk (hO.blk hB11 (by omega)) (by omega), hB14z, (gC.only ho110 (gC.off g14)).rd,
                        defR_app (gA.only ho110 (gA.off g14)).rd (gB.only ho110 (gB.off g14)).rd (Sl.own (own_only hown109 ho110 (fun k hk he => by subst he; exact own_off hown109 g14 (by decide) hk))),
                        (hx.trans' hO (fun _ h => h) (fun k hk h => by omega)).trans' ho110 (fun _ h => h) (fun k hk he => by omega)⟩ : w110.heap[b10]? = some (.cells #[dv34] 28 (0, 0)) ∧ w110.heap[b11]? = some (.cells (faultV C.2.1 C.2.2) 49 (0, 0)) ∧ w110.heap[b14]? = some (.cells #[v109] 28 (0, 0)) ∧ DefR w110 C.1 dv34 V34 ∧ DefR w110 (A.1.map bareD ++ B.1.map bareD) v109 _ ∧ Ext w0 w110)
                      refine WA.done (by kernel_rfl) ?_
                      exact ⟨_, _, rfl, rfl, rfl, hfin⟩
                  · skip
                    refine WO.c rfl rfl (o_ld TI26 rfl rfl (cell_of (hO.blk hB15 (by omega)) rfl) ?_)
                    refine WA.step (r := [0]) (by kernel_rfl) (by decide) (all1 ?_)
                    refine WO.c rfl rfl (o_bs0 TI26 TI40 ?_)
                    have h103 := own_new0 (w := wq) (el := 40) (s := 3)
                    replace hO : Only (fun k => wq.heap.size ≤ k) wq (wq.alloc (.cells #[] 40)) := (Only.alloc wq _).mono (fun _ _ h => h.elim)
                    generalize wq.alloc (.cells #[] 40) = w3 at *
                    refine WA.step (r := [3]) (by kernel_rfl) (by decide) (all1 ?_)
                    refine WO.c rfl rfl (o_apO (wq.heap.size) TI26 TI40 (show _ = Value.slice _ _ _ from rfl) rfl h103 (Sl.own (hDA.only hO hqA).row) rfl (by decide) (one_drows (fun j hj => own_one (hDA.tys.row j hj))) (by rw [maxLen_eq, List.length_map]; omega) (by rw [List.length_map]; omega) hO.size ?_)
                    intro v106 w106 hown106 ho106 hb106 _
                    replace hO := hO.trans' ho106 (fun _ h => h) (fun k _ hk => (h103.lt k hk).1)
                    rw [Nat.zero_add, List.nil_append] at hown106
                    clear ho106 hb106
                    refine WA.step (r := [6]) (by kernel_rfl) (by decide) (all1 ?_)
                    refine WO.c rfl rfl (o_apO (wq.heap.size) TI26 TI40 rfl rfl hown106 (Sl.own (hDB.only hO hqB).row) rfl (by decide) (one_drows (fun j hj => own_one (hDB.tys.row j hj))) (by rw [maxLen_eq, List.length_map, List.length_map]; omega) (by rw [List.length_map, List.length_map]; omega) hO.size ?_)
                    intro v109 w109 hown109 ho109 hb109 _
                    replace hO := hO.trans' ho109 (fun _ h => h) (fun k _ hk => (hown106.lt k hk).1)
                    clear ho109 hb109
                    refine WA.step (r := [7]) (by kernel_rfl) (by decide) (all1 ?_)
                    refine WO.c rfl rfl (o_fa 0 TI28 rfl TI26 rfl rfl ?_)
                    refine WA.step (r := [8]) (by kernel_rfl) (by decide) (all1 ?_)
                    refine WO.u rfl (o_stB TI26 rfl (show _ = v109 from rfl) (own_one hown109) (hO.blk hB14 (by omega)) (show 0 < 1 by decide) ?_)
                    intro w110 hB14z ho110 hs110
                    replace hB14z : w110.heap[b14]? = some (.cells #[v109] 28 (0, 0)) := hB14z
                    have g14 := hO.blk hB14 (by omega)
                    have gC := hD34.only hO hqC
                    have gA := hDA.only hO hqA
                    have gB := hDB.only hO hqB
                    have hfin := (⟨ho110.blk (hO.blk hB10 (by omega)) (by omega), ho110.blk (hO.blk hB11 (by omega)) (by omega), hB14z, (gC.only ho110 (gC.off g14)).rd,
                      defR_app (gA.only ho110 (gA.off g14)).rd (gB.only ho110 (gB.off g14)).rd (Sl.own (own_only hown109 ho110 (fun k hk he => by subst he; exact own_off hown109 g14 (by decide) hk))),
                      (hx.trans' hO (fun _ h => h) (fun k hk h => by omega)).trans' ho110 (fun _ h => h) (fun k hk he => by omega)⟩ : w110.heap[b10]? = some (.cells #[dv34] 28 (0, 0)) ∧ w110.heap[b11]? = some (.cells (faultV C.2.1 C.2.2) 49 (0, 0)) ∧ w110.heap[b14]? = some (.cells #[v109] 28 (0, 0)) ∧ DefR w110 C.1 dv34 V34 ∧ DefR w110 (A.1.map bareD ++ B.1.map bareD) v109 _ ∧ Ext w0 w110)
                    refine WA.done (by kernel_rfl) ?_
                    exact ⟨_, _, rfl, rfl, rfl, hfin⟩
                · skip
                  refine WO.c rfl rfl (o_ld TI26 rfl rfl (cell_of (hO.blk hB15 (by omega)) rfl) ?_)
                  refine WA.step (r := [0, 2]) (by kernel_rfl) (by decide) (all2 ?_ ?_)
                  · skip
                    refine WO.c rfl rfl (o_bs0 TI26 TI40 ?_)
                    have h103 := own_new0 (w := wq) (el := 40) (s := 3)
                    replace hO : Only (fun k => wq.heap.size ≤ k) wq (wq.alloc (.cells #[] 40)) := (Only.alloc wq _).mono (fun _ _ h => h.elim)
                    generalize wq.alloc (.cells #[] 40) = w3 at *
                    refine WA.step (r := [2]) (by kernel_rfl) (by decide) (all1 ?_)
                    refine WO.c rfl rfl (o_ld TI26 rfl rfl (cell_of (hO.blk hB14 (by omega)) rfl) ?_)
                    refine WA.step (r := [3]) (by kernel_rfl) (by decide) (all1 ?_)
                    refine WO.c rfl rfl (o_apO (wq.heap.size) TI26 TI40 (show _ = Value.slice _ _ _ from rfl) rfl h103 (Sl.own (hDA.only hO hqA).row) rfl (by decide) (one_drows (fun j hj => own_one (hDA.tys.row j hj))) (by rw [maxLen_eq, List.length_map]; omega) (by rw [List.length_map]; omega) hO.size ?_)
                    intro v106 w106 hown106 ho106 hb106 _
                    replace hO := hO.trans' ho106 (fun _ h => h) (fun k _ hk => (h103.lt k hk).1)
                    rw [Nat.zero_add, List.nil_append] at hown106
                    clear ho106 hb106
                    refine WA.step (r := [6]) (by kernel_rfl) (by decide) (all1 ?_)
                    refine WO.c rfl rfl (o_apO (wq.heap.size) TI26 TI40 rfl rfl hown106 (Sl.own (hDB.only hO hqB).row) rfl (by decide) (one_drows (fun j hj => own_one (hDB.tys.row j hj))) (by rw [maxLen_eq, List.length_map, List.length_map]; omega) (by rw [List.length_map, List.length_map]; omega) hO.size ?_)
                    intro v109 w109 hown109 ho109 hb109 _
                    replace hO := hO.trans' ho109 (fun _ h => h) (fun k _ hk => (hown106.lt k hk).1)
                    clear ho109 hb109
                    refine WA.step (r := [7]) (by kernel_rfl) (by decide) (all1 ?_)
                    refine WO.c rfl rfl (o_fa 0 TI28 rfl TI26 rfl rfl ?_)
                    refine WA.step (r := [8]) (by kernel_rfl) (by decide) (all1 ?_)
                    refine WO.u rfl (o_stB TI26 rfl (show _ = v109 from rfl) (own_one hown109) (hO.blk hB14 (by omega)) (show 0 < 1 by decide) ?_)
                    intro w110 hB14z ho110 hs110
                    replace hB14z : w110.heap[b14]? = some (.cells #[v109] 28 (0, 0)) := hB14z
                    have g14 := hO.blk hB14 (by omega)
                    have gC := hD34.only hO hqC
                    have gA := hDA.only hO hqA
                    have gB := hDB.only hO hqB
                    have hfin := (⟨ho110.blk (hO.blk hB10 (by omega)) (by omega), ho110.blk (hO.blk hB11 (by omega)) (by omega), hB14z, (gC.only ho110 (gC.off g14)).rd,
                      defR_app (gA.only ho110 (gA.off g14)).rd (gB.only ho110 (gB.off g14)).rd (Sl.own (own_only hown109 ho110 (fun k hk he => by subst he; exact own_off hown109 g14 (by decide) hk))),
                      (hx.trans' hO (fun _ h => h) (fun k hk h => by omega)).trans' ho110 (fun _ h => h) (fun k hk he => by omega)⟩ : w110.heap[b10]? = some (.cells #[dv34] 28 (0, 0)) ∧ w110.heap[b11]? = some (.cells (faultV C.2.1 C.2.2) 49 (0, 0)) ∧ w110.heap[b14]? = some (.cells #[v109] 28 (0, 0)) ∧ DefR w110 C.1 dv34 V34 ∧ DefR w110 (A.1.map bareD ++ B.1.map bareD) v109 _ ∧ Ext w0 w110)
                    refine WA.done (by kernel_rfl) ?_
                    exact ⟨_, _, rfl, rfl, rfl, hfin⟩
                  · skip
                    refine WO.c rfl rfl (o_ld TI26 rfl rfl (cell_of (hO.blk hB14 (by omega)) rfl) ?_)
                    refine WA.step (r := [0]) (by kernel_rfl) (by decide) (all1 ?_)
                    refine WO.c rfl rfl (o_bs0 TI26 TI40 ?_)
                    have h103 := own_new0 (w := wq) (el := 40) (s := 3)
                    replace hO : Only (fun k => wq.heap.size ≤ k) wq (wq.alloc (.cells #[] 40)) := (Only.alloc wq _).mono (fun _ _ h => h.elim)
                    generalize wq.alloc (.cells #[] 40) = w3 at *
                    refine WA.step (r := [3]) (by kernel_rfl) (by decide) (all1 ?_)
                    refine WO.c rfl rfl (o_apO (wq.heap.size) TI26 TI40 (show _ = Value.slice _ _ _ from rfl) rfl h103 (Sl.own (hDA.only hO hqA).row) rfl (by decide) (one_drows (fun j hj => own_one (hDA.tys.row j hj))) (by rw [maxLen_eq, List.length_map]; omega) (by rw [List.length_map]; omega) hO.size ?_)
                    intro v106 w106 hown106 ho106 hb106 _
                    replace hO := hO.trans' ho106 (fun _ h => h) (fun k _ hk => (h103.lt k hk).1)
                    rw [Nat.zero_add, List.nil_append] at hown106
                    clear ho106 hb106
                    refine WA.step (r := [6]) (by kernel_rfl) (by decide) (all1 ?_)
                    refine WO.c rfl rfl (o_apO (wq.heap.size) TI26 TI40 rfl rfl hown106 (Sl.own (hDB.only hO hqB).row) rfl (by decide) (one_drows (fun j hj => own_one (hDB.tys.row j hj))) (by rw [maxLen_eq, List.length_map, List.length_map]; omega) (by rw [List.length_map, List.length_map]; omega) hO.size ?_)
                    intro v109 w109 hown109 ho109 hb109 _
                    replace hO := hO.trans' ho109 (fun _ h => h) (fun k _ hk => (hown106.lt k hk).1)
                    clear ho109 hb109
                    refine WA.step (r := [7]) (by kernel_rfl) (by decide) (all1 ?_)
                    refine WO.c rfl rfl (o_fa 0 TI28 rfl TI26 rfl rfl ?_)
                    refine WA.step (r := [8]) (by kernel_rfl) (by decide) (all1 ?_)
                    refine WO.u rfl (o_stB TI26 rfl (show _ = v109 from rfl) (own_one hown109) (hO.blk hB14 (by omega)) (show 0 < 1 by decide) ?_)
                    intro w110 hB14z ho110 hs110
                    replace hB14z : w110.heap[b14]? = some (.cells #[v109] 28 (0, 0)) := hB14z
                    have g14 := hO.blk hB14 (by omega)
                    have gC := hD34.only hO hqC
                    have gA := hDA.only hO hqA
                    have gB := hDB.only hO hqB
                    have hfin := (⟨ho110.blk (hO.blk hB10 (by omega)) (by omega), ho110.blk (hO.blk hB11 (by omega)) (by omega), hB14z, (gC.only ho110 (gC.off g14)).rd,
                      defR_app (gA.only ho110 (gA.off g14)).rd (gB.only ho110 (gB.off g14)).rd (Sl.own (own_only hown109 ho110 (fun k hk he => by subst he; exact own_off hown109 g14 (by decide) hk))),
                      (hx.trans' hO (fun _ h => h) (fun k hk h => by omega)).trans' ho110 (fun _ h => h) (fun k hk he => by omega)⟩ : w110.heap[b10]? = some (.cells #[dv34] 28 (0, 0)) ∧ w110.heap[b11]? = some (.cells (faultV C.2.1 C.2.2) 49 (0, 0)) ∧ w110.heap[b14]? = some (.cells #[v109] 28 (0, 0)) ∧ DefR w110 C.1 dv34 V34 ∧ DefR w110 (A.1.map bareD ++ B.1.map bareD) v109 _ ∧ Ext w0 w110)
                    refine WA.done (by kernel_rfl) ?_
                    exact ⟨_, _, rfl, rfl, rfl, hfin⟩
              · skip
                refine WO.c rfl rfl (o_ld TI26 rfl rfl (cell_of (hO.blk hB15 (by omega)) rfl) ?_)
                refine WA.step (r := [0, 1]) (by kernel_rfl) (by decide) (all2 ?_ ?_)
                · skip
                  refine WO.c rfl rfl (o_bs0 TI26 TI40 ?_)
                  have h103 := own_new0 (w := wq) (el := 40) (s := 3)
                  replace hO : Only (fun k => wq.heap.size ≤ k) wq (wq.alloc (.cells #[] 40)) := (Only.alloc wq _).mono (fun _ _ h => h.elim)
                  generalize wq.alloc (.cells #[] 40) = w3 at *
                  refine WA.step (r := [1]) (by kernel_rfl) (by decide) (all1 ?_)
                  refine WO.c rfl rfl (o_fa 0 TI28 rfl TI26 rfl rfl ?_)
                  refine WA.step (r := [2]) (by kernel_rfl) (by decide) (all1 ?_)
                  refine WO.c rfl rfl (o_ld TI26 rfl rfl (cell_of (hO.blk hB14 (by omega)) rfl) ?_)
                  refine WA.step (r := [3]) (by kernel_rfl) (by decide) (all1 ?_)
                  refine WO.c rfl rfl (o_apO (wq.heap.size) TI26 TI40 (show _ = Value.slice _ _ _ from rfl) rfl h103 (Sl.own (hDA.only hO hqA).row) rfl (by decide) (one_drows (fun j hj => own_one (hDA.tys.row j hj))) (by rw [maxLen_eq, List.length_map]; omega) (by rw [List.length_map]; omega) hO.size ?_)
                  intro v106 w106 hown106 ho106 hb106 _
                  replace hO := hO.trans' ho106 (fun _ h => h) (fun k _ hk => (h103.lt k hk).1)
                  rw [Nat.zero_add, List.nil_append] at hown106
                  clear ho106 hb106
                  refine WA.step (r := [6]) (by kernel_rfl) (by decide) (all1 ?_)
                  refine WO.c rfl rfl (o_apO (wq.heap.size) TI26 TI40 rfl rfl hown106 (Sl.own (hDB.only hO hqB).row) rfl (by decide) (one_drows (fun j hj => own_one (hDB.tys.row j hj))) (by rw [maxLen_eq, List.length_map, List.length_map]; omega) (by rw [List.length_map, List.length_map]; omega) hO.size ?_)
                  intro v109 w109 hown109 ho109 hb109 _
                  replace hO := hO.trans' ho109 (fun _ h => h) (fun k _ hk => (hown106.lt k hk).1)
                  clear ho109 hb109
                  refine WA.step (r := [7]) (by kernel_rfl) (by decide) (all1 ?_)
                  refine WO.c rfl rfl (o_fa 0 TI28 rfl TI26 rfl rfl ?_)
                  refine WA.step (r := [8]) (by kernel_rfl) (by decide) (all1 ?_)
                  refine WO.u rfl (o_stB TI26 rfl (show _ = v109 from rfl) (own_one hown109) (hO.blk hB14 (by omega)) (show 0 < 1 by decide) ?_)
                  intro w110 hB14z ho110 hs110
                  replace hB14z : w110.heap[b14]? = some (.cells #[v109] 28 (0, 0)) := hB14z
                  have g14 := hO.blk hB14 (by omega)
                  have gC := hD34.only hO hqC
                  have gA := hDA.only hO hqA
                  have gB := hDB.only hO hqB
                  have hfin := (⟨ho110.blk (hO.blk hB10 (by omega)) (by omega), ho110.blk (hO.blk hB11 (by omega)) (by omega), hB14z, (gC.only ho110 (gC.off g14)).rd,
                    defR_app (gA.only ho110 (gA.off g14)).rd (gB.only ho110 (gB.off g14)).rd (Sl.own (own_only hown109 ho110 (fun k hk he => by subst he; exact own_off hown109 g14 (by decide) hk))),
                    (hx.trans' hO (fun _ h => h) (fun k hk h => by omega)).trans' ho110 (fun _ h => h) (fun k hk he => by omega)⟩ : w110.heap[b10]? = some (.cells #[dv34] 28 (0, 0)) ∧ w110.heap[b11]? = some (.cells (faultV C.2.1 C.2.2) 49 (0, 0)) ∧ w110.heap[b14]? = some (.cells #[v109] 28 (0, 0)) ∧ DefR w110 C.1 dv34 V34 ∧ DefR w110 (A.1.map bareD ++ B.1.map bareD) v109 _ ∧ Ext w0 w110)
                  refine WA.done (by kernel_rfl) ?_
                  exact ⟨_, _, rfl, rfl, rfl, hfin⟩
                · skip
                  refine WO.c rfl rfl (o_fa 0 TI28 rfl TI26 rfl rfl ?_)
                  refine WA.step (r := [0, 2]) (by kernel_rfl) (by decide) (all2 ?_ ?_)
                  · skip
                    refine WO.c rfl rfl (o_bs0 TI26 TI40 ?_)
                    have h103 := own_new0 (w := wq) (el := 40) (s := 3)
                    replace hO : Only (fun k => wq.heap.size ≤ k) wq (wq.alloc (.cells #[] 40)) := (Only.alloc wq _).mono (fun _ _ h => h.elim)
                    generalize wq.alloc (.cells #[] 40) = w3 at *
                    refine WA.step (r := [2]) (by kernel_rfl) (by decide) (all1 ?_)
                    refine WO.c rfl rfl (o_ld TI26 rfl rfl (cell_of (hO.blk hB14 (by omega)) rfl) ?_)
                    refine WA.step (r := [3]) (by kernel_rfl) (by decide) (all1 ?_)
                    refine WO.c rfl rfl (o_apO (wq.heap.size) TI26 TI40 (show _ = Value.slice _ _ _ from rfl) rfl h103 (Sl.own (hDA.only hO hqA).row) rfl (by decide) (one_drows (fun j hj => own_one (hDA.tys.row j hj))) (by rw [maxLen_eq, List.length_map]; omega) (by rw [List.length_map]; omega) hO.size ?_)
                    intro v106 w106 hown106 ho106 hb106 _
                    replace hO := hO.trans' ho106 (fun _ h => h) (fun k _ hk => (h103.lt k hk).1)
                    rw [Nat.zero_add, List.nil_append] at hown106
                    clear ho106 hb106
                    refine WA.step (r := [6]) (by kernel_rfl) (by decide) (all1 ?_)
                    refine WO.c rfl rfl (o_apO (wq.heap.size) TI26 TI40 rfl rfl hown106 (Sl.own (hDB.only hO hqB).row) rfl (by decide) (one_drows (fun j hj => own_one (hDB.tys.row j hj))) (by rw [maxLen_eq, List.length_map, List.length_map]; omega) (by rw [List.length_map, List.length_map]; omega) hO.size ?_)
                    intro v109 w109 hown109 ho109 hb109 _
                    replace hO := hO.trans' ho109 (fun _ h => h) (fun k _ hk => (hown106.lt k hk).1)
                    clear ho109 hb109
                    refine WA.step (r := [7]) (by kernel_rfl) (by decide) (all1 ?_)
                    refine WO.c rfl rfl (o_fa 0 TI28 rfl TI26 rfl rfl ?_)
                    refine WA.step (r := [8]) (by kernel_rfl) (by decide) (all1 ?_)
                    refine WO.u rfl (o_stB TI26 rfl (show _ = v109 from rfl) (own_one hown109) (hO.blk hB14 (by omega)) (show 0 < 1 by decide) ?_)
                    intro w110 hB14z ho110 hs110
                    replace hB14z : w110.heap[b14]? = some (.cells #[v109] 28 (0, 0)) := hB14z
                    have g14 := hO.blk hB14 (by omega)
                    have gC := hD34.only hO hqC
                    have gA := hDA.only hO hqA
                    have gB := hDB.only hO hqB
                    have hfin := (⟨ho110.blk (hO.blk hB10 (by omega)) (by omega), ho110.blk (hO.blk hB11 (by omega)) (by omega), hB14z, (gC.only ho110 (gC.off g14)).rd,
                      defR_app (gA.only ho110 (gA.off g14)).rd (gB.only ho110 (gB.off g14)).rd (Sl.own (own_only hown109 ho110 (fun k hk he => by subst he; exact own_off hown109 g14 (by decide) hk))),
                      (hx.trans' hO (fun _ h => h) (fun k hk h => by omega)).trans' ho110 (fun _ h => h) (fun k hk he => by omega)⟩ : w110.heap[b10]? = some (.cells #[dv34] 28 (0, 0)) ∧ w110.heap[b11]? = some (.cells (faultV C.2.1 C.2.2) 49 (0, 0)) ∧ w110.heap[b14]? = some (.cells #[v109] 28 (0, 0)) ∧ DefR w110 C.1 dv34 V34 ∧ DefR w110 (A.1.map bareD ++ B.1.map bareD) v109 _ ∧ Ext w0 w110)
                    refine WA.done (by kernel_rfl) ?_
                    exact ⟨_, _, rfl, rfl, rfl, hfin⟩
                  · skip
                    refine WO.c rfl rfl (o_ld TI26 rfl rfl (cell_of (hO.blk hB14 (by omega)) rfl) ?_)
                    refine WA.step (r := [0]) (by kernel_rfl) (by decide) (all1 ?_)
                    refine WO.c rfl rfl (o_bs0 TI26 TI40 ?_)
                    have h103 := own_new0 (w := wq) (el := 40) (s := 3)
                    replace hO : Only (fun k => wq.heap.size ≤ k) wq (wq.alloc (.cells #[] 40)) := (Only.alloc wq _).mono (fun _ _ h => h.elim)
                    generalize wq.alloc (.cells #[] 40) = w3 at *
                    refine WA.step (r := [3]) (by kernel_rfl) (by decide) (all1 ?_)
                    refine WO.c rfl rfl (o_apO (wq.heap.size) TI26 TI40 (show _ = Value.slice _ _ _ from rfl) rfl h103 (Sl.own (hDA.only hO hqA).row) rfl (by decide) (one_drows (fun j hj => own_one (hDA.tys.row j hj))) (by rw [maxLen_eq, List.length_map]; omega) (by rw [List.length_map]; omega) hO.size ?_)
                    intro v106 w106 hown106 ho106 hb106 _
                    replace hO := hO.trans' ho106 (fun _ h => h) (fun k _ hk => (h103.lt k hk).1)
                    rw [Nat.zero_add, List.nil_append] at hown106
                    clear ho106 hb106
                    refine WA.step (r := [6]) (by kernel_rfl) (by decide) (all1 ?_)
                    refine WO.c rfl rfl (o_apO (wq.heap.size) TI26 TI40 rfl rfl hown106 (Sl.own (hDB.only hO hqB).row) rfl (by decide) (one_drows (fun j hj => own_one (hDB.tys.row j hj))) (by rw [maxLen_eq, List.length_map, List.length_map]; omega) (by rw [List.length_map, List.length_map]; omega) hO.size ?_)
                    intro v109 w109 hown109 ho109 hb109 _
                    replace hO := hO.trans' ho109 (fun _ h => h) (fun k _ hk => (hown106.lt k hk).1)
                    clear ho109 hb109
                    refine WA.step (r := [7]) (by kernel_rfl) (by decide) (all1 ?_)
                    refine WO.c rfl rfl (o_fa 0 TI28 rfl TI26 rfl rfl ?_)
                    refine WA.step (r := [8]) (by kernel_rfl) (by decide) (all1 ?_)
                    refine WO.u rfl (o_stB TI26 rfl (show _ = v109 from rfl) (own_one hown109) (hO.blk hB14 (by omega)) (show 0 < 1 by decide) ?_)
                    intro w110 hB14z ho110 hs110
                    replace hB14z : w110.heap[b14]? = some (.cells #[v109] 28 (0, 0)) := hB14z
                    have g14 := hO.blk hB14 (by omega)
                    have gC := hD34.only hO hqC
                    have gA := hDA.only hO hqA
                    have gB := hDB.only hO hqB
                    have hfin := (⟨ho110.blk (hO.blk hB10 (by omega)) (by omega), ho110.blk (hO.blk hB11 (by omega)) (by omega), hB14z, (gC.only ho110 (gC.off g14)).rd,
                      defR_app (gA.only ho110 (gA.off g14)).rd (gB.only ho110 (gB.off g14)).rd (Sl.own (own_only hown109 ho110 (fun k hk he => by subst he; exact own_off hown109 g14 (by decide) hk))),
                      (hx.trans' hO (fun _ h => h) (fun k hk h => by omega)).trans' ho110 (fun _ h => h) (fun k hk he => by omega)⟩ : w110.heap[b10]? = some (.cells #[dv34] 28 (0, 0)) ∧ w110.heap[b11]? = some (.cells (faultV C.2.1 C.2.2) 49 (0, 0)) ∧ w110.heap[b14]? = some (.cells #[v109] 28 (0, 0)) ∧ DefR w110 C.1 dv34 V34 ∧ DefR w110 (A.1.map bareD ++ B.1.map bareD) v109 _ ∧ Ext w0 w110)
                    refine WA.done (by kernel_rfl) ?_
                    exact ⟨_, _, rfl, rfl, rfl, hfin⟩
          rintro e w ⟨vv, UU, h10, h11, h14, hB10, hB11, hB14, hD34, hDV, hx⟩
          refine W.seq ?_
          obtain ⟨wr, hwr⟩ : ∃ wr, wr = w.drew := ⟨_, rfl⟩
          have hxd : Ext w wr := hwr ▸ Only.drew w
          replace hx := hx.tr hxd
          replace hB10 := hxd.blk hB10 (fun h => h)
          replace hB11 := hxd.blk hB11 (fun h => h)
          replace hB14 := hxd.blk hB14 (fun h => h)
          replace hD34 := hD34.ext hxd
          replace hDV := hDV.ext hxd
          rw [hcc] at hB11
          replace hB11 : wr.heap[b11]? = some (.cells #[.int .i64 0, .int .i64 0] 49 (0, 0)) := hB11
          refine W.drawF 9 [] [] [(10, fun v _ => v = _), (11, fun v _ => v = _), (14, fun v _ => v = _)] rfl (by kernel_rfl) (by kernel_rfl) ⟨Mono.eq, Mono.eq, Mono.eq, trivial⟩ ⟨h10, h11, h14, trivial⟩ ?_
          refine WDS.p rfl (by decide) (fun e w hR hh => by obtain ⟨h11, -⟩ := hh; rw [← hwr] at hR; exact SG.n (o_ldA TI49 rfl h11 (cells_all (hR.blk hB11 (fun hF => hF.elim))) rfl ⟨rfl, Only.refl No _⟩)) ?_
          refine WDS.p rfl (by decide) (fun e w hR hh => by skip; exact SG.n (o_bldC (cs := [(.int .i64 0), (.int .i64 0)]) TI49 (Sizes.cons TI32 (Sizes.cons TI3 Sizes.nil)) rfl lnp rfl rfl ⟨rfl, Only.refl No _⟩)) ?_
          refine WDS.p rfl (by decide) (fun e w hR hh => by obtain ⟨h112, h111, -⟩ := hh; exact SG.n (o_eqR TI49 (by kernel_rfl) (by kernel_rfl) h111 h112 (.int TI32 (by decide) rfl rfl (.int TI3 (by decide) rfl rfl .nil)) ⟨rfl, Only.refl No _⟩)) ?_
          refine WDS.p rfl (by decide) (fun e w hR hh => by obtain ⟨h113, -⟩ := hh; exact SG.n (o_mvh h113 ⟨rfl, Only.refl No _⟩)) ?_
          refine WDS.p rfl (by decide) (fun e w hR hh => by obtain ⟨h114, h10, -⟩ := hh; rw [← hwr] at hR; exact SG.g h114 (by decide) (o_ldA TI28 rfl h10 (show Cells _ b10 0 [dv34] from Cells.of (hR.blk hB10 (fun hF => hF.elim)) 0 _ (by simp)) rfl ⟨rfl, Only.refl No _⟩)) ?_
          refine WDS.q 0 (fun u w => ∃ bv U, u = .agg #[bv] ∧ Defs w wr.heap.size (C.1.map bareD) bv U) (fun u w w2 hR hh => by obtain ⟨bv, U, h1, h2⟩ := hh; exact ⟨bv, U, h1, h2.ext (hR.mono (fun _ _ hF => hF.elim))⟩) (by kernel_rfl) rfl (by decide) (fun e w hR hh => by obtain ⟨h115, h114, -⟩ := hh; rw [← hwr] at hR; exact SG.g h114 (by decide) (o_call Try.call23 (lc h115 ln) ((bare_spec C.1 dv34 V34 _ (hD34.ext (hR.mono (fun _ _ hF => hF.elim))) hok3).mono (fun v w' ⟨bv, U, h1, h2, h3⟩ => ⟨⟨bv, U, h1, h2.mono hR.size⟩, h3⟩)))) ?_
          refine WDS.p rfl (by decide) (fun e w hR hh => by obtain ⟨h114, h14, -⟩ := hh; rw [← hwr] at hR; exact SG.g h114 (by decide) (o_ldA TI28 rfl h14 (show Cells _ b14 0 [vv] from Cells.of (hR.blk hB14 (fun hF => hF.elim)) 0 _ (by simp)) rfl ⟨rfl, Only.refl No _⟩)) ?_
          refine WDS.p rfl (by decide) (fun e w hR hh => by obtain ⟨h117, h116, h114, -⟩ := hh; rw [← hwr] at hR; obtain ⟨bv, U6, h116, hdd⟩ := h116; exact SG.g h114 (by decide) (o_call Try.call20 (lc h116 (lc h117 (lc rfl ln))) ((same_spec (C.1.map bareD) (A.1.map bareD ++ B.1.map bareD) bv vv U6 UU _ hdd.rd (hDV.ext (hR.mono (fun _ _ hF => hF.elim))) (by have := hok3.bare.len; omega) (fun d hd => by have := hok3.bare.ty d hd; omega)).mono (fun v w' h => h)))) ?_
          refine WDS.p rfl (by decide) (fun e w hR hh => by obtain ⟨h118, h114, -⟩ := hh; exact SG.n (o_pickA h114 h118 ⟨rfl, Only.refl No _⟩)) ?_
          rintro e w hR ⟨h119, h118, h117, h116, h115, h114, h113, h112, h111, h10, h11, h14, -⟩
          rw [← hwr] at hR
          replace hx := hx.tr (hR.mono (fun _ _ hF => hF.elim))
          refine WL.c rfl (o_ash h119 ?_)
          refine WL.nil ?_
          refine W.ret ?_
          refine ret1v rfl (show _ = Value.bool _ from rfl) ?_
          exact ⟨congrArg Value.bool (by rw [hbare]; simp), hx⟩

theorem joins_walk (w0 : World) (s : ByteArray) (hs : s.size ≤ 140737488355328) (t : ByteArray) (ht : t.size ≤ 140737488355328) : Ca Try.prog 8 #[.string s, .string t] w0 (fun v w' => v = .bool true ∧ Ext w0 w') := by
  obtain ⟨⟨xs⟩⟩ := s
  obtain ⟨⟨ys⟩⟩ := t
  exact joins_walk0 w0 xs ys hs ht

end Go.Proofs.Ytcljkkfpcomdcaa
