/-
  Walks and lemmas. Written by program out of specs of mine.
-/
import Derived.WalkKit
import Derived.WalkSpells
import Derived.WalkLawsBesides
import Derived.Deep.Quiet
import Derived.StillTail
import Derived.StringKeys
import Derived.Laws.StructEq
import Derived.Laws.Externs
import Derived.Laws.Tables
import Derived.Scope
import Derived.Test.YtpbflfgigfdohaaProg
import Derived.Laws.AppendOwn
import Derived.Maps.AppendAt
import Derived.Recover
import Derived.Lib.Bytealg
import Derived.SizedLaws
import Derived.ChangeArms
import Derived.ChangeSlices
import Derived.Maps.OwnSet
import Derived.Test.YtpbflfgigfdohaaRows
import Derived.ProofKit
import Derived.OpenShut
import Derived.ShutString
import Derived.ChangeOld
import Derived.Below
import Derived.Test.YtpbflfgigfdohaaKc6
set_option linter.unusedSimpArgs false
set_option linter.unusedVariables false
set_option maxRecDepth 100000
set_option linter.unusedSimpArgs false
set_option linter.unusedVariables false
set_option maxRecDepth 100000
namespace Go.Proofs.Ytpbflfgigfdohaa
open Go Go.Vc Go.RowKit Go.Proofs

theorem dps_succ (n : Nat) (f : Nat → Nat) : dps (n + 1) f = dps n f ++ [iv (f n)] := by
  unfold dps
  rw [List.range_succ, List.map_append]; rfl
theorem sc_dph {L : List Tp} {R : List Ro} (hb : tpF L = none) {i : Nat} (hi : i < L.length) (h : 64 < dpI L i) (hd : ∀ j, j < i → ¬ 64 < dpI L j) : scV L R = (83, (i : Int)) := by
  unfold scV scF
  rw [hb, Option.none_or, dpV_hit hi h hd]; rfl
theorem sc_dpn {L : List Tp} (h : ∀ j, j < L.length → ¬ 64 < dpI L j) : dpF L = none := dpV_no h
/-- a root's right, its name aside -/
def roG (n : Nat) (R : List Ro) (q : Nat) : Prop := q < 256 ∧ nameB (R.getD q ro0).name = true ∧ 0 ≤ (R.getD q ro0).ty ∧ (R.getD q ro0).ty ≤ (n : Int) - 1
instance (n : Nat) (R : List Ro) (q : Nat) : Decidable (roG n R q) := by unfold roG; infer_instance
theorem ro_split {n : Nat} {R : List Ro} {q : Nat} : roOk n R q ↔ roG n R q ∧ ∀ j, j < q → (R.getD j ro0).name ≠ (R.getD q ro0).name := by
  unfold roOk roG
  constructor
  · rintro ⟨h1, h2, h3, h4, h5⟩; exact ⟨⟨h1, h2, h3, by omega⟩, h5⟩
  rintro ⟨⟨h1, h2, h3, h4⟩, h5⟩; exact ⟨h1, h2, h3, by omega, h5⟩


theorem ok_step {n : Nat} {R : List Ro} {q j : Nat} {ok : Bool} {rj r : Ro} (h : ok = true ↔ roG n R q ∧ ∀ m, m < j → (R.getD m ro0).name ≠ (R.getD q ro0).name) (hj : R.getD j ro0 = rj) (hr : R.getD q ro0 = r) :
    (ok = true ∧ rj.name ≠ r.name) ↔ roG n R q ∧ ∀ m, m < j + 1 → (R.getD m ro0).name ≠ (R.getD q ro0).name := by
  rw [h]
  constructor
  · rintro ⟨⟨h1, h2⟩, h3⟩
    refine ⟨h1, fun m hm => ?_⟩
    rcases Nat.lt_or_ge m j with h | h
    · exact h2 m h
    rw [show m = j by omega, hj, hr]; exact h3
  rintro ⟨h1, h2⟩
  exact ⟨⟨h1, fun m hm => h2 m (by omega)⟩, by rw [← hj, ← hr]; exact h2 j (by omega)⟩
theorem mxD_lt {L : List Tp} {i : Nat} (hi : i < L.length) (hok : ∀ j (hj : j < L.length), tpOk L[j] (j : Int)) : ∀ q, q ≤ L[i].parts.length → (∀ j, j < i → dpI L j ≤ i) → mxD L L[i] q ≤ i
  | 0, _, hd => by
    rw [mxD_zero, bsD]
    split
    · rename_i hk
      have := tp_elem (hok i hi) hk
      exact hd _ (by omega)
    omega
  | q + 1, hq, hd => by
    rw [mxD_succ (by omega)]
    have h1 := mxD_lt hi hok q (by omega) hd
    have h2 := tp_part (hok i hi) (q := q) (by omega)
    have h3 := hd L[i].parts[q].ty.toNat (by omega)
    omega
theorem dpI_le {L : List Tp} (hok : ∀ j (hj : j < L.length), tpOk L[j] (j : Int)) : ∀ n i, i < n → i < L.length → dpI L i ≤ i + 1
  | 0, i, h, _ => by omega
  | n + 1, i, h, hi => by
    rw [dpI_mx hi (hok i hi)]
    have := mxD_lt hi hok L[i].parts.length (Nat.le_refl _) (fun j hj => by have := dpI_le hok n j (by omega) (by omega); omega)
    omega

set_option maxHeartbeats 4000000 in
theorem trdepths_spec (L : List Tp) (tv rv : Value) (V : Nat → Value) (w0 : World) (hT : TypR w0 L tv V) (h1v : rv.oneCell' = true) (hok : ∀ i (hi : i < L.length), tpOk L[i] (i : Int)) (hl : LLim L) : Ca Try.prog 40 #[.agg #[tv, rv]] w0 (fun v w' => w'.ownsRow w0.heap.size 3 1 v L.length (dps L.length (dpI L)) ∧ Ext w0 w') := by
  have hlen := hl.len
  refine Ca.of Try.func40 Try.ntmps40 rfl rfl ?_
  refine W.seq ?_
  refine W.region ?_
  refine WL.c rfl (o_boxB rfl ?_)
  intro w1 hC1 hx1 hs1
  obtain ⟨b1, hb1⟩ : ∃ b, b = w0.heap.size := ⟨_, rfl⟩
  rw [← hb1] at hC1 ⊢
  replace hC1 : w1.heap[b1]? = some (.cells ([tv, rv]).toArray 34 (0, 0)) := hC1
  have hx := hx1
  have hl1 := blk_lt3 hC1
  refine WL.c rfl (o_ash (by first | exact (show _ = Value.slice _ _ _ from rfl) | exact rfl) ?_)
  refine WL.nil ?_
  refine W.seq ?_
  refine W.region ?_
  refine WL.c rfl (o_ash (by first | exact (show _ = Value.slice _ _ _ from rfl) | exact rfl) ?_)
  refine WL.nil ?_
  refine W.seq ?_
  refine W.seq ?_
  refine W.region ?_
  refine WL.c rfl (o_ash (show _ = Value.int _ _ from rfl) ?_)
  refine WL.nil ?_
  refine W.block ?_
  refine W.loop (fun e w => ∃ (i : Nat) (ov : Value), i ≤ L.length ∧ e 1 = .pointer (some ⟨b1, 0, none⟩) ∧ e 3 = ov ∧ e 4 = .int .i64 (i : Int) ∧ w.ownsRow w0.heap.size 3 1 ov i (dps i (dpI L)) ∧ (∀ k, ov.ownBlock = some k → w0.heap.size ≤ k) ∧ w.heap[b1]? = some (.cells #[tv, rv] 34 (0, 0)) ∧ Ext w0 w) (fun e w => L.length - (intOf (e 4)).toNat) ?_ ?_
  · exact ⟨0, .slice none 0 0, Nat.zero_le _, rfl, rfl, rfl, World.ownsRow_nil _ _ _ _, fun k hk => by simp [Value.ownBlock] at hk, hC1, hx⟩
  rintro e w ⟨i, ov, hi, h1, h3, h4, hro, hov0, hC1, hx⟩
  have hm4 := h4
  rw [← hb1] at hro hov0
  refine W.seq ?_
  refine W.seq ?_
  refine W.region ?_
  refine WL.c rfl (o_mvh h4 ?_)
  refine WL.c rfl (o_fa 0 TI34 rfl TI31 rfl h1 ?_)
  refine WL.c rfl (o_ld TI31 rfl rfl (cell_of hC1 rfl) ?_)
  refine WL.c rfl (o_lenR TI31 rfl (hT.ext hx).row ?_)
  refine WL.c rfl (o_lt rfl rfl ?_)
  refine WL.nil ?_
  refine W.cond rfl (fun c12 => ?_) (fun c12 => ?_)
  · try simp only [cs8] at c12
    have hi1 : i < L.length := by omega
    obtain ⟨tb, to_, tc, hlv, htc, hty⟩ := (hT.ext hx).atk hi1
    have hC1s := hC1
    rw [hlv] at hC1s
    have hoki := hok i hi1
    have hmxb : mxD L L[i] L[i].parts.length ≤ 140737488351232 := by have h1 := dpI_le hok _ i (Nat.lt_succ_self _) hi1; rw [dpI_mx hi1 hoki] at h1; omega
    have hdm := dpI_mx hi1 hoki
    have htl := (hl.ty _ (List.getElem_mem hi1)).len
    obtain ⟨t, ht⟩ : ∃ t, t = L[i] := ⟨_, rfl⟩
    rw [← ht] at htc hty hoki hdm htl hmxb
    have hpt := fun q (hq : q < t.parts.length) => tp_part hoki hq
    replace hty := fun w9 (h9 : Ext w0 w9) => (show Sl w9 3 (V i) t.parts.length (pas t.parts) from by have := (hT.ext h9).tys i hi1; rw [pasT_at hi1, ← ht] at this; exact this)
    have hone : (tcell t (V i)).toArray.toList.all (·.oneCell') = true := List.all_eq_true.2 (tcell_all (sl_one1 (hty _ hx)))
    refine W.skip ?_
    refine W.seq ?_
    refine W.block ?_
    refine W.seq ?_
    refine W.region ?_
    refine WL.c rfl (o_fa 0 TI34 rfl TI31 rfl h1 ?_)
    refine WL.c rfl (o_ld TI31 rfl rfl (cell_of hC1s rfl) ?_)
    refine WL.c rfl (o_mvh h4 ?_)
    refine WL.c rfl (o_ixB (i := i) TI31 TI50 (show _ = Value.slice (some ⟨tb, to_, none⟩) L.length tc from rfl) (show _ = Value.int .i64 (i : Int) from rfl) (by omega) ?_)
    refine WL.c rfl (o_ldA TI50 rfl rfl htc rfl ?_)
    refine WL.c rfl (o_alB TI50 ?_)
    intro wa hCa hxa hsa
    refine WL.u (o_stA TI50 rfl (show _ = Value.agg (tcell t (V i)).toArray from rfl) rfl hone hCa rfl ?_)
    intro wb5 hC5 hob hsb
    have hxb := Ext.own hxa (Nat.le_refl _) hob
    obtain ⟨b5, hb5⟩ : ∃ b, b = w.heap.size := ⟨_, rfl⟩
    rw [← hb5] at hC5 ⊢
    clear hCa hxa hsa hob hsb
    replace hx := hx.tr hxb
    replace hro := own_ext hro hxb
    replace hC1 := hxb.blk hC1 (fun h => h)
    clear hxb
    refine WL.nil ?_
    refine W.seq ?_
    refine W.region ?_
    refine WL.c rfl (o_ash (show _ = Value.int _ _ from rfl) ?_)
    refine WL.nil ?_
    refine W.seq ?_
    refine W.seq ?_
    refine W.region ?_
    refine WL.cut (fun e1 w1 => e1 1 = .pointer (some ⟨b1, 0, none⟩) ∧ e1 3 = ov ∧ e1 4 = .int .i64 (i : Int) ∧ e1 5 = .pointer (some ⟨b5, 0, none⟩) ∧ e1 32 = .bool (decide (t.kind = 4 ∨ t.kind = 5 ∨ t.kind = 6)) ∧ e1 6 = iv 0 ∧ w1.ownsRow b1 3 1 ov i (dps i (dpI L)) ∧ w1.heap[b1]? = some (.cells #[tv, rv] 34 (0, 0)) ∧ w1.heap[b5]? = some (.cells (tcell t (V i)).toArray 50 (0, 0)) ∧ Ext w0 w1) ?_ ?_
    · -- region 7
      refine WL.c rfl (o_fa 0 TI50 rfl TI3 rfl rfl ?_)
      refine WL.c rfl (o_ld TI3 rfl rfl (cell_of hC5 rfl) ?_)
      refine WL.c rfl (o_eq rfl rfl ?_)
      refine WL.c rfl (o_mvh (show _ = Value.bool _ from rfl) ?_)
      refine WL.sp 3 rfl (fun g23 => ?_) (fun g23 => ?_)
      · skip
        refine WL.s rfl (g23) rfl ?_
        refine WL.s rfl (g23) rfl ?_
        refine WL.s rfl (g23) rfl ?_
        refine WL.c rfl (o_pickT rfl (g23) ?_)
        refine WL.c rfl (o_mvh (show _ = Value.bool _ from rfl) ?_)
        refine WL.s rfl (rfl) rfl ?_
        refine WL.s rfl (rfl) rfl ?_
        refine WL.s rfl (rfl) rfl ?_
        refine WL.c rfl (o_pickT rfl (rfl) ?_)
        exact WL.nil (⟨h1, h3, h4, rfl, congrArg Value.bool (by rw [Bool.eq_iff_iff]; simp_all), rfl, hro, hC1, hC5, hx⟩)
      skip
      refine WL.g rfl (g23) rfl (o_fa 0 TI50 rfl TI3 rfl rfl ?_)
      refine WL.g rfl (g23) rfl (o_ld TI3 rfl rfl (cell_of hC5 rfl) ?_)
      refine WL.g rfl (g23) rfl (o_eq rfl rfl ?_)
      refine WL.c rfl (o_pickO rfl rfl ?_)
      refine WL.c rfl (o_mvh (show _ = Value.bool _ from rfl) ?_)
      refine WL.sp 8 rfl (fun g28 => ?_) (fun g28 => ?_)
      · skip
        refine WL.s rfl (g28) rfl ?_
        refine WL.s rfl (g28) rfl ?_
        refine WL.s rfl (g28) rfl ?_
        refine WL.c rfl (o_pickT rfl (g28) ?_)
        exact WL.nil (⟨h1, h3, h4, rfl, congrArg Value.bool (by rw [Bool.eq_iff_iff]; simp_all), rfl, hro, hC1, hC5, hx⟩)
      skip
      refine WL.g rfl (g28) rfl (o_fa 0 TI50 rfl TI3 rfl rfl ?_)
      refine WL.g rfl (g28) rfl (o_ld TI3 rfl rfl (cell_of hC5 rfl) ?_)
      refine WL.g rfl (g28) rfl (o_eq rfl rfl ?_)
      refine WL.c rfl (o_pickO rfl rfl ?_)
      exact WL.nil (⟨h1, h3, h4, rfl, congrArg Value.bool (by rw [Bool.eq_iff_iff]; simp_all), rfl, hro, hC1, hC5, hx⟩)
    rintro e w ⟨h1, h3, h4, h5, h32, h6, hro, hC1, hC5, hx⟩
    refine W.cut (fun e1 w1 => e1 1 = .pointer (some ⟨b1, 0, none⟩) ∧ e1 3 = ov ∧ e1 4 = .int .i64 (i : Int) ∧ e1 5 = .pointer (some ⟨b5, 0, none⟩) ∧ e1 6 = iv (mxD L t 0) ∧ w1.ownsRow b1 3 1 ov i (dps i (dpI L)) ∧ w1.heap[b1]? = some (.cells #[tv, rv] 34 (0, 0)) ∧ w1.heap[b5]? = some (.cells (tcell t (V i)).toArray 50 (0, 0)) ∧ Ext w0 w1) ?_ ?_
    · -- both ways
      refine W.cond h32 (fun c32 => ?_) (fun c32 => ?_)
      · try simp only [cs8] at c32
        have hel := tp_elem hoki c32
        have hen : t.elem = ((t.elem.toNat : Nat) : Int) := by omega
        obtain ⟨gb, gc, hovE, hovb⟩ := own_some hro (by omega)
        refine W.region ?_
        refine WL.c rfl (o_mvh h3 ?_)
        refine WL.c rfl (o_fa 2 TI50 rfl TI3 rfl h5 ?_)
        refine WL.c rfl (o_ld TI3 rfl rfl (cell_of hC5 rfl) ?_)
        refine WL.c rfl (o_ixB (i := t.elem.toNat) TI79 TI3 (show _ = Value.slice (some ⟨gb, 0, none⟩) i gc from by rw [← hovE]; first | rfl | exact h3) (show _ = Value.int .i64 ((t.elem.toNat : Nat) : Int) from by rw [← hen]; rfl) (by omega) ?_)
        refine WL.c rfl (o_ld TI3 rfl rfl (show World.cell? _ ⟨gb, 0 + t.elem.toNat * 1, none⟩ = some (iv (dpI L t.elem.toNat)) from by rw [Nat.zero_add, Nat.mul_one]; exact own_cell (hovE ▸ hro) (dps_at (by omega))) ?_)
        refine WL.c rfl (o_ash (show _ = Value.int _ _ from rfl) ?_)
        refine WL.nil ?_
        first | exact ⟨h1, h3, h4, h5, by rw [mxD_zero, bsD, if_pos c32]; rfl, hro, hC1, hC5, hx⟩ | exact ⟨h1, h3, h4, h5, by rw [mxD_zero, bsD, if_neg c32]; exact h6, hro, hC1, hC5, hx⟩
      try simp only [cs8] at c32
      refine W.skip ?_
      first | exact ⟨h1, h3, h4, h5, by rw [mxD_zero, bsD, if_pos c32]; rfl, hro, hC1, hC5, hx⟩ | exact ⟨h1, h3, h4, h5, by rw [mxD_zero, bsD, if_neg c32]; exact h6, hro, hC1, hC5, hx⟩
    rintro e w ⟨h1, h3, h4, h5, h6, hro, hC1, hC5, hx⟩
    refine W.seq ?_
    refine W.seq ?_
    refine W.region ?_
    refine WL.c rfl (o_ash (show _ = Value.int _ _ from rfl) ?_)
    refine WL.nil ?_
    refine W.block ?_
    refine W.loop (fun e w => ∃ q : Nat, q ≤ t.parts.length ∧ e 1 = .pointer (some ⟨b1, 0, none⟩) ∧ e 3 = ov ∧ e 4 = .int .i64 (i : Int) ∧ e 5 = .pointer (some ⟨b5, 0, none⟩) ∧ e 6 = iv (mxD L t q) ∧ e 7 = .int .i64 (q : Int) ∧ w.ownsRow b1 3 1 ov i (dps i (dpI L)) ∧ w.heap[b1]? = some (.cells #[tv, rv] 34 (0, 0)) ∧ w.heap[b5]? = some (.cells (tcell t (V i)).toArray 50 (0, 0)) ∧ Ext w0 w) (fun e w => t.parts.length - (intOf (e 7)).toNat) ?_ ?_
    · exact ⟨0, Nat.zero_le _, h1, h3, h4, h5, h6, rfl, hro, hC1, hC5, hx⟩
    rintro e w ⟨q, hq, h1, h3, h4, h5, h6, h7, hro, hC1, hC5, hx⟩
    have hm7 := h7
    refine W.seq ?_
    refine W.seq ?_
    refine W.region ?_
    refine WL.c rfl (o_mvh h7 ?_)
    refine WL.c rfl (o_fa 3 TI50 rfl TI48 rfl h5 ?_)
    refine WL.c rfl (o_ld TI48 rfl rfl (cell_of hC5 rfl) ?_)
    refine WL.c rfl (o_lenR TI48 rfl (hty _ hx) ?_)
    refine WL.c rfl (o_lt rfl rfl ?_)
    refine WL.nil ?_
    refine W.cond rfl (fun c42 => ?_) (fun c42 => ?_)
    · try simp only [cs8] at c42
      have hq1 : q < t.parts.length := by omega
      obtain ⟨ub, uo, uc, hV, huc⟩ := Sl.paq (hty _ hx) hq1
      have hC5s := hC5
      rw [hV] at hC5s
      have hptq := hpt q hq1
      have hms := mxD_succ (L := L) hq1
      obtain ⟨p, hp⟩ : ∃ p, p = t.parts[q] := ⟨_, rfl⟩
      rw [← hp] at huc hptq hms
      have hen : p.ty = ((p.ty.toNat : Nat) : Int) := by omega
      obtain ⟨gb, gc, hovE, hovb⟩ := own_some hro (by omega)
      refine W.skip ?_
      refine W.seq ?_
      refine W.block ?_
      refine W.region ?_
      refine WL.c rfl (o_mvh h6 ?_)
      refine WL.c rfl (o_mvh h3 ?_)
      refine WL.c rfl (o_fa 3 TI50 rfl TI48 rfl h5 ?_)
      refine WL.c rfl (o_ld TI48 rfl rfl (cell_of hC5s rfl) ?_)
      refine WL.c rfl (o_mvh h7 ?_)
      refine WL.c rfl (o_ixB (i := q) TI48 TI52 (show _ = Value.slice (some ⟨ub, uo, none⟩) t.parts.length uc from rfl) (show _ = Value.int .i64 (q : Int) from rfl) (by omega) ?_)
      refine WL.c rfl (o_fa 2 TI52 rfl TI3 rfl rfl ?_)
      refine WL.c rfl (o_ld TI3 rfl rfl (huc 2 _ rfl) ?_)
      refine WL.c rfl (o_ixB (i := p.ty.toNat) TI79 TI3 (show _ = Value.slice (some ⟨gb, 0, none⟩) i gc from by rw [← hovE]; first | rfl | exact h3) (show _ = Value.int .i64 ((p.ty.toNat : Nat) : Int) from by rw [← hen]; rfl) (by omega) ?_)
      refine WL.c rfl (o_ld TI3 rfl rfl (show World.cell? _ ⟨gb, 0 + p.ty.toNat * 1, none⟩ = some (iv (dpI L p.ty.toNat)) from by rw [Nat.zero_add, Nat.mul_one]; exact own_cell (hovE ▸ hro) (dps_at (by omega))) ?_)
      refine WL.c rfl (n_max (a := mxD L t q) (b := dpI L p.ty.toNat) rfl rfl ?_)
      refine WL.c rfl (o_ash (show _ = Value.int _ _ from rfl) ?_)
      refine WL.nil ?_
      refine W.region ?_
      refine WL.c rfl (o_mvh h7 ?_)
      refine WL.c rfl (o_addi rfl rfl (by omega) ?_)
      refine WL.c rfl (o_ash (show _ = Value.int _ _ from rfl) ?_)
      refine WL.nil ?_
      refine ⟨⟨q + 1, by omega, h1, h3, h4, h5, by rw [hms]; rfl, rfl, hro, hC1, hC5, hx⟩, ?_⟩
      show t.parts.length - ((q : Int) + 1).toNat < _
      rw [hm7]; simp [intOf]; omega
    try simp only [cs8] at c42
    have hq1 : q = t.parts.length := by omega
    have hmb : mxD L t q ≤ 140737488351232 := by rw [hq1]; exact hmxb
    refine W.exit ?_
    refine W.region ?_
    refine WL.c rfl (o_mvh h3 ?_)
    refine WL.c rfl (o_mvh h6 ?_)
    refine WL.c rfl (o_addi (a := ((mxD L t q : Nat) : Int)) (b := 1) rfl rfl (by omega) ?_)
    have hdm2 : dpI L i = mxD L t q + 1 := by rw [hq1]; exact hdm
    refine WL.apO (b1) rfl rfl TI79 TI3 (show _ = Value.int _ _ from rfl) rfl hro (by decide) (by decide) rfl (one1 rfl) rfl (by rw [maxLen_eq]; omega) (by omega) (by have := hx.size; omega) ?_
    intro v60 w60 hown1 ho60 hb60 _
    have hown1 : w60.ownsRow b1 3 1 v60 (i + 1) (dps i (dpI L) ++ [iv (mxD L t q + 1)]) := hown1
    have hov := hro.lt
    replace hC1 := ho60.blk hC1 (fun e => own_off hro hC1 (by decide) e)
    replace hx := hx.trans' ho60 (fun _ h => h) (fun k hk e => by have := (hov k e).1; omega)
    refine WL.c rfl (o_ash (by first | exact (show _ = Value.slice _ _ _ from rfl) | exact rfl) ?_)
    refine WL.nil ?_
    refine W.region ?_
    refine WL.c rfl (o_mvh h4 ?_)
    refine WL.c rfl (o_addi rfl rfl (by omega) ?_)
    refine WL.c rfl (o_ash (show _ = Value.int _ _ from rfl) ?_)
    refine WL.nil ?_
    refine ⟨⟨i + 1, v60, by omega, h1, rfl, rfl, by rw [dps_succ, hdm2, ← hb1]; exact hown1, fun k hk => by rw [← hb1]; exact (hown1.lt k hk).1, hC1, hx⟩, ?_⟩
    show L.length - ((i : Int) + 1).toNat < _
    rw [hm4]; simp [intOf]; omega
  try simp only [cs8] at c12
  have hi1 : i = L.length := by omega
  subst hi1
  refine W.exit ?_
  refine W.seq ?_
  refine W.region ?_
  refine WL.c rfl (o_mvh h3 ?_)
  refine WL.c rfl (o_ash (by first | exact (show _ = Value.slice _ _ _ from rfl) | exact rfl) ?_)
  refine WL.nil ?_
  refine W.ret ?_
  refine ret1v rfl rfl ?_
  exact ⟨hro, hx⟩
set_option maxHeartbeats 4000000 in
theorem trcheck_spec (L : List Tp) (R : List Ro) (tv rv : Value) (V : Nat → Value) (w0 : World) (hS : SchR w0 L R tv rv V) (hlL : LLim L) (hlR : RLim R) : Ca Try.prog 16 #[.agg #[tv, rv]] w0 (fun v w' => v = .agg #[.int .i64 (scV L R).1, .int .i64 (scV L R).2] ∧ Ext w0 w') := by
  have hlen := hlL.len
  have hlr := hlR.len
  have hT := hS.ty
  have hR0 := hS.ro
  refine Ca.of Try.func16 Try.ntmps16 rfl rfl ?_
  refine W.seq ?_
  refine W.region ?_
  refine WL.c rfl (o_boxB rfl ?_)
  intro w1 hC1 hx1 hs1
  obtain ⟨b1, hb1⟩ : ∃ b, b = w0.heap.size := ⟨_, rfl⟩
  rw [← hb1] at hC1 ⊢
  replace hC1 : w1.heap[b1]? = some (.cells ([tv, rv]).toArray 34 (0, 0)) := hC1
  have hx := hx1
  refine WL.c rfl (o_alB TI28 ?_)
  intro wb hC2 hxb hsb
  have hq1 := (Array.getElem?_eq_some_iff.1 hC1).1
  have hqx := hx.size
  replace hx := hx.tr hxb
  replace hC1 := hxb.blk hC1 (fun h => h)
  obtain ⟨c2, hc2⟩ : ∃ c, c = w1.heap.size := ⟨_, rfl⟩
  rw [← hc2] at hC2 ⊢
  have hz2 : w0.heap.size ≤ c2 := by rw [hc2]; exact hqx
  replace hC2 : wb.heap[c2]? = some (.cells #[.int .i64 0, .int .i64 0] 28 (0, 0)) := hC2
  clear hxb hq1
  refine WL.nil ?_
  refine W.seq ?_
  refine W.seq ?_
  refine W.region ?_
  refine WL.c rfl (o_ash (show _ = Value.int _ _ from rfl) ?_)
  refine WL.nil ?_
  refine W.block ?_
  refine W.loop (fun e w => ∃ i : Nat, i ≤ L.length ∧ e 1 = .pointer (some ⟨b1, 0, none⟩) ∧ e 2 = .pointer (some ⟨c2, 0, none⟩) ∧ e 3 = .int .i64 (i : Int) ∧ (∀ j (hj : j < L.length), j < i → tpOk L[j] (j : Int)) ∧ w.heap[b1]? = some (.cells #[tv, rv] 34 (0, 0)) ∧ w.heap[c2]? = some (.cells #[.int .i64 0, .int .i64 0] 28 (0, 0)) ∧ Ext w0 w) (fun e w => L.length - (intOf (e 3)).toNat) ?_ ?_
  · exact ⟨0, Nat.zero_le _, rfl, rfl, rfl, fun j hj h => by omega, hC1, hC2, hx⟩
  rintro e w ⟨i, hi, h1, h2, h3, hok, hC1, hC2, hx⟩
  have hm3 := h3
  refine W.seq ?_
  refine W.seq ?_
  refine W.region ?_
  refine WL.c rfl (o_mvh h3 ?_)
  refine WL.c rfl (o_fa 0 TI34 rfl TI31 rfl h1 ?_)
  refine WL.c rfl (o_ld TI31 rfl rfl (cell_of hC1 rfl) ?_)
  refine WL.c rfl (o_lenR TI31 rfl (hT.ext hx).row ?_)
  refine WL.c rfl (o_lt rfl rfl ?_)
  refine WL.nil ?_
  refine W.cond rfl (fun c13 => ?_) (fun c13 => ?_)
  · try simp only [cs8] at c13
    have hi1 : i < L.length := by omega
    obtain ⟨tb, to_, tc, hlv, htc, hty⟩ := (hT.ext hx).atk hi1
    have hC1s := hC1
    rw [hlv] at hC1s
    have htl := hlL.ty _ (List.getElem_mem hi1)
    obtain ⟨t, ht⟩ : ∃ t, t = L[i] := ⟨_, rfl⟩
    rw [← ht] at htc hty htl
    refine W.skip ?_
    refine W.seq ?_
    refine W.block ?_
    refine W.seq ?_
    refine W.region ?_
    refine WL.c rfl (o_fa 0 TI34 rfl TI31 rfl h1 ?_)
    refine WL.c rfl (o_ld TI31 rfl rfl (cell_of hC1s rfl) ?_)
    refine WL.c rfl (o_mvh h3 ?_)
    refine WL.c rfl (o_ixB (i := i) TI31 TI50 (show _ = Value.slice (some ⟨tb, to_, none⟩) L.length tc from rfl) (show _ = Value.int .i64 (i : Int) from rfl) (by omega) ?_)
    refine WL.c rfl (o_ldA TI50 rfl rfl htc rfl ?_)
    refine WL.c rfl (o_mvh h3 ?_)
    refine WL.c rfl (o_call Try.call39 (lc rfl (lc rfl ln)) ((trright_spec t (V i) (i : Int) _ hty htl ⟨by omega, by omega⟩).mono ?_))
    rintro v22 w22 ⟨rfl, hx22⟩
    replace hx := hx.tr hx22
    replace hC1 := hx22.blk hC1 (fun h => h)
    replace hC2 := hx22.blk hC2 (fun h => h)
    refine WL.c rfl (o_not' rfl ?_)
    refine WL.nil ?_
    refine W.cond rfl (fun c23 => ?_) (fun c23 => ?_)
    · try simp only [cs8] at c23
      have hti : ¬ tpOk t (i : Int) := by rw [← tpB_iff]; simpa using c23
      refine W.seq ?_
      skip
      skip
      refine W.region ?_
      refine WL.c rfl (o_mvh h3 ?_)
      refine WL.c rfl (o_bldC (cs := [(.int .i64 92), _]) TI28 (Sizes.cons TI26 (Sizes.cons TI3 Sizes.nil)) rfl (lcp (show _ = Value.int _ _ from rfl) (lcp (show _ = Value.int _ _ from rfl) lnp)) rfl rfl ?_)
      refine WL.u (o_stA TI28 h2 (show _ = Value.agg #[.int .i64 92, .int .i64 (i : Int)] from rfl) rfl rfl hC2 rfl ?_)
      intro wz hCz hoz hsz
      replace hx := hx.trans' hoz (fun _ h => h) (fun b hb he => by omega)
      refine WL.nil ?_
      refine W.ret ?_
      refine retC rfl TI28 rfl h2 (show Cells _ c2 0 [.int .i64 92, .int .i64 (i : Int)] from Cells.of hCz 0 _ (by simp)) rfl ?_
      exact ⟨by rw [sc_tp hi1 (ht ▸ hti) hok], hx⟩
    try simp only [cs8] at c23
    have hti : tpOk t (i : Int) := by rw [← tpB_iff]; simpa using c23
    refine W.skip ?_
    refine W.region ?_
    refine WL.c rfl (o_mvh h3 ?_)
    refine WL.c rfl (o_addi rfl rfl (by omega) ?_)
    refine WL.c rfl (o_ash (show _ = Value.int _ _ from rfl) ?_)
    refine WL.nil ?_
    refine ⟨⟨i + 1, by omega, h1, h2, rfl, fun j hj h => ?_, hC1, hC2, hx⟩, ?_⟩
    · rcases Nat.lt_or_ge j i with h5 | h5
      · exact hok j hj h5
      have e : j = i := by omega
      subst e; exact ht ▸ hti
    show L.length - ((i : Int) + 1).toNat < _
    rw [hm3]; simp [intOf]; omega
  try simp only [cs8] at c13
  have hi1 : i = L.length := by omega
  have hok2 : ∀ j (hj : j < L.length), tpOk L[j] (j : Int) := fun j hj => hok j hj (by omega)
  have htn := sc_tpn hok2
  refine W.exit ?_
  refine W.seq ?_
  refine W.region ?_
  refine WL.c rfl (o_ldA TI34 rfl h1 (show Cells _ b1 0 [tv, rv] from Cells.of hC1 0 _ (by simp)) rfl ?_)
  refine WL.c rfl (o_call Try.call40 (lc rfl ln) ((trdepths_spec L tv rv V _ (hT.ext hx) (sl_one1 hR0) hok2 hlL).mono ?_))
  rintro v27 w27 ⟨hdr0, hx27⟩
  have hdr := own_mono hdr0 hx.size
  replace hx := hx.tr hx27
  replace hC1 := hx27.blk hC1 (fun h => h)
  replace hC2 := hx27.blk hC2 (fun h => h)
  refine WL.c rfl (o_ash (by first | exact (show _ = Value.slice _ _ _ from rfl) | exact rfl) ?_)
  refine WL.nil ?_
  refine W.seq ?_
  refine W.seq ?_
  refine W.region ?_
  refine WL.c rfl (o_ash (show _ = Value.int _ _ from rfl) ?_)
  refine WL.nil ?_
  refine W.block ?_
  refine W.loop (fun e w => ∃ i : Nat, i ≤ L.length ∧ e 1 = .pointer (some ⟨b1, 0, none⟩) ∧ e 2 = .pointer (some ⟨c2, 0, none⟩) ∧ e 4 = v27 ∧ e 5 = .int .i64 (i : Int) ∧ (∀ j, j < i → ¬ 64 < dpI L j) ∧ w.ownsRow w0.heap.size 3 1 v27 L.length (dps L.length (dpI L)) ∧ w.heap[b1]? = some (.cells #[tv, rv] 34 (0, 0)) ∧ w.heap[c2]? = some (.cells #[.int .i64 0, .int .i64 0] 28 (0, 0)) ∧ Ext w0 w) (fun e w => L.length - (intOf (e 5)).toNat) ?_ ?_
  · exact ⟨0, Nat.zero_le _, h1, h2, rfl, rfl, fun j hj => by omega, by rw [← hb1] at hdr ⊢; exact hdr, hC1, hC2, hx⟩
  rintro e w ⟨i, hi, h1, h2, h4, h5, hd, hdr, hC1, hC2, hx⟩
  have hm5 := h5
  refine W.seq ?_
  refine W.seq ?_
  refine W.region ?_
  refine WL.c rfl (o_mvh h5 ?_)
  refine WL.c rfl (o_mvh h4 ?_)
  refine WL.c rfl (o_lenR TI79 rfl (Sl.own hdr) ?_)
  refine WL.c rfl (o_lt rfl rfl ?_)
  refine WL.nil ?_
  refine W.cond rfl (fun c31 => ?_) (fun c31 => ?_)
  · try simp only [cs8] at c31
    have hi1 : i < L.length := by omega
    obtain ⟨gb, go, gc, hdv, hgc⟩ := Sl.at1 (Sl.own hdr) hi1 (u := iv (dpI L i)) (dps_at hi1)
    rw [hdv] at h4
    refine W.skip ?_
    refine W.seq ?_
    refine W.block ?_
    refine W.seq ?_
    refine W.region ?_
    refine WL.c rfl (o_mvh h4 ?_)
    refine WL.c rfl (o_mvh h5 ?_)
    refine WL.c rfl (o_ixB (i := i) TI79 TI3 (show _ = Value.slice (some ⟨gb, go, none⟩) L.length gc from rfl) (show _ = Value.int .i64 (i : Int) from rfl) (by omega) ?_)
    refine WL.c rfl (o_ld TI3 rfl rfl (show World.cell? _ _ = some (iv (dpI L i)) from hgc) ?_)
    refine WL.c rfl (o_gt (a := ((dpI L i : Nat) : Int)) (b := 64) rfl rfl ?_)
    refine WL.nil ?_
    refine W.cond rfl (fun c38 => ?_) (fun c38 => ?_)
    · try simp only [cs8] at c38
      have hgt : 64 < dpI L i := by omega
      refine W.seq ?_
      skip
      skip
      refine W.region ?_
      refine WL.c rfl (o_mvh h5 ?_)
      refine WL.c rfl (o_bldC (cs := [(.int .i64 83), _]) TI28 (Sizes.cons TI26 (Sizes.cons TI3 Sizes.nil)) rfl (lcp (show _ = Value.int _ _ from rfl) (lcp (show _ = Value.int _ _ from rfl) lnp)) rfl rfl ?_)
      refine WL.u (o_stA TI28 h2 (show _ = Value.agg #[.int .i64 83, .int .i64 (i : Int)] from rfl) rfl rfl hC2 rfl ?_)
      intro wz hCz hoz hsz
      replace hx := hx.trans' hoz (fun _ h => h) (fun b hb he => by omega)
      refine WL.nil ?_
      refine W.ret ?_
      refine retC rfl TI28 rfl h2 (show Cells _ c2 0 [.int .i64 83, .int .i64 (i : Int)] from Cells.of hCz 0 _ (by simp)) rfl ?_
      exact ⟨by rw [sc_dph htn hi1 hgt hd], hx⟩
    try simp only [cs8] at c38
    have hgt : ¬ 64 < dpI L i := by omega
    refine W.skip ?_
    refine W.region ?_
    refine WL.c rfl (o_mvh h5 ?_)
    refine WL.c rfl (o_addi rfl rfl (by omega) ?_)
    refine WL.c rfl (o_ash (show _ = Value.int _ _ from rfl) ?_)
    refine WL.nil ?_
    refine ⟨⟨i + 1, by omega, h1, h2, h4.trans hdv.symm, rfl, fun j hj => ?_, hdr, hC1, hC2, hx⟩, ?_⟩
    · rcases Nat.lt_or_ge j i with h | h
      · exact hd j h
      rw [show j = i by omega]; exact hgt
    show L.length - ((i : Int) + 1).toNat < _
    rw [hm5]; simp [intOf]; omega
  try simp only [cs8] at c31
  have hi1 : i = L.length := by omega
  rw [hi1] at hd
  have hdn := sc_dpn hd
  refine W.exit ?_
  refine W.seq ?_
  refine W.seq ?_
  refine W.region ?_
  refine WL.c rfl (o_ash (show _ = Value.int _ _ from rfl) ?_)
  refine WL.nil ?_
  refine W.block ?_
  refine W.loop (fun e w => ∃ q : Nat, q ≤ R.length ∧ e 1 = .pointer (some ⟨b1, 0, none⟩) ∧ e 2 = .pointer (some ⟨c2, 0, none⟩) ∧ e 6 = .int .i64 (q : Int) ∧ (∀ j, j < q → roOk L.length R j) ∧ w.heap[b1]? = some (.cells #[tv, rv] 34 (0, 0)) ∧ w.heap[c2]? = some (.cells #[.int .i64 0, .int .i64 0] 28 (0, 0)) ∧ Ext w0 w) (fun e w => R.length - (intOf (e 6)).toNat) ?_ ?_
  · exact ⟨0, Nat.zero_le _, h1, h2, rfl, fun j hj => by omega, hC1, hC2, hx⟩
  rintro e w ⟨q, hq, h1, h2, h6, hno, hC1, hC2, hx⟩
  have hm6 := h6
  refine W.seq ?_
  refine W.seq ?_
  refine W.region ?_
  refine WL.c rfl (o_mvh h6 ?_)
  refine WL.c rfl (o_fa 1 TI34 rfl TI32 rfl h1 ?_)
  refine WL.c rfl (o_ld TI32 rfl rfl (cell_of hC1 rfl) ?_)
  refine WL.c rfl (o_lenR TI32 rfl (hR0.ext hx) ?_)
  refine WL.c rfl (o_lt rfl rfl ?_)
  refine WL.nil ?_
  refine W.cond rfl (fun c45 => ?_) (fun c45 => ?_)
  · try simp only [cs8] at c45
    have hq1 : q < R.length := by omega
    obtain ⟨ub, uo, uc, hrv, huc⟩ := Sl.roq (hR0.ext hx) hq1
    have hnl : R[q].name.length ≤ 9223372036854775807 := hlR.nm _ (List.getElem_mem hq1)
    obtain ⟨r, hr⟩ : ∃ r, r = R[q] := ⟨_, rfl⟩
    have hrg : R.getD q ro0 = r := by rw [rgetD_at8 hq1, hr]
    rw [← hr] at huc hnl
    refine W.skip ?_
    refine W.seq ?_
    refine W.block ?_
    refine W.seq ?_
    obtain ⟨wq, hwq⟩ : ∃ x, x = w := ⟨_, rfl⟩
    have hC1s := hC1
    rw [hrv] at hC1s
    refine W.cut (fun e1 w1 => e1 1 = .pointer (some ⟨b1, 0, none⟩) ∧ e1 2 = .pointer (some ⟨c2, 0, none⟩) ∧ e1 6 = .int .i64 (q : Int) ∧ e1 7 = .bool (decide (roG L.length R q)) ∧ w1.heap[b1]? = some (.cells #[tv, rv] 34 (0, 0)) ∧ w1.heap[c2]? = some (.cells #[.int .i64 0, .int .i64 0] 28 (0, 0)) ∧ Ext w0 w1) ?_ ?_
    · -- region 15
      refine W.quiet rfl (by kernel_rfl) ?_
      refine WQ.c rfl ((QO.o rfl fun _ => o_mvh h6 ⟨rfl, rfl⟩)) ?_
      refine WQ.c rfl ((QO.o rfl fun _ => o_lt rfl rfl ⟨rfl, rfl⟩)) ?_
      refine WQ.c rfl ((QO.o rfl fun _ => o_mvh (show _ = Value.bool _ from rfl) ⟨rfl, rfl⟩)) ?_
      refine WQ.sp 2 rfl (fun g50 => ?_) (fun g50 => ?_)
      · skip
        refine WQ.g rfl (g50) rfl ((QO.o rfl fun _ => o_fa 1 TI34 rfl TI32 rfl h1 ⟨rfl, rfl⟩)) ?_
        refine WQ.g rfl (g50) rfl ((QO.o rfl fun _ => o_ld TI32 rfl rfl (cell_of hC1s rfl) ⟨rfl, rfl⟩)) ?_
        refine WQ.g rfl (g50) rfl ((QO.o rfl fun _ => o_mvh h6 ⟨rfl, rfl⟩)) ?_
        refine WQ.g rfl (g50) rfl ((QO.o rfl fun _ => o_ixB (i := q) TI32 TI47 (show _ = Value.slice (some ⟨ub, uo, none⟩) R.length uc from rfl) (show _ = Value.int .i64 (q : Int) from rfl) (by omega) ⟨rfl, rfl⟩)) ?_
        refine WQ.g rfl (g50) rfl ((QO.o rfl fun _ => o_fa 0 TI47 rfl TI9 rfl rfl ⟨rfl, rfl⟩)) ?_
        refine WQ.g rfl (g50) rfl ((QO.o rfl fun _ => o_ld TI9 rfl rfl (huc 0 _ rfl) ⟨rfl, rfl⟩)) ?_
        refine WQ.g rfl (g50) rfl (QO.call Try.call41 (lc (show _ = Value.string _ from rfl) ln) (fun _ => Ca.same (rname_spec r.name _ hnl))) ?_
        refine WQ.c rfl ((QO.r fun _ => r_pickA rfl rfl)) ?_
        refine WQ.c rfl ((QO.o rfl fun _ => o_mvh (show _ = Value.bool _ from rfl) ⟨rfl, rfl⟩)) ?_
        refine WQ.sp 11 rfl (fun g59 => ?_) (fun g59 => ?_)
        · skip
          refine WQ.g rfl (g59) rfl ((QO.o rfl fun _ => o_fa 1 TI34 rfl TI32 rfl h1 ⟨rfl, rfl⟩)) ?_
          refine WQ.g rfl (g59) rfl ((QO.o rfl fun _ => o_ld TI32 rfl rfl (cell_of hC1s rfl) ⟨rfl, rfl⟩)) ?_
          refine WQ.g rfl (g59) rfl ((QO.o rfl fun _ => o_mvh h6 ⟨rfl, rfl⟩)) ?_
          refine WQ.g rfl (g59) rfl ((QO.o rfl fun _ => o_ixB (i := q) TI32 TI47 (show _ = Value.slice (some ⟨ub, uo, none⟩) R.length uc from rfl) (show _ = Value.int .i64 (q : Int) from rfl) (by omega) ⟨rfl, rfl⟩)) ?_
          refine WQ.g rfl (g59) rfl ((QO.o rfl fun _ => o_fa 1 TI47 rfl TI3 rfl rfl ⟨rfl, rfl⟩)) ?_
          refine WQ.g rfl (g59) rfl ((QO.o rfl fun _ => o_ld TI3 rfl rfl (huc 1 _ rfl) ⟨rfl, rfl⟩)) ?_
          refine WQ.g rfl (g59) rfl ((QO.o rfl fun _ => o_fa 0 TI34 rfl TI31 rfl h1 ⟨rfl, rfl⟩)) ?_
          refine WQ.g rfl (g59) rfl ((QO.o rfl fun _ => o_ld TI31 rfl rfl (cell_of hC1s rfl) ⟨rfl, rfl⟩)) ?_
          refine WQ.g rfl (g59) rfl ((QO.r fun _ => r_lenR TI31 rfl (hT.ext hx).row)) ?_
          refine WQ.g rfl (g59) rfl ((QO.o rfl fun _ => o_subi rfl rfl (by omega) ⟨rfl, rfl⟩)) ?_
          refine WQ.g rfl (g59) rfl (QO.call Try.call42 (lc (show _ = Value.int _ _ from rfl) (lc (show _ = Value.int _ _ from rfl) (lc (show _ = Value.int _ _ from rfl) ln))) (fun _ => Ca.same (tin_spec r.ty 0 ((L.length : Int) - 1) _))) ?_
          refine WQ.c rfl ((QO.r fun _ => r_pickA rfl rfl)) ?_
          refine WQ.c rfl ((QO.o rfl fun _ => o_ash (show _ = Value.bool _ from rfl) ⟨rfl, rfl⟩)) ?_
          refine WQ.nil ?_
          intro nq
          exact ⟨h1, h2, h6, congrArg Value.bool (by rw [Bool.eq_iff_iff, decide_eq_true_iff]; unfold roG; rw [hrg]; clear hR0 hS hT hdr hx hC1 hC2 hC1s huc hno hdn htn hok2 hd; constructor <;> intro h <;> simp_all <;> omega), hC1, hC2, hx.tr (Only.drewN _ _)⟩
        skip
        refine WQ.s rfl (g59) rfl ?_
        refine WQ.s rfl (g59) rfl ?_
        refine WQ.s rfl (g59) rfl ?_
        refine WQ.s rfl (g59) rfl ?_
        refine WQ.s rfl (g59) rfl ?_
        refine WQ.s rfl (g59) rfl ?_
        refine WQ.s rfl (g59) rfl ?_
        refine WQ.s rfl (g59) rfl ?_
        refine WQ.s rfl (g59) rfl ?_
        refine WQ.s rfl (g59) rfl ?_
        refine WQ.s rfl (g59) rfl ?_
        refine WQ.c rfl ((QO.r fun _ => r_pickF rfl (g59))) ?_
        refine WQ.c rfl ((QO.o rfl fun _ => o_ash (show _ = Value.bool _ from rfl) ⟨rfl, rfl⟩)) ?_
        refine WQ.nil ?_
        intro nq
        exact ⟨h1, h2, h6, congrArg Value.bool (by rw [Bool.eq_iff_iff, decide_eq_true_iff]; unfold roG; rw [hrg]; clear hR0 hS hT hdr hx hC1 hC2 hC1s huc hno hdn htn hok2 hd; constructor <;> intro h <;> simp_all <;> omega), hC1, hC2, hx.tr (Only.drewN _ _)⟩
      skip
      refine WQ.s rfl (g50) rfl ?_
      refine WQ.s rfl (g50) rfl ?_
      refine WQ.s rfl (g50) rfl ?_
      refine WQ.s rfl (g50) rfl ?_
      refine WQ.s rfl (g50) rfl ?_
      refine WQ.s rfl (g50) rfl ?_
      refine WQ.s rfl (g50) rfl ?_
      refine WQ.c rfl ((QO.r fun _ => r_pickF rfl (g50))) ?_
      refine WQ.c rfl ((QO.o rfl fun _ => o_mvh (show _ = Value.bool _ from rfl) ⟨rfl, rfl⟩)) ?_
      refine WQ.s rfl (rfl) rfl ?_
      refine WQ.s rfl (rfl) rfl ?_
      refine WQ.s rfl (rfl) rfl ?_
      refine WQ.s rfl (rfl) rfl ?_
      refine WQ.s rfl (rfl) rfl ?_
      refine WQ.s rfl (rfl) rfl ?_
      refine WQ.s rfl (rfl) rfl ?_
      refine WQ.s rfl (rfl) rfl ?_
      refine WQ.s rfl (rfl) rfl ?_
      refine WQ.s rfl (rfl) rfl ?_
      refine WQ.s rfl (rfl) rfl ?_
      refine WQ.c rfl ((QO.r fun _ => r_pickF rfl (rfl))) ?_
      refine WQ.c rfl ((QO.o rfl fun _ => o_ash (show _ = Value.bool _ from rfl) ⟨rfl, rfl⟩)) ?_
      refine WQ.nil ?_
      intro nq
      exact ⟨h1, h2, h6, congrArg Value.bool (by rw [Bool.eq_iff_iff, decide_eq_true_iff]; unfold roG; rw [hrg]; clear hR0 hS hT hdr hx hC1 hC2 hC1s huc hno hdn htn hok2 hd; constructor <;> intro h <;> simp_all <;> omega), hC1, hC2, hx.tr (Only.drewN _ _)⟩
    rintro e w ⟨h1, h2, h6, h7, hC1, hC2, hx⟩
    refine W.seq ?_
    refine W.seq ?_
    refine W.region ?_
    refine WL.c rfl (o_ash (show _ = Value.int _ _ from rfl) ?_)
    refine WL.nil ?_
    refine W.block ?_
    refine W.loop (fun e w => ∃ j : Nat, j ≤ q ∧ e 1 = .pointer (some ⟨b1, 0, none⟩) ∧ e 2 = .pointer (some ⟨c2, 0, none⟩) ∧ e 6 = .int .i64 (q : Int) ∧ (∃ ok : Bool, e 7 = .bool ok ∧ (ok = true ↔ roG L.length R q ∧ ∀ m, m < j → (R.getD m ro0).name ≠ (R.getD q ro0).name)) ∧ e 8 = .int .i64 (j : Int) ∧ w.heap[b1]? = some (.cells #[tv, rv] 34 (0, 0)) ∧ w.heap[c2]? = some (.cells #[.int .i64 0, .int .i64 0] 28 (0, 0)) ∧ Ext w0 w) (fun e w => q - (intOf (e 8)).toNat) ?_ ?_
    · exact ⟨0, Nat.zero_le _, h1, h2, h6, ⟨_, h7, by rw [decide_eq_true_iff]; exact ⟨fun h => ⟨h, fun m hm => by omega⟩, fun h => h.1⟩⟩, rfl, hC1, hC2, hx⟩
    rintro e w ⟨j, hj, h1, h2, h6, ⟨ok, h7, hok7⟩, h8, hC1, hC2, hx⟩
    have hm8 := h8
    have hC1s := hC1
    rw [hrv] at hC1s
    refine W.seq ?_
    refine W.seq ?_
    refine W.region ?_
    refine WL.c rfl (o_mvh h8 ?_)
    refine WL.c rfl (o_mvh h6 ?_)
    refine WL.c rfl (o_lt rfl rfl ?_)
    refine WL.nil ?_
    refine W.cond rfl (fun c74 => ?_) (fun c74 => ?_)
    · try simp only [cs8] at c74
      have hj1 : j < q := by omega
      have hj2 : j < R.length := by omega
      have huj := Sl.row (show Sl w 2 (.slice (some ⟨ub, uo, none⟩) R.length uc) R.length (ros R) from hrv ▸ hR0.ext hx) hj2
      have huq := Sl.row (show Sl w 2 (.slice (some ⟨ub, uo, none⟩) R.length uc) R.length (ros R) from hrv ▸ hR0.ext hx) hq1
      rw [← hr] at huq
      obtain ⟨rj, hrj⟩ : ∃ r, r = R[j] := ⟨_, rfl⟩
      have hrgj : R.getD j ro0 = rj := by rw [rgetD_at8 hj2, hrj]
      rw [← hrj] at huj
      refine W.skip ?_
      refine W.seq ?_
      refine W.block ?_
      refine W.cut (fun e1 w1 => e1 1 = .pointer (some ⟨b1, 0, none⟩) ∧ e1 2 = .pointer (some ⟨c2, 0, none⟩) ∧ e1 6 = .int .i64 (q : Int) ∧ (∃ ok : Bool, e1 7 = .bool ok ∧ (ok = true ↔ roG L.length R q ∧ ∀ m, m < j + 1 → (R.getD m ro0).name ≠ (R.getD q ro0).name)) ∧ e1 8 = .int .i64 (j : Int) ∧ w1.heap[b1]? = some (.cells #[tv, rv] 34 (0, 0)) ∧ w1.heap[c2]? = some (.cells #[.int .i64 0, .int .i64 0] 28 (0, 0)) ∧ Ext w0 w1) ?_ ?_
      · -- region 19
        refine W.quiet rfl (by kernel_rfl) ?_
        refine WQ.c rfl ((QO.o rfl fun _ => o_mvh h7 ⟨rfl, rfl⟩)) ?_
        refine WQ.c rfl ((QO.o rfl fun _ => o_mvh (show _ = Value.bool _ from rfl) ⟨rfl, rfl⟩)) ?_
        refine WQ.sp 1 rfl (fun g78 => ?_) (fun g78 => ?_)
        · skip
          refine WQ.g rfl (g78) rfl ((QO.o rfl fun _ => o_fa 1 TI34 rfl TI32 rfl h1 ⟨rfl, rfl⟩)) ?_
          refine WQ.g rfl (g78) rfl ((QO.o rfl fun _ => o_ld TI32 rfl rfl (cell_of hC1s rfl) ⟨rfl, rfl⟩)) ?_
          refine WQ.g rfl (g78) rfl ((QO.o rfl fun _ => o_mvh h8 ⟨rfl, rfl⟩)) ?_
          refine WQ.g rfl (g78) rfl ((QO.o rfl fun _ => o_ixB (i := j) TI32 TI47 (show _ = Value.slice (some ⟨ub, uo, none⟩) R.length uc from rfl) (show _ = Value.int .i64 (j : Int) from rfl) (by omega) ⟨rfl, rfl⟩)) ?_
          refine WQ.g rfl (g78) rfl ((QO.o rfl fun _ => o_fa 0 TI47 rfl TI9 rfl rfl ⟨rfl, rfl⟩)) ?_
          refine WQ.g rfl (g78) rfl ((QO.o rfl fun _ => o_ld TI9 rfl rfl (huj 0 _ rfl) ⟨rfl, rfl⟩)) ?_
          refine WQ.g rfl (g78) rfl ((QO.o rfl fun _ => o_fa 1 TI34 rfl TI32 rfl h1 ⟨rfl, rfl⟩)) ?_
          refine WQ.g rfl (g78) rfl ((QO.o rfl fun _ => o_ld TI32 rfl rfl (cell_of hC1s rfl) ⟨rfl, rfl⟩)) ?_
          refine WQ.g rfl (g78) rfl ((QO.o rfl fun _ => o_mvh h6 ⟨rfl, rfl⟩)) ?_
          refine WQ.g rfl (g78) rfl ((QO.o rfl fun _ => o_ixB (i := q) TI32 TI47 (show _ = Value.slice (some ⟨ub, uo, none⟩) R.length uc from rfl) (show _ = Value.int .i64 (q : Int) from rfl) (by omega) ⟨rfl, rfl⟩)) ?_
          refine WQ.g rfl (g78) rfl ((QO.o rfl fun _ => o_fa 0 TI47 rfl TI9 rfl rfl ⟨rfl, rfl⟩)) ?_
          refine WQ.g rfl (g78) rfl ((QO.o rfl fun _ => o_ld TI9 rfl rfl (huq 0 _ rfl) ⟨rfl, rfl⟩)) ?_
          refine WQ.g rfl (g78) rfl ((QO.o rfl fun _ => o_neT rfl rfl ⟨rfl, rfl⟩)) ?_
          refine WQ.c rfl ((QO.r fun _ => r_pickA rfl rfl)) ?_
          refine WQ.c rfl ((QO.o rfl fun _ => o_ash (show _ = Value.bool _ from rfl) ⟨rfl, rfl⟩)) ?_
          refine WQ.nil ?_
          intro nq
          exact ⟨h1, h2, h6, ⟨_, rfl, by rw [← ok_step (hok7) hrgj hrg]; simp_all⟩, h8, hC1, hC2, hx.tr (Only.drewN _ _)⟩
        skip
        refine WQ.s rfl (g78) rfl ?_
        refine WQ.s rfl (g78) rfl ?_
        refine WQ.s rfl (g78) rfl ?_
        refine WQ.s rfl (g78) rfl ?_
        refine WQ.s rfl (g78) rfl ?_
        refine WQ.s rfl (g78) rfl ?_
        refine WQ.s rfl (g78) rfl ?_
        refine WQ.s rfl (g78) rfl ?_
        refine WQ.s rfl (g78) rfl ?_
        refine WQ.s rfl (g78) rfl ?_
        refine WQ.s rfl (g78) rfl ?_
        refine WQ.s rfl (g78) rfl ?_
        refine WQ.s rfl (g78) rfl ?_
        refine WQ.c rfl ((QO.r fun _ => r_pickF rfl (g78))) ?_
        refine WQ.c rfl ((QO.o rfl fun _ => o_ash (show _ = Value.bool _ from rfl) ⟨rfl, rfl⟩)) ?_
        refine WQ.nil ?_
        intro nq
        exact ⟨h1, h2, h6, ⟨_, rfl, by rw [← ok_step (hok7) hrgj hrg]; simp_all⟩, h8, hC1, hC2, hx.tr (Only.drewN _ _)⟩
      rintro e w ⟨h1, h2, h6, h7', h8, hC1, hC2, hx⟩
      refine W.region ?_
      refine WL.c rfl (o_mvh h8 ?_)
      refine WL.c rfl (o_addi rfl rfl (by omega) ?_)
      refine WL.c rfl (o_ash (show _ = Value.int _ _ from rfl) ?_)
      refine WL.nil ?_
      refine ⟨⟨j + 1, by omega, h1, h2, h6, h7', rfl, hC1, hC2, hx⟩, ?_⟩
      show q - ((j : Int) + 1).toNat < _
      rw [hm8]; simp [intOf]; omega
    try simp only [cs8] at c74
    have hj1 : j = q := by omega
    rw [hj1] at hok7
    refine W.exit ?_
    refine W.seq ?_
    refine W.region ?_
    refine WL.c rfl (o_mvh h7 ?_)
    refine WL.c rfl (o_not' rfl ?_)
    refine WL.nil ?_
    refine W.cond rfl (fun c94 => ?_) (fun c94 => ?_)
    · try simp only [cs8] at c94
      have hbad : ¬ roOk L.length R q := fun h => by rw [hok7.2 (ro_split.1 h)] at c94; cases c94
      refine W.seq ?_
      skip
      skip
      refine W.region ?_
      refine WL.c rfl (o_fa 0 TI34 rfl TI31 rfl h1 ?_)
      refine WL.c rfl (o_ld TI31 rfl rfl (cell_of hC1 rfl) ?_)
      refine WL.c rfl (o_lenR TI31 rfl (hT.ext hx).row ?_)
      refine WL.c rfl (o_mvh h6 ?_)
      refine WL.c rfl (o_addi rfl rfl (by omega) ?_)
      refine WL.c rfl (o_bldC (cs := [(.int .i64 92), _]) TI28 (Sizes.cons TI26 (Sizes.cons TI3 Sizes.nil)) rfl (lcp (show _ = Value.int _ _ from rfl) (lcp (show _ = Value.int _ _ from rfl) lnp)) rfl rfl ?_)
      refine WL.u (o_stA TI28 h2 (show _ = Value.agg #[.int .i64 92, .int .i64 ((L.length : Int) + (q : Int))] from rfl) rfl rfl hC2 rfl ?_)
      intro wz hCz hoz hsz
      replace hx := hx.trans' hoz (fun _ h => h) (fun b hb he => by omega)
      refine WL.nil ?_
      refine W.ret ?_
      refine retC rfl TI28 rfl h2 (show Cells _ c2 0 [.int .i64 92, .int .i64 ((L.length : Int) + (q : Int))] from Cells.of hCz 0 _ (by simp)) rfl ?_
      exact ⟨by rw [sc_ro htn hdn hq1 hbad hno], hx⟩
    try simp only [cs8] at c94
    have hrok : roOk L.length R q := ro_split.2 (hok7.1 (by simpa using c94))
    refine W.skip ?_
    refine W.region ?_
    refine WL.c rfl (o_mvh h6 ?_)
    refine WL.c rfl (o_addi rfl rfl (by omega) ?_)
    refine WL.c rfl (o_ash (show _ = Value.int _ _ from rfl) ?_)
    refine WL.nil ?_
    refine ⟨⟨q + 1, by omega, h1, h2, rfl, fun j hj => ?_, hC1, hC2, hx⟩, ?_⟩
    · rcases Nat.lt_or_ge j q with h | h
      · exact hno j h
      rw [show j = q by omega]; exact hrok
    show R.length - ((q : Int) + 1).toNat < _
    rw [hm6]; simp [intOf]; omega
  try simp only [cs8] at c45
  have hq1 : q = R.length := by omega
  rw [hq1] at hno
  refine W.exit ?_
  refine W.seq ?_
  skip
  skip
  refine W.region ?_
  refine WL.c rfl (o_bldC (cs := [(.int .i64 0), (.int .i64 0)]) TI28 (Sizes.cons TI26 (Sizes.cons TI3 Sizes.nil)) rfl lnp rfl rfl ?_)
  refine WL.u (o_stA TI28 h2 (show _ = Value.agg #[.int .i64 0, .int .i64 0] from rfl) rfl rfl hC2 rfl ?_)
  intro wz hCz hoz hsz
  replace hx := hx.trans' hoz (fun _ h => h) (fun b hb he => by omega)
  refine WL.nil ?_
  refine W.ret ?_
  refine retC rfl TI28 rfl h2 (show Cells _ c2 0 [.int .i64 0, .int .i64 0] from Cells.of hCz 0 _ (by simp)) rfl ?_
  exact ⟨by rw [sc_ok htn hdn hno], hx⟩
end Go.Proofs.Ytpbflfgigfdohaa

set_option linter.unusedSimpArgs false
set_option linter.unusedVariables false
set_option maxRecDepth 100000
namespace Go.Proofs.Ytpbflfgigfdohaa
open Go Go.Vc Go.RowKit Go.Proofs

def DA9 : List Df := [⟨[97], 0, [⟨5, 3, [], [], 0, 1, 0⟩, ⟨1, 2, [], [], 0, 0, 0⟩]⟩]
def TA9 : Nat → Tr := fun _ => .node ⟨5, 3, [], [], 0, 1, 0⟩ (.cons (.node ⟨1, 2, [], [], 0, 0, 0⟩ .nil) .nil)
theorem ckA9 : (chkS DA9).2.2 = 0 := by decide +kernel
theorem trdA9 : Trd DA9 TA9 := by
  refine ⟨by decide, fun i hi => ⟨by decide, by decide, by decide, by decide, ⟨by decide, by decide, by decide, by decide, trivial⟩, trivial⟩, by decide +kernel, fun i hi => ?_⟩
  obtain rfl : i = 0 := by simp [DA9] at hi; omega
  rfl
theorem usesA9 (i : Nat) : usesD DA9 i = [] := by
  match i with
  | 0 => decide +kernel
  | n + 1 => rfl
theorem acA9 : ∀ i, ¬ Relation.TransGen (Us (usesD DA9)) i i := rank_no (fun _ => 0) (fun i j hj => by rw [usesA9] at hj; cases hj)
theorem fAA9 : fA DA9 = none := by
  rw [fA_of ckA9 trdA9, show resF DA9 TA9 = none by decide +kernel, ring_none (fun j _ => acA9 j), show deepF DA9 TA9 = none by decide +kernel]
  rfl
theorem bnA9 : bndF DA9 = none := by decide +kernel
theorem bfA9 : bldF DA9 = none := bldF_none.2 ⟨ckA9, fAA9, bnA9⟩
theorem orA9 : ordN DA9 = [0] := by decide +kernel
theorem tdA9 : TD DA9 0 = TA9 0 := (trd_of ckA9).uniq trdA9 0 (by decide)
def LA9 : List Tp := [⟨1, 2, 0, []⟩, ⟨5, 3, 0, []⟩]
def RA9 : List Ro := [⟨[97], 1⟩]
theorem moA9 : mkO (whD DA9) (TD DA9) (ordN DA9) (fun _ => 0) [] = (upI (fun _ => 0) 0 1, LA9) := by
  rw [orA9, mkO, mkO, tdA9]
  simp [TA9, mkT, mkK, many7, LA9]
theorem scA9 : bldT DA9 = LA9 ∧ bldR DA9 = RA9 := by
  unfold bldT bldR
  rw [if_pos bfA9, if_pos bfA9]
  unfold schT schR
  rw [moA9]
  exact ⟨rfl, rfl⟩
theorem limA9 : DOk DA9 := ⟨by decide, fun d hd => by simp [DA9] at hd; subst hd; decide, fun d hd => by simp [DA9] at hd; subst hd; decide, fun d hd => by simp [DA9] at hd; subst hd; (intro x hx; simp at hx; rcases hx with rfl | rfl <;> decide)⟩
theorem build_A9 (dv : Value) (V : Nat → Value) (w0 : World) (hD : DefR w0 DA9 dv V) : Ca Try.prog 8 #[.agg #[dv]] w0 (fun v w' => ∃ tv rv U, v = .tuple #[.agg #[tv, rv], .agg #[.int .i64 0, .int .i64 0]] ∧ Schs w' w0.heap.size LA9 RA9 tv rv U ∧ Ext w0 w') := by
  refine (build_spec DA9 dv V w0 hD limA9 (fun d hd => by simp [DA9] at hd; subst hd; decide)).mono ?_
  rintro v w' ⟨tv, rv, U, rfl, h1, h2⟩
  rw [scA9.1, scA9.2] at h1
  exact ⟨tv, rv, U, by rw [(bldV_no bfA9).1, (bldV_no bfA9).2], h1, h2⟩
theorem okA9 : SOk LA9 RA9 := ⟨by decide, by simp [LA9], by decide, by simp [LA9], by simp [RA9]⟩
theorem find_A9 (tv rv : Value) (w0 : World) (hR : Sl w0 2 rv RA9.length (ros RA9)) (h1v : tv.oneCell' = true) : Ca Try.prog 10 #[.agg #[tv, rv], st [98]] w0 (fun v w' => v = .tuple #[.int .i64 0, .int .i64 93] ∧ Ext w0 w') :=
  (tfind_spec RA9 tv rv [98] w0 hR (by decide) h1v).mono fun v w' h => ⟨h.1, h.2⟩
theorem same_A9 (L1 : List Tp) (R1 : List Ro) (tv1 rv1 : Value) (V1 : Nat → Value) (L2 : List Tp) (R2 : List Ro) (tv2 rv2 : Value) (V2 : Nat → Value) (w0 : World) (hA : SchR w0 L1 R1 tv1 rv1 V1) (hB : SchR w0 L2 R2 tv2 rv2 V2) (hk1 : SOk L1 R1) (hk2 : SOk L2 R2) (he : L1 = L2 ∧ R1 = R2) : Ca Try.prog 13 #[.agg #[tv1, rv1], .agg #[tv2, rv2]] w0 (fun v w' => v = .bool true ∧ Ext w0 w') :=
  (tsame_spec L1 R1 tv1 rv1 V1 L2 R2 tv2 rv2 V2 w0 hA hB hk1 hk2).mono fun v w' h => ⟨by rw [h.1, decide_eq_true he], h.2⟩
theorem scv_A9 : scV [⟨0, 0, 0, []⟩] [] = (92, 0) := sc_tp (L := [⟨0, 0, 0, []⟩]) (i := 0) (by decide) (by simp [tpOk, numOk]) (fun j hj h => by omega)
theorem check_A9 (tv : Value) (w0 : World) (hT : TypR w0 [⟨0, 0, 0, []⟩] tv (fun _ => .slice none 0 0)) : Ca Try.prog 9 #[.agg #[tv, .slice none 0 0]] w0 (fun v w' => v = .agg #[.int .i64 92, .int .i64 0] ∧ Ext w0 w') := by
  refine (tcheck_spec [⟨0, 0, 0, []⟩] [] tv (.slice none 0 0) (fun _ => .slice none 0 0) w0 ⟨hT, Sl.nil _ _⟩ ⟨by decide, fun t ht => by simp at ht; subst ht; exact ⟨by decide, by simp, by simp⟩⟩ ⟨by decide, by simp⟩).mono ?_
  rintro v w' ⟨rfl, hx⟩
  rw [scv_A9]
  exact ⟨rfl, hx⟩

set_option maxHeartbeats 4000000 in
theorem awake9_spec (w0 : World) : Ca Try.prog 6 #[] w0 (fun v w' => v = .bool true ∧ Ext w0 w') := by
  have hx : Ext w0 w0 := Only.refl _ _
  refine Ca.of Try.func6 Try.ntmps6 rfl rfl ?_
  refine W.seq ?_
  refine W.region ?_
  refine WL.c rfl (o_ash (show _ = Value.bool _ from rfl) ?_)
  refine WL.nil ?_
  refine W.seq ?_
  refine W.region ?_
  refine WL.c rfl (o_bldC (cs := [(.int .i64 5), (.int .i64 3), (.string ⟨#[]⟩), (.string ⟨#[]⟩), (.int .i64 0), (.int .i64 1), (.int .i64 0)]) TI41 (Sizes.cons TI3 (Sizes.cons TI3 (Sizes.cons TI9 (Sizes.cons TI9 (Sizes.cons TI3 (Sizes.cons TI3 (Sizes.cons TI3 Sizes.nil))))))) rfl (lcp (show _ = Value.int _ _ from rfl) (lcp (show _ = Value.int _ _ from rfl) (lcp (show _ = Value.int _ _ from rfl) lnp))) rfl rfl ?_)
  refine WL.c rfl (o_bldC (cs := [(.int .i64 1), (.int .i64 2), (.string ⟨#[]⟩), (.string ⟨#[]⟩), (.int .i64 0), (.int .i64 0), (.int .i64 0)]) TI41 (Sizes.cons TI3 (Sizes.cons TI3 (Sizes.cons TI9 (Sizes.cons TI9 (Sizes.cons TI3 (Sizes.cons TI3 (Sizes.cons TI3 Sizes.nil))))))) rfl (lcp (show _ = Value.int _ _ from rfl) (lcp (show _ = Value.int _ _ from rfl) lnp)) rfl rfl ?_)
  refine WL.c rfl (o_bsA (xs := [(.tmp 6), (.tmp 7)]) (cs := exs [⟨5, 3, [], [], 0, 1, 0⟩, ⟨1, 2, [], [], 0, 0, 0⟩]) TI37 TI41 rfl (lc (show _ = Value.agg (exV ⟨5, 3, [], [], 0, 1, 0⟩).toArray from rfl) (lc (show _ = Value.agg (exV ⟨1, 2, [], [], 0, 0, 0⟩).toArray from rfl) ln)) rfl rfl (by decide) (by decide) rfl ?_)
  have hT8 : Sl (w0.alloc (.cells (exs [⟨5, 3, [], [], 0, 1, 0⟩, ⟨1, 2, [], [], 0, 0, 0⟩]).toArray 41)) 7 (.slice (some ⟨w0.heap.size, 0, none⟩) 2 2) 2 (exs [⟨5, 3, [], [], 0, 1, 0⟩, ⟨1, 2, [], [], 0, 0, 0⟩]) := Sl.ofRow rfl
  have hxr : Ext w0 (w0.alloc (.cells (exs [⟨5, 3, [], [], 0, 1, 0⟩, ⟨1, 2, [], [], 0, 0, 0⟩]).toArray 41)) := Only.alloc w0 _
  obtain ⟨g8, hg8⟩ : ∃ g, g = w0.heap.size := ⟨_, rfl⟩
  rw [← hg8] at hT8 ⊢
  generalize w0.alloc (.cells (exs [⟨5, 3, [], [], 0, 1, 0⟩, ⟨1, 2, [], [], 0, 0, 0⟩]).toArray 41) = w8 at hT8 hxr ⊢
  replace hx := hx.tr hxr
  clear hxr
  refine WL.c rfl (o_bldC (cs := [(st [97]), (.int .i64 0), _]) TI39 (Sizes.cons TI9 (Sizes.cons TI3 (Sizes.cons TI37 Sizes.nil))) rfl (lcp (show _ = Value.string _ from rfl) (lcp (show _ = Value.slice (some ⟨g8, 0, none⟩) 2 2 from rfl) lnp)) rfl rfl ?_)
  refine WL.c rfl (o_bs1 TI23 TI39 (show _ = (Value.agg #[st [97], .int .i64 0, .slice (some ⟨g8, 0, none⟩) 2 2]) from rfl) (by decide) (by decide) rfl ?_)
  have hT10 : Sl (w8.alloc (.cells (Value.agg #[st [97], .int .i64 0, .slice (some ⟨g8, 0, none⟩) 2 2]).cells 39)) 3 (.slice (some ⟨w8.heap.size, 0, none⟩) 1 1) 1 (drows DA9 (fun _ => .slice (some ⟨g8, 0, none⟩) 2 2)) := Sl.one rfl
  have hxr : Ext w8 (w8.alloc (.cells (Value.agg #[st [97], .int .i64 0, .slice (some ⟨g8, 0, none⟩) 2 2]).cells 39)) := Only.alloc w8 _
  obtain ⟨g10, hg10⟩ : ∃ g, g = w8.heap.size := ⟨_, rfl⟩
  rw [← hg10] at hT10 ⊢
  generalize w8.alloc (.cells (Value.agg #[st [97], .int .i64 0, .slice (some ⟨g8, 0, none⟩) 2 2]).cells 39) = w10 at hT10 hxr ⊢
  replace hx := hx.tr hxr
  replace hT8 := hT8.ext hxr
  clear hxr
  have hD : DefR w10 DA9 (.slice (some ⟨g10, 0, none⟩) 1 1) (fun _ => .slice (some ⟨g8, 0, none⟩) 2 2) := ⟨hT10, fun j hj => by
    obtain rfl : j = 0 := by simp [DA9] at hj; omega
    exact hT8⟩
  refine WL.c rfl (o_bldC (cs := [_]) TI25 (Sizes.cons TI23 Sizes.nil) rfl (lcp (show _ = Value.slice (some ⟨g10, 0, none⟩) 1 1 from rfl) lnp) rfl rfl ?_)
  refine WL.c rfl (o_call Try.call8 (lc rfl ln) ((build_A9 _ _ _ hD).mono ?_))
  rintro v12 w12 ⟨tv, rv, U, rfl, hSc, hx12⟩
  replace hx := hx.tr hx12
  have hE : Ext w12 w12 := Only.refl _ _
  refine WL.c rfl (o_mvh (by first | exact (show _ = Value.tuple _ from rfl) | exact rfl) ?_)
  refine WL.c rfl (o_ext rfl rfl ?_)
  refine WL.c rfl (o_ext rfl rfl ?_)
  refine WL.c rfl (o_alB TI34 ?_)
  intro wa hC1 hxa hsa
  obtain ⟨b1, hb1⟩ : ∃ b, b = w12.heap.size := ⟨_, rfl⟩
  rw [← hb1] at hC1 ⊢
  replace hC1 : wa.heap[b1]? = some (.cells #[.slice none 0 0, .slice none 0 0] 34 (0, 0)) := hC1
  replace hE := hE.tr hxa
  refine WL.c rfl (o_alB TI28 ?_)
  intro wb hC2 hxb hsb
  have hsE := hE.size
  obtain ⟨b2, hb2⟩ : ∃ b, b = wa.heap.size := ⟨_, rfl⟩
  rw [← hb2] at hC2 ⊢
  replace hC2 : wb.heap[b2]? = some (.cells #[.int .i64 0, .int .i64 0] 28 (0, 0)) := hC2
  replace hE := hE.tr hxb
  replace hC1 := hxb.blk hC1 (fun h => h)
  refine WL.u (o_stA TI34 rfl (show _ = Value.agg #[tv, rv] from rfl) rfl (by simp [own_one hSc.ro, own_one hSc.ty.row]) hC1 rfl ?_)
  intro wc hC1n ho hs
  replace hC2 := ho.blk hC2 (blk_ne3 hC2 hC1 (by decide))
  replace hE := hE.trans' ho (fun _ h => h) (fun b hb e => by omega)
  replace hC1 := hC1n
  refine WL.u (o_stA TI28 rfl (show _ = Value.agg #[.int .i64 0, .int .i64 0] from rfl) rfl rfl hC2 rfl ?_)
  intro wd hC2n ho hs
  replace hC1 := ho.blk hC1 (blk_ne3 hC1 hC2 (by decide))
  replace hE := hE.trans' ho (fun _ h => h) (fun b hb e => by omega)
  replace hC2 := hC2n
  replace hSc := hSc.ext hE
  replace hx := hx.tr hE
  clear hE
  refine WL.nil ?_
  refine W.seq ?_
  refine W.seq ?_
  refine W.region ?_
  refine WL.c rfl (o_ldA TI28 rfl rfl (show Cells _ b2 0 [.int .i64 0, .int .i64 0] from Cells.of hC2 0 _ (by simp)) rfl ?_)
  refine WL.c rfl (o_bldC (cs := [(.int .i64 0), (.int .i64 0)]) TI28 (Sizes.cons TI26 (Sizes.cons TI3 Sizes.nil)) rfl lnp rfl rfl ?_)
  refine WL.c rfl (o_neR TI28 (by kernel_rfl) (by kernel_rfl) rfl rfl (.int TI26 (by decide) rfl rfl (.int TI3 (by decide) rfl rfl .nil)) ?_)
  refine WL.c rfl (o_mvh (show _ = Value.bool _ from rfl) ?_)
  refine WL.g rfl (by simp) rfl (o_ldA TI34 rfl rfl (show Cells _ b1 0 [tv, rv] from Cells.of hC1 0 _ (by simp)) rfl ?_)
  refine WL.g rfl (by simp) rfl (o_bldC (cs := [(.int .i64 1), (.int .i64 2), (.int .i64 0), (.slice none 0 0)]) TI50 (Sizes.cons TI3 (Sizes.cons TI3 (Sizes.cons TI3 (Sizes.cons TI48 Sizes.nil)))) rfl (lcp (show _ = Value.int _ _ from rfl) (lcp (show _ = Value.int _ _ from rfl) lnp)) rfl rfl ?_)
  refine WL.g rfl (by simp) rfl (o_bldC (cs := [(.int .i64 5), (.int .i64 3), (.int .i64 0), (.slice none 0 0)]) TI50 (Sizes.cons TI3 (Sizes.cons TI3 (Sizes.cons TI3 (Sizes.cons TI48 Sizes.nil)))) rfl (lcp (show _ = Value.int _ _ from rfl) (lcp (show _ = Value.int _ _ from rfl) lnp)) rfl rfl ?_)
  refine WL.g rfl (by simp) rfl (o_bsA (xs := [(.tmp 20), (.tmp 21)]) (cs := trows LA9 (fun _ => .slice none 0 0)) TI31 TI50 rfl (lc (show _ = Value.agg (tcell ⟨1, 2, 0, []⟩ (.slice none 0 0)).toArray from rfl) (lc (show _ = Value.agg (tcell ⟨5, 3, 0, []⟩ (.slice none 0 0)).toArray from rfl) ln)) rfl rfl (by decide) (by decide) rfl ?_)
  have hT22 : Sl (wd.alloc (.cells (trows LA9 (fun _ => .slice none 0 0)).toArray 50)) 4 (.slice (some ⟨wd.heap.size, 0, none⟩) 2 2) 2 (trows LA9 (fun _ => .slice none 0 0)) := Sl.ofRow rfl
  have hxr : Ext wd (wd.alloc (.cells (trows LA9 (fun _ => .slice none 0 0)).toArray 50)) := Only.alloc wd _
  obtain ⟨g22, hg22⟩ : ∃ g, g = wd.heap.size := ⟨_, rfl⟩
  rw [← hg22] at hT22 ⊢
  generalize wd.alloc (.cells (trows LA9 (fun _ => .slice none 0 0)).toArray 50) = w22 at hT22 hxr ⊢
  replace hx := hx.tr hxr
  replace hSc := hSc.ext hxr
  replace hC1 := hxr.blk hC1 (fun h => h)
  clear hxr
  refine WL.g rfl (by simp) rfl (o_bldC (cs := [(st [97]), (.int .i64 1)]) TI47 (Sizes.cons TI9 (Sizes.cons TI3 Sizes.nil)) rfl (lcp (show _ = Value.string _ from rfl) (lcp (show _ = Value.int _ _ from rfl) lnp)) rfl rfl ?_)
  refine WL.g rfl (by simp) rfl (o_bs1 TI32 TI47 (show _ = Value.agg (roV ⟨[97], 1⟩).toArray from rfl) (by decide) (by decide) rfl ?_)
  have hT24 : Sl (w22.alloc (.cells (Value.agg (roV ⟨[97], 1⟩).toArray).cells 47)) 2 (.slice (some ⟨w22.heap.size, 0, none⟩) 1 1) 1 (ros RA9) := Sl.one rfl
  have hxr : Ext w22 (w22.alloc (.cells (Value.agg (roV ⟨[97], 1⟩).toArray).cells 47)) := Only.alloc w22 _
  obtain ⟨g24, hg24⟩ : ∃ g, g = w22.heap.size := ⟨_, rfl⟩
  rw [← hg24] at hT24 ⊢
  generalize w22.alloc (.cells (Value.agg (roV ⟨[97], 1⟩).toArray).cells 47) = w24 at hT24 hxr ⊢
  replace hx := hx.tr hxr
  replace hSc := hSc.ext hxr
  replace hT22 := hT22.ext hxr
  replace hC1 := hxr.blk hC1 (fun h => h)
  have hB : SchR w24 LA9 RA9 (.slice (some ⟨g22, 0, none⟩) 2 2) (.slice (some ⟨g24, 0, none⟩) 1 1) (fun _ => .slice none 0 0) := ⟨⟨hT22, fun j hj => by
    have hj2 : j = 0 ∨ j = 1 := by simp [LA9] at hj; omega
    rcases hj2 with rfl | rfl <;> exact Sl.nil _ _⟩, hT24⟩
  clear hxr
  refine WL.g rfl (by simp) rfl (o_bldC (cs := [_, _]) TI34 (Sizes.cons TI31 (Sizes.cons TI32 Sizes.nil)) rfl (lcp (show _ = Value.slice (some ⟨g22, 0, none⟩) 2 2 from rfl) (lcp (show _ = Value.slice (some ⟨g24, 0, none⟩) 1 1 from rfl) lnp)) rfl rfl ?_)
  refine WL.g rfl (by simp) rfl (o_call Try.call13 (lc rfl (lc rfl ln)) ((same_A9 LA9 RA9 tv rv U LA9 RA9 _ _ _ _ hSc.rd hB okA9 okA9 ⟨rfl, rfl⟩).mono ?_))
  rintro v26 w26 ⟨rfl, hx26⟩
  replace hx := hx.tr hx26
  replace hSc := hSc.ext hx26
  replace hC1 := hx26.blk hC1 (fun h => h)
  refine WL.g rfl (by simp) rfl (o_not' rfl ?_)
  refine WL.c rfl (o_pickO rfl rfl ?_)
  refine WL.nil ?_
  refine W.condF' rfl (by simp) ?_
  refine W.skip ?_
  refine W.seq ?_
  refine W.region ?_
  refine WL.c rfl (o_ldA TI34 rfl rfl (show Cells _ b1 0 [tv, rv] from Cells.of hC1 0 _ (by simp)) rfl ?_)
  refine WL.c rfl (o_call Try.call10 (lc rfl (lc rfl ln)) ((find_A9 tv rv _ (Sl.own hSc.ro) (own_one hSc.ty.row)).mono ?_))
  rintro v31 w31 ⟨rfl, hx31⟩
  replace hx := hx.tr hx31
  refine WL.c rfl (o_mvh (by first | exact (show _ = Value.tuple _ from rfl) | exact rfl) ?_)
  refine WL.c rfl (o_ext rfl rfl ?_)
  refine WL.c rfl (o_ext rfl rfl ?_)
  refine WL.c rfl (o_ash (show _ = Value.int _ _ from rfl) ?_)
  refine WL.c rfl (o_ash (show _ = Value.int _ _ from rfl) ?_)
  refine WL.nil ?_
  refine W.seq ?_
  refine W.region ?_
  refine WL.c rfl (o_mvh (show _ = Value.int _ _ from rfl) ?_)
  refine WL.c rfl (o_eq rfl rfl ?_)
  refine WL.c rfl (o_mvh (show _ = Value.bool _ from rfl) ?_)
  refine WL.g rfl (by simp) rfl (o_mvh (show _ = Value.int _ _ from rfl) ?_)
  refine WL.g rfl (by simp) rfl (o_eq rfl rfl ?_)
  refine WL.c rfl (o_pickA rfl rfl ?_)
  refine WL.c rfl (o_mvh (show _ = Value.bool _ from rfl) ?_)
  refine WL.g rfl (by simp) rfl (o_bldC (cs := [(.int .i64 0), (.int .i64 0), (.int .i64 0), (.slice none 0 0)]) TI50 (Sizes.cons TI3 (Sizes.cons TI3 (Sizes.cons TI3 (Sizes.cons TI48 Sizes.nil)))) rfl lnp rfl rfl ?_)
  refine WL.g rfl (by simp) rfl (o_bs1 TI31 TI50 (show _ = Value.agg (tcell ⟨0, 0, 0, []⟩ (.slice none 0 0)).toArray from rfl) (by decide) (by decide) rfl ?_)
  have hT42 : Sl (w31.alloc (.cells (Value.agg (tcell ⟨0, 0, 0, []⟩ (.slice none 0 0)).toArray).cells 50)) 4 (.slice (some ⟨w31.heap.size, 0, none⟩) 1 1) 1 (trows [⟨0, 0, 0, []⟩] (fun _ => .slice none 0 0)) := Sl.one rfl
  have hxr : Ext w31 (w31.alloc (.cells (Value.agg (tcell ⟨0, 0, 0, []⟩ (.slice none 0 0)).toArray).cells 50)) := Only.alloc w31 _
  obtain ⟨g42, hg42⟩ : ∃ g, g = w31.heap.size := ⟨_, rfl⟩
  rw [← hg42] at hT42 ⊢
  generalize w31.alloc (.cells (Value.agg (tcell ⟨0, 0, 0, []⟩ (.slice none 0 0)).toArray).cells 50) = w42 at hT42 hxr ⊢
  replace hx := hx.tr hxr
  clear hxr
  refine WL.g rfl (by simp) rfl (o_bldC (cs := [_, (.slice none 0 0)]) TI34 (Sizes.cons TI31 (Sizes.cons TI32 Sizes.nil)) rfl (lcp (show _ = Value.slice (some ⟨g42, 0, none⟩) 1 1 from rfl) lnp) rfl rfl ?_)
  refine WL.g rfl (by simp) rfl (o_call Try.call9 (lc rfl ln) ((check_A9 _ _ ⟨hT42, fun j hj => by obtain rfl : j = 0 := (by simp at hj; omega); exact Sl.nil _ _⟩).mono ?_))
  rintro v44 w44 ⟨rfl, hx44⟩
  replace hx := hx.tr hx44
  refine WL.g rfl (by simp) rfl (o_fldT TI28 rfl rfl rfl TI26 rfl rfl rfl ?_)
  refine WL.g rfl (by simp) rfl (o_eq rfl rfl ?_)
  refine WL.c rfl (o_pickA rfl rfl ?_)
  refine WL.c rfl (o_ash (show _ = Value.bool _ from rfl) ?_)
  refine WL.nil ?_
  refine W.ret ?_
  refine ret1v rfl (show _ = Value.bool _ from rfl) ?_
  exact ⟨rfl, hx⟩
end Go.Proofs.Ytpbflfgigfdohaa

set_option linter.unusedSimpArgs false
set_option linter.unusedVariables false
set_option maxRecDepth 100000
namespace Go.Proofs.Ytpbflfgigfdohaa
open Go Go.Vc Go.RowKit Go.Proofs

theorem own_new09 {w : World} {el s : Nat} : (w.alloc (.cells #[] el)).ownsRow w.heap.size el s (.slice (some ⟨w.heap.size, 0, none⟩) 0 0) 0 [] :=
  ⟨by simp, .inr ⟨w.heap.size, 0, #[], rfl, Nat.le_refl _, heap_alloc_new w _, Nat.le_refl _, by decide, by simp, by simp⟩⟩
theorem ext_of09 {w w' : World} {el s b m : Nat} (hs : 0 < s) (h : w.heap[b]? = some (.cells #[] el (0, 0))) (ho : Only (fun k => (Value.slice (some ⟨b, 0, none⟩) 0 0).ownBlock = some k) w w') (hr : w'.ownsRow m el s (.slice (some ⟨b, 0, none⟩) 0 0) 0 []) : Ext w w' := by
  have hb : w'.heap[b]? = some (.cells #[] el (0, 0)) := by
    obtain ⟨cap, cur, hv, -, hB, -, -, hcs, -⟩ := own_blk hr (g := b) rfl
    cases hv
    have : cur = #[] := by rw [← Array.size_eq_zero_iff, hcs]; simp
    rw [this] at hB; exact hB
  refine ⟨ho.os, ho.tape, ho.output, ho.size, fun k hk _ => ?_⟩
  by_cases e : k = b
  · subst e; rw [h, hb]
  exact ho.block k hk (fun he => e (by simpa [Value.ownBlock] using he.symm))
def paK : Pa := ⟨[109, 97, 114, 107], 7, 0⟩
def tpK : Tp := ⟨77, 0, 0, []⟩
def roK : Ro := ⟨[109, 97, 114, 107], 7⟩
abbrev lenP (L : List Tp) (j : Nat) : Nat := (pasT L j).length + 1
abbrev rowP (L : List Tp) (j : Nat) : List Value := pas (pasT L j) ++ paV paK
theorem trows_get {L : List Tp} {V : Nat → Value} {j c : Nat} (hj : j < L.length) (hc : c < 4) : (trows L V)[j * 4 + c]? = (tcell (L.getD j tp0) (V j))[c]? := by
  have h := trows_at L V hj
  rw [← h, List.getElem?_take, if_pos hc, List.getElem?_drop]
theorem trows_set {L : List Tp} {V : Nat → Value} {i : Nat} {v : Value} (hi : i < L.length) : (trows L V).set (i * 4 + 3) v = trows L (fun j => if j = i then v else V j) := by
  apply List.ext_getElem?
  intro k
  rw [List.getElem?_set]
  have hl := trows_len L V
  have hl2 := trows_len L (fun j => if j = i then v else V j)
  by_cases hk : k < L.length * 4
  · have hj : k / 4 < L.length := by omega
    have hc : k % 4 < 4 := by omega
    have hkk : k = k / 4 * 4 + k % 4 := by omega
    have e1 := trows_get (V := V) hj hc
    have e2 := trows_get (V := fun j => if j = i then v else V j) hj hc
    rw [← hkk] at e1 e2
    rw [e1, e2, hl]
    by_cases e : i * 4 + 3 = k
    · have h1 : k / 4 = i := by omega
      have h2 : k % 4 = 3 := by omega
      rw [if_pos e, if_pos (by omega), h1, h2, if_pos rfl]; rfl
    rw [if_neg e]
    by_cases h1 : k / 4 = i
    · rw [h1, if_pos rfl]
      have h3 : k % 4 = 0 ∨ k % 4 = 1 ∨ k % 4 = 2 := by omega
      rcases h3 with h3 | h3 | h3 <;> rw [h3] <;> rfl
    rw [if_neg h1]
  have h1 : (trows L V)[k]? = none := List.getElem?_eq_none (by omega)
  have h2 : (trows L (fun j => if j = i then v else V j))[k]? = none := List.getElem?_eq_none (by omega)
  rw [h1, h2, if_neg (by omega)]
theorem trows_congr {L : List Tp} {V V' : Nat → Value} (h : ∀ j, j < L.length → V j = V' j) : trows L V = trows L V' := dfm_congr fun j hj => by rw [h j (List.mem_range.1 hj)]
/-- a schema in rows of our own, a mark behind each -/
structure LentT (w : World) (H : Nat) (L : List Tp) (R : List Ro) (tW rW : Value) (U : Nat → Value) : Prop where
  row : w.ownsRow H 50 4 tW (L.length + 1) (trows L (fun j => shr (U j)) ++ tcell tpK (.slice none 0 0))
  tys : Many w H 52 3 L.length U (lenP L) (rowP L)
  ro : w.ownsRow H 47 2 rW (R.length + 1) (ros R ++ roV roK)
theorem LentT.ext {w w' : World} {H : Nat} {L : List Tp} {R : List Ro} {tW rW : Value} {U : Nat → Value} (h : LentT w H L R tW rW U) (ho : Ext w w') : LentT w' H L R tW rW U := ⟨own_ext h.row ho, h.tys.ext ho, own_ext h.ro ho⟩
theorem LentT.rd {w : World} {H : Nat} {L : List Tp} {R : List Ro} {tW rW : Value} {U : Nat → Value} (h : LentT w H L R tW rW U) : SchR w L R (shr tW) (shr rW) (fun j => shr (U j)) :=
  ⟨⟨Sl.own (own_shr h.row (trows_len _ _)), fun j hj => Sl.own (own_shr (h.tys.row j hj) (pas_len _))⟩, Sl.own (own_shr h.ro (ros_len _))⟩
theorem lentT_snoc {w : World} {H : Nat} {L : List Tp} {k m : Nat} {W : Nat → Value} {v : Value} (h : Many w H 52 3 k W (lenP L) (rowP L)) (hr : w.ownsRow m 52 3 v (lenP L k) (rowP L k)) (hm : H ≤ m) (hlt : ∀ j, j < k → ∀ b, (W j).ownBlock = some b → b < m) : Many w H 52 3 (k + 1) (fun j => if j = k then v else W j) (lenP L) (rowP L) := Many.snocG h hr hm hlt rfl rfl
theorem one_trows {L : List Tp} {V : Nat → Value} (h : ∀ j, j < L.length → (V j).oneCell' = true) : ∀ a ∈ trows L V, a.oneCell' = true := by
  intro a ha
  obtain ⟨j, hj, hx⟩ := List.mem_flatMap.1 ha
  exact tcell_all (h j (List.mem_range.1 hj)) a hx
theorem mark_get {xs ys : List Value} {n s k : Nat} {v : Value} (hl : xs.length = n * s) (h : ys[k]? = some v) : (xs ++ ys)[n * s + k]? = some v := by
  rw [List.getElem?_append_right (by omega), hl, Nat.add_sub_cancel_left, h]
theorem sok_of {L : List Tp} {R : List Ro} (hL : LLim L) (hR : RLim R) : SOk L R := ⟨hL.len, fun t ht => (hL.ty t ht).len, hR.len, fun t ht => (hL.ty t ht).lb, hR.nm⟩

set_option maxHeartbeats 4000000 in
theorem own9_spec (L : List Tp) (R : List Ro) (tv rv : Value) (V : Nat → Value) (w0 : World) (hS : SchR w0 L R tv rv V) (hlL : LLim L) (hlR : RLim R) : Ca Try.prog 15 #[.agg #[tv, rv]] w0 (fun v w' => ∃ tW rW U, v = .agg #[shr tW, shr rW] ∧ LentT w' w0.heap.size L R tW rW U ∧ Ext w0 w') := by
  have hlen := hlL.len
  have hlr := hlR.len
  have hT := hS.ty
  have hR0 := hS.ro
  obtain ⟨BB, hBB⟩ : ∃ B, B = w0.heap.size := ⟨_, rfl⟩
  rw [← hBB]
  refine Ca.of Try.func15 Try.ntmps15 rfl rfl ?_
  refine W.seq ?_
  refine W.region ?_
  refine WL.c rfl (o_boxB rfl ?_)
  intro w1 hC1 hx1 hs1
  obtain ⟨b1, hb1⟩ : ∃ b, b = w0.heap.size := ⟨_, rfl⟩
  rw [← hb1] at hC1 ⊢
  replace hC1 : w1.heap[b1]? = some (.cells ([tv, rv]).toArray 34 (0, 0)) := hC1
  have hx := hx1
  refine WL.c rfl (o_alB TI34 ?_)
  intro wb hC2 hxb hsb
  have hlt1 := blk_lt3 hC1
  obtain ⟨c2, hc2⟩ : ∃ c, c = w1.heap.size := ⟨_, rfl⟩
  have hz2 : BB ≤ c2 := by rw [hc2, hBB]; exact hx.size
  rw [← hc2] at hC2 hlt1 ⊢
  have hc12 : ¬ b1 = c2 := by omega
  replace hC2 : wb.heap[c2]? = some (.cells #[.slice none 0 0, .slice none 0 0] 34 (0, 0)) := hC2
  replace hx := hx.tr hxb
  replace hC1 := hxb.blk hC1 (fun h => h)
  refine WL.nil ?_
  refine W.seq ?_
  refine W.region ?_
  refine WL.c rfl (o_bs0 TI31 TI50 ?_)
  have hown7 := own_new09 (w := wb) (el := 50) (s := 4)
  have hB7 := heap_alloc_new wb (.cells #[] 50)
  have hxl := Only.alloc wb (.cells #[] 50)
  have hsl : (wb.alloc (.cells #[] 50)).heap.size = wb.heap.size + 1 := by show (Array.push _ _).size = _; simp
  generalize wb.alloc (.cells #[] 50) = w7 at hown7 hB7 hxl hsl ⊢
  obtain ⟨m7, hm7⟩ : ∃ m, m = wb.heap.size := ⟨_, rfl⟩
  rw [← hm7] at hown7 hB7 hsl ⊢
  have hBm7 : BB ≤ m7 := by rw [hm7, hBB]; exact hx.size
  replace hx := hx.tr hxl
  replace hC1 := hxl.blk hC1 (fun h => h)
  replace hC2 := hxl.blk hC2 (fun h => h)
  clear hxl
  refine WL.c rfl (o_fa 0 TI34 rfl TI31 rfl rfl ?_)
  refine WL.c rfl (o_ld TI31 rfl rfl (cell_of hC1 rfl) ?_)
  refine WL.c rfl (o_apO m7 TI31 TI50 (show _ = Value.slice (some ⟨m7, 0, none⟩) 0 0 from rfl) rfl hown7 ((hT.ext hx).row) rfl (by decide) (one_trows (fun j hj => sl_one1 (hT.tys j hj))) (by rw [maxLen_eq]; omega) (by omega) (by omega) ?_)
  intro tW w10 hrow ho10 hb10 hk10
  rw [Nat.zero_add, List.nil_append] at hrow
  have hx10 : Ext w7 w10 := ext_of09 (by decide) hB7 ho10 hk10.1
  clear ho10 hb10 hk10 hown7 hB7
  replace hrow := own_mono hrow hBm7
  replace hx := hx.tr hx10
  replace hC1 := hx10.blk hC1 (fun h => h)
  replace hC2 := hx10.blk hC2 (fun h => h)
  refine WL.c rfl (o_ash (by first | exact (show _ = Value.slice _ _ _ from rfl) | exact rfl) ?_)
  refine WL.nil ?_
  refine W.seq ?_
  refine W.seq ?_
  refine W.region ?_
  refine WL.c rfl (o_ash (show _ = Value.int _ _ from rfl) ?_)
  refine WL.nil ?_
  refine W.block ?_
  refine W.loop (fun e w => ∃ (i : Nat) (U : Nat → Value), i ≤ L.length ∧ e 1 = .pointer (some ⟨b1, 0, none⟩) ∧ e 2 = .pointer (some ⟨c2, 0, none⟩) ∧ e 3 = tW ∧ e 4 = .int .i64 (i : Int) ∧ w.heap[b1]? = some (.cells #[tv, rv] 34 (0, 0)) ∧ w.heap[c2]? = some (.cells #[.slice none 0 0, .slice none 0 0] 34 (0, 0)) ∧ w.ownsRow BB 50 4 tW L.length (trows L (fun j => if j < i then shr (U j) else V j)) ∧ Many w BB 52 3 i U (lenP L) (rowP L) ∧ Ext w0 w) (fun e w => L.length - (intOf (e 4)).toNat) ?_ ?_
  · exact ⟨0, fun _ => undef, Nat.zero_le _, rfl, rfl, rfl, rfl, hC1, hC2, by rw [trows_congr (V' := V) (fun j hj => if_neg (by omega))]; exact hrow, Many.zero, hx⟩
  rintro e w ⟨i, U, hi, h1, h2, h3, h4, hC1, hC2, hrow, htys, hx⟩
  have hm4 := h4
  refine W.seq ?_
  refine W.seq ?_
  refine W.region ?_
  refine WL.c rfl (o_mvh h4 ?_)
  refine WL.c rfl (o_mvh h3 ?_)
  refine WL.c rfl (o_lenR TI31 rfl (Sl.own hrow) ?_)
  refine WL.c rfl (o_lt rfl rfl ?_)
  refine WL.nil ?_
  refine W.cond rfl (fun c14 => ?_) (fun c14 => ?_)
  · try simp only [cs8] at c14
    have hi1 : i < L.length := by omega
    obtain ⟨g, cap, htW, hgb⟩ := own_some hrow (by omega)
    rw [htW] at h3
    have htl := hlL.ty _ (List.getElem_mem hi1)
    have htlen := htl.len
    have hty : ∀ w9, Ext w0 w9 → Sl w9 3 (V i) L[i].parts.length (pas L[i].parts) := fun w9 h9 => by have := (hT.ext h9).tys i hi1; rw [pasT_at hi1] at this; exact this
    have hvi : (trows L (fun j => if j < i then shr (U j) else V j))[i * 4 + 3]? = some (V i) := by rw [trows_get hi1 (by decide), if_neg (Nat.lt_irrefl _)]; rfl
    refine W.skip ?_
    refine W.seq ?_
    refine W.block ?_
    refine W.seq ?_
    refine W.region ?_
    refine WL.c rfl (o_bs0 TI48 TI52 ?_)
    have htl2 : ∀ j, j < i → ∀ b, (U j).ownBlock = some b → b < w.heap.size := fun j hj b hb => (htys.lt hj hb).2
    have hown17 := own_new09 (w := w) (el := 52) (s := 3)
    have hB17 := heap_alloc_new w (.cells #[] 52)
    have hxl := Only.alloc w (.cells #[] 52)
    have hsl : (w.alloc (.cells #[] 52)).heap.size = w.heap.size + 1 := by show (Array.push _ _).size = _; simp
    generalize w.alloc (.cells #[] 52) = w17 at hown17 hB17 hxl hsl ⊢
    obtain ⟨m17, hm17⟩ : ∃ m, m = w.heap.size := ⟨_, rfl⟩
    rw [← hm17] at hown17 hB17 hsl ⊢
    have hBm17 : BB ≤ m17 := by rw [hm17, hBB]; exact hx.size
    replace hx := hx.tr hxl
    replace hC1 := hxl.blk hC1 (fun h => h)
    replace hC2 := hxl.blk hC2 (fun h => h)
    replace htys := htys.ext hxl
    replace hrow := own_ext hrow hxl
    clear hxl
    rw [← hm17] at htl2
    refine WL.c rfl (o_mvh h3 ?_)
    refine WL.c rfl (o_mvh h4 ?_)
    refine WL.c rfl (o_ixB (i := i) TI31 TI50 (show _ = Value.slice (some ⟨g, 0, none⟩) L.length cap from by first | rfl | exact h3) (show _ = Value.int .i64 (i : Int) from by first | rfl | exact h4) (by omega) ?_)
    refine WL.c rfl (o_fa 3 TI50 rfl TI48 rfl rfl ?_)
    refine WL.c rfl (o_ld TI48 rfl rfl (own_cell (j := 0 + i * 4 + 3) (htW ▸ hrow) (by rw [Nat.zero_add]; exact hvi)) ?_)
    refine WL.c rfl (o_apO m17 TI48 TI52 (show _ = Value.slice (some ⟨m17, 0, none⟩) 0 0 from rfl) (show _ = V i from rfl) hown17 (hty _ hx) rfl (by decide) (one_pas _) (by rw [maxLen_eq]; omega) (by omega) (by omega) ?_)
    intro v23 w23 hown23 ho23 hb23 hk23
    rw [Nat.zero_add, List.nil_append] at hown23
    have hx23 : Ext w17 w23 := ext_of09 (by decide) hB17 ho23 hk23.1
    clear ho23 hb23 hk23 hown17 hB17
    replace hx := hx.tr hx23
    replace hC1 := hx23.blk hC1 (fun h => h)
    replace hC2 := hx23.blk hC2 (fun h => h)
    replace htys := htys.ext hx23
    replace hrow := own_ext hrow hx23
    have hsz23 := hx23.size
    refine WL.c rfl (o_bldC (cs := [(st [109, 97, 114, 107]), (.int .i64 7), (.int .i64 0)]) TI52 (Sizes.cons TI9 (Sizes.cons TI3 (Sizes.cons TI3 Sizes.nil))) rfl (lcp (show _ = Value.string _ from rfl) (lcp (show _ = Value.int _ _ from rfl) lnp)) rfl rfl ?_)
    refine WL.apO (m17) rfl rfl TI48 TI52 (show _ = Value.agg (paV paK).toArray from rfl) rfl hown23 (by decide) (by decide) rfl (fun a ha => List.all_eq_true.1 (show List.all _ (fun a => a.oneCell') = true from rfl) a ha) rfl (by rw [maxLen_eq]; omega) (by omega) (by omega) ?_
    intro v26 w26 hown26 ho26 hb26 _
    replace hown26 : w26.ownsRow m17 52 3 v26 (L[i].parts.length + 1) (pas L[i].parts ++ paV paK) := hown26
    replace ho26 : Only (fun k => v23.ownBlock = some k) w23 w26 := ho26
    have hlt23 : ∀ b, v23.ownBlock = some b → m17 ≤ b := fun b hb => (hown23.lt b hb).1
    replace hC1 := ho26.blk hC1 (fun he => own_off hown23 hC1 (by decide) he)
    replace hC2 := ho26.blk hC2 (fun he => own_off hown23 hC2 (by decide) he)
    replace hrow := own_only hrow ho26 (fun b hb hF => own_row_off hown23 hrow (by decide) b hb hF)
    replace htys := htys.only ho26 (fun j hj b hb hF => by have h8 := hlt23 b hF; have h9 := htl2 j hj b hb; omega)
    replace hx := hx.trans' ho26 (fun _ h => h) (fun b hb he => by have := hlt23 b he; omega)
    replace htys := lentT_snoc (L := L) htys (by rw [lenP, rowP, pasT_at hi1]; exact hown26) hBm17 htl2
    obtain ⟨g6, cap6, hv26, hg6⟩ := own_some hown26 (by omega)
    have hcp6 : L[i].parts.length + 1 ≤ cap6 := by rw [hv26] at hown26; obtain ⟨_, _, hv, hh⟩ := own_form hown26; cases hv; exact hh
    refine WL.c rfl (o_ash (by first | exact (show _ = Value.slice _ _ _ from rfl) | exact rfl) ?_)
    refine WL.nil ?_
    refine W.region ?_
    refine WL.c rfl (o_mvh h3 ?_)
    refine WL.c rfl (o_mvh h4 ?_)
    refine WL.c rfl (o_mvh (by first | exact (show _ = Value.slice _ _ _ from rfl) | exact rfl) ?_)
    refine WL.c rfl (o_mvh h3 ?_)
    refine WL.c rfl (o_mvh h4 ?_)
    refine WL.c rfl (o_ixB (i := i) TI31 TI50 (show _ = Value.slice (some ⟨g, 0, none⟩) L.length cap from by first | rfl | exact h3) (show _ = Value.int .i64 (i : Int) from by first | rfl | exact h4) (by omega) ?_)
    refine WL.c rfl (o_fa 3 TI50 rfl TI48 rfl rfl ?_)
    refine WL.c rfl (o_ld TI48 rfl rfl (own_cell (j := 0 + i * 4 + 3) (htW ▸ hrow) (by rw [Nat.zero_add]; exact hvi)) ?_)
    refine WL.c rfl (o_lenR TI48 (show _ = V i from rfl) (hty _ hx) ?_)
    refine WL.c rfl (o_slv (h := L[i].parts.length) TI48 TI52 (show _ = Value.slice (some ⟨g6, 0, none⟩) (L[i].parts.length + 1) cap6 from hv26) Lo.n (Hi.s rfl) (Nat.zero_le _) (by omega) ?_)
    rw [sliced0]
    have hshr : shr v26 = Value.slice (some ⟨g6, 0, none⟩) L[i].parts.length cap6 := by rw [hv26]; rfl
    rw [← hshr]
    refine WL.c rfl (o_ixB (i := i) TI31 TI50 (show _ = Value.slice (some ⟨g, 0, none⟩) L.length cap from by first | rfl | exact h3) (show _ = Value.int .i64 (i : Int) from by first | rfl | exact h4) (by omega) ?_)
    refine WL.c rfl (o_fa 3 TI50 rfl TI48 rfl rfl ?_)
    refine WL.u (o_stRj TI48 rfl (show 0 + i * 4 + 3 = i * 4 + 3 by omega) (show _ = shr v26 from rfl) (by rw [hshr]; rfl) (htW ▸ hrow) (show Value.ownBlock (Value.slice (some ⟨g, 0, none⟩) L.length cap) = some g from rfl) (by omega) ?_)
    intro w38 hr38 ho38 hs38
    rw [trows_set hi1] at hr38
    rw [← htW] at hr38 ho38
    have hrl : ∀ b, tW.ownBlock = some b → BB ≤ b := fun b hb => (hrow.lt b hb).1
    replace hC1 := ho38.blk hC1 (fun he => own_off hrow hC1 (by decide) he)
    replace hC2 := ho38.blk hC2 (fun he => own_off hrow hC2 (by decide) he)
    replace htys := htys.other hrow (by decide) ho38
    replace hx := hx.trans' ho38 (fun _ h => h) (fun b hb he => by have := hrl b he; omega)
    replace hrow := hr38
    refine WL.nil ?_
    refine W.region ?_
    refine WL.c rfl (o_mvh h4 ?_)
    refine WL.c rfl (o_addi rfl rfl (by omega) ?_)
    refine WL.c rfl (o_ash (show _ = Value.int _ _ from rfl) ?_)
    refine WL.nil ?_
    refine ⟨⟨i + 1, fun j => if j = i then v26 else U j, by omega, h1, h2, h3.trans htW.symm, rfl, hC1, hC2, ?_, htys, hx⟩, ?_⟩
    · rw [trows_congr (V' := fun j => if j = i then shr v26 else if j < i then shr (U j) else V j) (fun j hj => by
        by_cases e : j = i
        · rw [if_pos (by omega), if_pos e]; show shr (if j = i then v26 else U j) = _; rw [if_pos e]
        by_cases e2 : j < i
        · rw [if_pos (by omega), if_neg e, if_pos e2]; show shr (if j = i then v26 else U j) = _; rw [if_neg e]
        rw [if_neg (by omega), if_neg e, if_neg e2])]
      exact hrow
    show L.length - ((i : Int) + 1).toNat < _
    rw [hm4]; simp [intOf]; omega
  try simp only [cs8] at c14
  have hi1 : i = L.length := by omega
  subst hi1
  rw [trows_congr (V' := fun j => shr (U j)) (fun j hj => if_pos hj)] at hrow
  refine W.exit ?_
  refine W.seq ?_
  refine W.region ?_
  refine WL.c rfl (o_mvh h3 ?_)
  refine WL.c rfl (o_bldC (cs := [(.int .i64 77), (.int .i64 0), (.int .i64 0), (.slice none 0 0)]) TI50 (Sizes.cons TI3 (Sizes.cons TI3 (Sizes.cons TI3 (Sizes.cons TI48 Sizes.nil)))) rfl (lcp (show _ = Value.int _ _ from rfl) lnp) rfl rfl ?_)
  refine WL.apO (BB) rfl rfl TI31 TI50 (show _ = Value.agg (tcell tpK (.slice none 0 0)).toArray from rfl) rfl hrow (by decide) (by decide) rfl (fun a ha => List.all_eq_true.1 (show List.all _ (fun a => a.oneCell') = true from rfl) a ha) rfl (by rw [maxLen_eq]; omega) (by omega) (by rw [hBB]; exact hx.size) ?_
  intro v42 w42 hrow42 ho42 hb42 _
  replace hrow42 : w42.ownsRow BB 50 4 v42 (L.length + 1) (trows L (fun j => shr (U j)) ++ tcell tpK (.slice none 0 0)) := hrow42
  replace ho42 : Only (fun k => tW.ownBlock = some k) w w42 := ho42
  have hrl : ∀ b, tW.ownBlock = some b → BB ≤ b := fun b hb => (hrow.lt b hb).1
  replace hC1 := ho42.blk hC1 (fun he => own_off hrow hC1 (by decide) he)
  replace hC2 := ho42.blk hC2 (fun he => own_off hrow hC2 (by decide) he)
  replace htys := htys.other hrow (by decide) ho42
  replace hx := hx.trans' ho42 (fun _ h => h) (fun b hb he => by have := hrl b he; omega)
  refine WL.c rfl (o_ash (by first | exact (show _ = Value.slice _ _ _ from rfl) | exact rfl) ?_)
  refine WL.nil ?_
  refine W.seq ?_
  refine W.region ?_
  refine WL.c rfl (o_bs0 TI32 TI47 ?_)
  have hown43 := own_new09 (w := w42) (el := 47) (s := 2)
  have hB43 := heap_alloc_new w42 (.cells #[] 47)
  have hxl := Only.alloc w42 (.cells #[] 47)
  have hsl : (w42.alloc (.cells #[] 47)).heap.size = w42.heap.size + 1 := by show (Array.push _ _).size = _; simp
  generalize w42.alloc (.cells #[] 47) = w43 at hown43 hB43 hxl hsl ⊢
  obtain ⟨m43, hm43⟩ : ∃ m, m = w42.heap.size := ⟨_, rfl⟩
  rw [← hm43] at hown43 hB43 hsl ⊢
  have hBm43 : BB ≤ m43 := by rw [hm43, hBB]; exact hx.size
  replace hx := hx.tr hxl
  replace hC1 := hxl.blk hC1 (fun h => h)
  replace hC2 := hxl.blk hC2 (fun h => h)
  replace htys := htys.ext hxl
  replace hrow42 := own_ext hrow42 hxl
  clear hxl
  refine WL.c rfl (o_fa 1 TI34 rfl TI32 rfl h1 ?_)
  refine WL.c rfl (o_ld TI32 rfl rfl (cell_of hC1 rfl) ?_)
  refine WL.c rfl (o_apO m43 TI32 TI47 (show _ = Value.slice (some ⟨m43, 0, none⟩) 0 0 from rfl) (show _ = rv from rfl) hown43 (hR0.ext hx) rfl (by decide) (one_ros _) (by rw [maxLen_eq]; omega) (by omega) (by omega) ?_)
  intro v46 w46 hown46 ho46 hb46 hk46
  rw [Nat.zero_add, List.nil_append] at hown46
  have hx46 : Ext w43 w46 := ext_of09 (by decide) hB43 ho46 hk46.1
  clear ho46 hb46 hk46 hown43 hB43
  replace hx := hx.tr hx46
  replace hC1 := hx46.blk hC1 (fun h => h)
  replace hC2 := hx46.blk hC2 (fun h => h)
  replace htys := htys.ext hx46
  replace hrow42 := own_ext hrow42 hx46
  have hsz46 := hx46.size
  refine WL.c rfl (o_bldC (cs := [(st [109, 97, 114, 107]), (.int .i64 7)]) TI47 (Sizes.cons TI9 (Sizes.cons TI3 Sizes.nil)) rfl (lcp (show _ = Value.string _ from rfl) (lcp (show _ = Value.int _ _ from rfl) lnp)) rfl rfl ?_)
  refine WL.apO (m43) rfl rfl TI32 TI47 (show _ = Value.agg (roV roK).toArray from rfl) rfl hown46 (by decide) (by decide) rfl (fun a ha => List.all_eq_true.1 (show List.all _ (fun a => a.oneCell') = true from rfl) a ha) rfl (by rw [maxLen_eq]; omega) (by omega) (by omega) ?_
  intro v49 w49 hown49 ho49 hb49 _
  replace hown49 : w49.ownsRow m43 47 2 v49 (R.length + 1) (ros R ++ roV roK) := hown49
  replace ho49 : Only (fun k => v46.ownBlock = some k) w46 w49 := ho49
  have hlt46 : ∀ b, v46.ownBlock = some b → m43 ≤ b := fun b hb => (hown46.lt b hb).1
  replace hC1 := ho49.blk hC1 (fun he => own_off hown46 hC1 (by decide) he)
  replace hC2 := ho49.blk hC2 (fun he => own_off hown46 hC2 (by decide) he)
  replace hrow42 := own_only hrow42 ho49 (fun b hb hF => own_row_off hown46 hrow42 (by decide) b hb hF)
  replace htys := htys.other hown46 (by decide) ho49
  replace hx := hx.trans' ho49 (fun _ h => h) (fun b hb he => by have := hlt46 b he; omega)
  replace hown49 := own_mono hown49 hBm43
  obtain ⟨g2, cap2, hv42, hg2⟩ := own_some hrow42 (by omega)
  have hcp2 : L.length + 1 ≤ cap2 := by have h9 := hrow42; rw [hv42] at h9; obtain ⟨_, _, hv, hh⟩ := own_form h9; cases hv; exact hh
  obtain ⟨g9, cap9, hv49, hg9⟩ := own_some hown49 (by omega)
  have hcp9 : R.length + 1 ≤ cap9 := by have h9 := hown49; rw [hv49] at h9; obtain ⟨_, _, hv, hh⟩ := own_form h9; cases hv; exact hh
  have hsh2 : shr v42 = Value.slice (some ⟨g2, 0, none⟩) L.length cap2 := by rw [hv42]; rfl
  have hsh9 : shr v49 = Value.slice (some ⟨g9, 0, none⟩) R.length cap9 := by rw [hv49]; rfl
  refine WL.c rfl (o_ash (by first | exact (show _ = Value.slice _ _ _ from rfl) | exact rfl) ?_)
  refine WL.nil ?_
  refine W.seq ?_
  have hxd := Only.drew w49
  replace hx := hx.tr hxd
  replace hC1 := hxd.blk hC1 (fun h => h)
  replace hC2 := hxd.blk hC2 (fun h => h)
  replace htys := htys.ext hxd
  replace hrow42 := own_ext hrow42 hxd
  replace hown49 := own_ext hown49 hxd
  refine W.tail 11 rfl (by kernel_rfl) ?_
  refine WS.c rfl ((SO.o rfl (o_mvh (by first | exact (show _ = Value.slice _ _ _ from rfl) | exact rfl) ⟨rfl, rfl⟩))) ?_
  refine WS.c rfl ((SO.o rfl (o_fa 0 TI34 rfl TI31 rfl h1 ⟨rfl, rfl⟩))) ?_
  refine WS.c rfl ((SO.o rfl (o_ld TI31 rfl rfl (cell_of hC1 rfl) ⟨rfl, rfl⟩))) ?_
  refine WS.c rfl ((SO.r (r_lenR TI31 rfl (hT.ext hx).row))) ?_
  refine WS.c rfl ((SO.o rfl (o_slv (h := L.length) TI31 TI50 (show _ = Value.slice (some ⟨g2, 0, none⟩) (L.length + 1) cap2 from hv42) Lo.n (Hi.s rfl) (Nat.zero_le _) (by omega) ⟨rfl, (hsh2.trans (sliced0 _ _ _ _).symm)⟩))) ?_
  refine WS.c rfl ((SO.o rfl (o_mvh (by first | exact (show _ = Value.slice _ _ _ from rfl) | exact rfl) ⟨rfl, rfl⟩))) ?_
  refine WS.c rfl ((SO.o rfl (o_fa 1 TI34 rfl TI32 rfl h1 ⟨rfl, rfl⟩))) ?_
  refine WS.c rfl ((SO.o rfl (o_ld TI32 rfl rfl (cell_of hC1 rfl) ⟨rfl, rfl⟩))) ?_
  refine WS.c rfl ((SO.r (r_lenR TI32 rfl (hR0.ext hx)))) ?_
  refine WS.c rfl ((SO.o rfl (o_slv (h := R.length) TI32 TI47 (show _ = Value.slice (some ⟨g9, 0, none⟩) (R.length + 1) cap9 from hv49) Lo.n (Hi.s rfl) (Nat.zero_le _) (by omega) ⟨rfl, (hsh9.trans (sliced0 _ _ _ _).symm)⟩))) ?_
  refine WS.c rfl ((SO.o rfl (o_bldC (cs := [shr v42, shr v49]) TI34 (Sizes.cons TI31 (Sizes.cons TI32 Sizes.nil)) rfl (lcp (show _ = shr v42 from rfl) (lcp (show _ = shr v49 from rfl) lnp)) (by rw [hsh2, hsh9]; rfl) rfl ⟨rfl, rfl⟩))) ?_
  refine WS.nil ?_
  refine WL.u (o_stA TI34 h2 (show _ = Value.agg #[shr v42, shr v49] from rfl) rfl (by rw [hsh2, hsh9]; rfl) hC2 rfl ?_)
  intro wz hCz hoz hsz
  replace hrow42 := own_only hrow42 hoz (fun b hb he => by subst he; exact own_off hrow42 hC2 (by decide) hb)
  replace hown49 := own_only hown49 hoz (fun b hb he => by subst he; exact own_off hown49 hC2 (by decide) hb)
  replace htys := htys.only hoz (fun j hj b hb he => by subst he; exact own_off (htys.row j hj) hC2 (by decide) hb)
  replace hx := hx.trans' hoz (fun _ h => h) (fun b hb he => by omega)
  refine WL.nil ?_
  refine W.ret ?_
  refine retC rfl TI34 rfl h2 ((show Cells _ c2 0 [shr v42, shr v49] from Cells.of hCz 0 _ (by simp))) rfl ?_
  exact ⟨v42, v49, U, rfl, ⟨hrow42, htys, hown49⟩, hx⟩
set_option maxHeartbeats 4000000 in
theorem marked9_spec (L : List Tp) (R : List Ro) (H : Nat) (tW rW : Value) (U : Nat → Value) (w0 : World) (hL : LentT w0 H L R tW rW U) (hlL : LLim L) (hlR : RLim R) : Ca Try.prog 18 #[.agg #[shr tW, shr rW]] w0 (fun v w' => v = .bool true ∧ Ext w0 w') := by
  have hlen := hlL.len
  have hlr := hlR.len
  obtain ⟨g2, cap2, rfl, hg2⟩ := own_some hL.row (by omega)
  have hcp2 : L.length + 1 ≤ cap2 := by obtain ⟨_, _, hv, hh⟩ := own_form hL.row; cases hv; exact hh
  obtain ⟨g9, cap9, rfl, hg9⟩ := own_some hL.ro (by omega)
  have hcp9 : R.length + 1 ≤ cap9 := by obtain ⟨_, _, hv, hh⟩ := own_form hL.ro; cases hv; exact hh
  rw [shr_s, shr_s]
  refine Ca.of Try.func18 Try.ntmps18 rfl rfl ?_
  refine W.seq ?_
  refine W.region ?_
  refine WL.c rfl (o_boxB rfl ?_)
  intro w1 hC1 hx1 hs1
  obtain ⟨b1, hb1⟩ : ∃ b, b = w0.heap.size := ⟨_, rfl⟩
  rw [← hb1] at hC1 ⊢
  replace hC1 : w1.heap[b1]? = some (.cells ([.slice (some ⟨g2, 0, none⟩) L.length cap2, .slice (some ⟨g9, 0, none⟩) R.length cap9]).toArray 34 (0, 0)) := hC1
  have hx := hx1
  refine WL.c rfl (o_ash (show _ = Value.bool _ from rfl) ?_)
  refine WL.nil ?_
  refine W.seq ?_
  refine W.region ?_
  refine WL.c rfl (o_fa 0 TI34 rfl TI31 rfl rfl ?_)
  refine WL.c rfl (o_ld TI31 rfl rfl (cell_of hC1 rfl) ?_)
  refine WL.c rfl (o_len TI31 rfl ?_)
  refine WL.c rfl (o_ash (show _ = Value.int _ _ from rfl) ?_)
  refine WL.nil ?_
  refine W.seq ?_
  refine W.seq ?_
  refine W.region ?_
  refine WL.c rfl (o_fa 0 TI34 rfl TI31 rfl rfl ?_)
  refine WL.c rfl (o_ld TI31 rfl rfl (cell_of hC1 rfl) ?_)
  refine WL.c rfl (o_mvh (show _ = Value.int _ _ from rfl) ?_)
  refine WL.c rfl (o_addi rfl rfl (by omega) ?_)
  refine WL.c rfl (o_slv (h := L.length + 1) TI31 TI50 (show _ = Value.slice (some ⟨g2, 0, none⟩) L.length cap2 from rfl) Lo.n (Hi.s rfl) (Nat.zero_le _) (by omega) ?_)
  rw [sliced0]
  refine WL.c rfl (o_mvh (show _ = Value.int _ _ from rfl) ?_)
  refine WL.c rfl (o_ixB (i := L.length) TI31 TI50 (show _ = Value.slice (some ⟨g2, 0, none⟩) (L.length + 1) cap2 from rfl) rfl (by omega) ?_)
  refine WL.c rfl (o_fa 0 TI50 rfl TI3 rfl rfl ?_)
  refine WL.c rfl (o_ld TI3 rfl rfl (own_cell (j := 0 + L.length * 4 + 0) (hL.ext hx).row (by rw [Nat.zero_add]; exact mark_get (trows_len _ _) rfl)) ?_)
  refine WL.c rfl (o_ne rfl rfl ?_)
  refine WL.nil ?_
  refine W.condF' rfl (by decide) ?_
  refine W.skip ?_
  refine W.seq ?_
  refine W.seq ?_
  refine W.region ?_
  refine WL.c rfl (o_ash (show _ = Value.int _ _ from rfl) ?_)
  refine WL.nil ?_
  refine W.block ?_
  refine W.loop (fun e w => ∃ i : Nat, i ≤ L.length ∧ e 1 = .pointer (some ⟨b1, 0, none⟩) ∧ e 3 = .int .i64 (L.length : Int) ∧ e 4 = .int .i64 (i : Int) ∧ w.heap[b1]? = some (.cells ([.slice (some ⟨g2, 0, none⟩) L.length cap2, .slice (some ⟨g9, 0, none⟩) R.length cap9]).toArray 34 (0, 0)) ∧ Ext w0 w) (fun e w => L.length - (intOf (e 4)).toNat) ?_ ?_
  · exact ⟨0, Nat.zero_le _, rfl, rfl, rfl, hC1, hx⟩
  rintro e w ⟨i, hi, h1, h3, h4, hC1, hx⟩
  have hm4 := h4
  refine W.seq ?_
  refine W.seq ?_
  refine W.region ?_
  refine WL.c rfl (o_mvh h4 ?_)
  refine WL.c rfl (o_mvh h3 ?_)
  refine WL.c rfl (o_lt rfl rfl ?_)
  refine WL.nil ?_
  refine W.cond rfl (fun c22 => ?_) (fun c22 => ?_)
  · try simp only [cs8] at c22
    have hi1 : i < L.length := by omega
    have hrow := (hL.ext hx).row
    have hrw := (hL.ext hx).tys.row i hi1
    obtain ⟨g5, cap5, hU, hgb5⟩ := own_some hrw (by show 0 < (pasT L i).length + 1; omega)
    have hvi : (trows L (fun j => shr (U j)) ++ tcell tpK (.slice none 0 0))[i * 4 + 3]? = some (shr (U i)) := by
      rw [List.getElem?_append_left (by rw [trows_len]; omega), trows_get hi1 (by decide)]; rfl
    rw [hU] at hrw hvi
    have hcp5 : (pasT L i).length + 1 ≤ cap5 := by obtain ⟨_, _, hv, hh⟩ := own_form hrw; cases hv; exact hh
    have htl := (hlL.ty _ (List.getElem_mem hi1)).len
    rw [← pasT_at hi1] at htl
    obtain ⟨n, hn⟩ : ∃ n, n = (pasT L i).length := ⟨_, rfl⟩
    rw [lenP, ← hn] at hrw hvi
    rw [shr_s] at hvi
    rw [← hn] at hcp5 htl
    refine W.skip ?_
    refine W.seq ?_
    refine W.block ?_
    refine W.seq ?_
    refine W.region ?_
    refine WL.c rfl (o_fa 0 TI34 rfl TI31 rfl h1 ?_)
    refine WL.c rfl (o_ld TI31 rfl rfl (cell_of hC1 rfl) ?_)
    refine WL.c rfl (o_mvh h4 ?_)
    refine WL.c rfl (o_ixB (i := i) TI31 TI50 (show _ = Value.slice (some ⟨g2, 0, none⟩) L.length cap2 from rfl) (show _ = Value.int .i64 (i : Int) from rfl) (by omega) ?_)
    refine WL.c rfl (o_fa 3 TI50 rfl TI48 rfl rfl ?_)
    refine WL.c rfl (o_ld TI48 rfl rfl (own_cell (j := 0 + i * 4 + 3) hrow (by rw [Nat.zero_add]; exact hvi)) ?_)
    refine WL.c rfl (o_len (n := n) (c := cap5) TI48 rfl ?_)
    refine WL.c rfl (o_ash (show _ = Value.int _ _ from rfl) ?_)
    refine WL.nil ?_
    refine W.seq ?_
    refine W.region ?_
    refine WL.c rfl (o_fa 0 TI34 rfl TI31 rfl h1 ?_)
    refine WL.c rfl (o_ld TI31 rfl rfl (cell_of hC1 rfl) ?_)
    refine WL.c rfl (o_mvh h4 ?_)
    refine WL.c rfl (o_ixB (i := i) TI31 TI50 (show _ = Value.slice (some ⟨g2, 0, none⟩) L.length cap2 from rfl) (show _ = Value.int .i64 (i : Int) from rfl) (by omega) ?_)
    refine WL.c rfl (o_fa 3 TI50 rfl TI48 rfl rfl ?_)
    refine WL.c rfl (o_ld TI48 rfl rfl (own_cell (j := 0 + i * 4 + 3) hrow (by rw [Nat.zero_add]; exact hvi)) ?_)
    refine WL.c rfl (o_mvh (show _ = Value.int _ _ from rfl) ?_)
    refine WL.c rfl (o_addi rfl rfl (by omega) ?_)
    refine WL.c rfl (o_slv (h := n + 1) TI48 TI52 (show _ = Value.slice (some ⟨g5, 0, none⟩) n cap5 from rfl) Lo.n (Hi.s rfl) (Nat.zero_le _) (by omega) ?_)
    rw [sliced0]
    refine WL.c rfl (o_mvh (show _ = Value.int _ _ from rfl) ?_)
    refine WL.c rfl (o_ixB (i := n) TI48 TI52 (show _ = Value.slice (some ⟨g5, 0, none⟩) (n + 1) cap5 from rfl) rfl (by omega) ?_)
    refine WL.c rfl (o_ldA TI52 rfl rfl (show Cells _ g5 (0 + n * 3) (paV paK) from fun k v hv => by rw [Nat.zero_add]; exact own_cell hrw (mark_get (by rw [pas_len, hn]) hv)) rfl ?_)
    refine WL.c rfl (o_bldC (cs := [(st [109, 97, 114, 107]), (.int .i64 7), (.int .i64 0)]) TI52 (Sizes.cons TI9 (Sizes.cons TI3 (Sizes.cons TI3 Sizes.nil))) rfl (lcp (show _ = Value.string _ from rfl) (lcp (show _ = Value.int _ _ from rfl) lnp)) rfl rfl ?_)
    refine WL.c rfl (o_neR TI52 (by kernel_rfl) (by kernel_rfl) rfl rfl (.str TI9 (by decide) rfl rfl (.int TI3 (by decide) rfl rfl (.int TI3 (by decide) rfl rfl .nil))) ?_)
    refine WL.nil ?_
    refine W.condF' rfl (by simp [paK]) ?_
    refine W.skip ?_
    refine W.region ?_
    refine WL.c rfl (o_mvh h4 ?_)
    refine WL.c rfl (o_addi rfl rfl (by omega) ?_)
    refine WL.c rfl (o_ash (show _ = Value.int _ _ from rfl) ?_)
    refine WL.nil ?_
    refine ⟨⟨i + 1, by omega, h1, h3, rfl, hC1, hx⟩, ?_⟩
    show L.length - ((i : Int) + 1).toNat < _
    rw [hm4]; simp [intOf]; omega
  try simp only [cs8] at c22
  have hi1 : i = L.length := by omega
  refine W.exit ?_
  refine W.seq ?_
  refine W.region ?_
  refine WL.c rfl (o_fa 1 TI34 rfl TI32 rfl h1 ?_)
  refine WL.c rfl (o_ld TI32 rfl rfl (cell_of hC1 rfl) ?_)
  refine WL.c rfl (o_len TI32 rfl ?_)
  refine WL.c rfl (o_ash (show _ = Value.int _ _ from rfl) ?_)
  refine WL.nil ?_
  refine W.seq ?_
  refine W.region ?_
  refine WL.c rfl (o_fa 1 TI34 rfl TI32 rfl h1 ?_)
  refine WL.c rfl (o_ld TI32 rfl rfl (cell_of hC1 rfl) ?_)
  refine WL.c rfl (o_mvh (show _ = Value.int _ _ from rfl) ?_)
  refine WL.c rfl (o_addi rfl rfl (by omega) ?_)
  refine WL.c rfl (o_slv (h := R.length + 1) TI32 TI47 (show _ = Value.slice (some ⟨g9, 0, none⟩) R.length cap9 from rfl) Lo.n (Hi.s rfl) (Nat.zero_le _) (by omega) ?_)
  rw [sliced0]
  refine WL.c rfl (o_mvh (show _ = Value.int _ _ from rfl) ?_)
  refine WL.c rfl (o_ixB (i := R.length) TI32 TI47 (show _ = Value.slice (some ⟨g9, 0, none⟩) (R.length + 1) cap9 from rfl) rfl (by omega) ?_)
  refine WL.c rfl (o_ldA TI47 rfl rfl (show Cells _ g9 (0 + R.length * 2) (roV roK) from fun k v hv => by rw [Nat.zero_add]; exact own_cell (hL.ext hx).ro (mark_get (ros_len _) hv)) rfl ?_)
  refine WL.c rfl (o_bldC (cs := [(st [109, 97, 114, 107]), (.int .i64 7)]) TI47 (Sizes.cons TI9 (Sizes.cons TI3 Sizes.nil)) rfl (lcp (show _ = Value.string _ from rfl) (lcp (show _ = Value.int _ _ from rfl) lnp)) rfl rfl ?_)
  refine WL.c rfl (o_eqR TI47 (by kernel_rfl) (by kernel_rfl) rfl rfl (.str TI9 (by decide) rfl rfl (.int TI3 (by decide) rfl rfl .nil)) ?_)
  refine WL.c rfl (o_ash (show _ = Value.bool _ from rfl) ?_)
  refine WL.nil ?_
  refine W.ret ?_
  refine ret1v rfl (show _ = Value.bool _ from rfl) ?_
  exact ⟨by simp [roK], hx⟩
end Go.Proofs.Ytpbflfgigfdohaa

set_option linter.unusedSimpArgs false
set_option linter.unusedVariables false
set_option maxRecDepth 100000
namespace Go.Proofs.Ytpbflfgigfdohaa
open Go Go.Vc Go.RowKit Go.Proofs

section
variable {H : Type} {enc : TypeId × Value → H} {W : World} {held : Bool}
theorem four_cells {cs : List Value} (h : cs.length = 4) : ∃ a b c d, cs = [a, b, c, d] := by
  match cs, h with
  | [a, b, c, d], _ => exact ⟨a, b, c, d, rfl⟩
theorem two_cells {cs : List Value} (h : cs.length = 2) : ∃ a b, cs = [a, b] := by
  match cs, h with
  | [a, b], _ => exact ⟨a, b, rfl⟩
def PaOk (p : Pa) : Prop := p.label.length ≤ 9223372036854775807 ∧ -9223372036854775808 ≤ p.tag ∧ p.tag ≤ 9223372036854775807
theorem wf_rng {k : Int} (h : (Lit.int .i64 k).wf = true) : -9223372036854775808 ≤ k ∧ k ≤ 9223372036854775807 := by
  simp [Lit.wf, IntKind.min, IntKind.max, IntKind.signed, IntKind.bits] at h; omega
theorem open_part {n : Nat} {cs : List Value} {y : DataW H × List MemPlace} (h : DataW.trod enc Try.prog W 0 (fun _ => true) held n 52 cs = some y) (hz : Small Try.prog 52 y.1) : ∃ p : Pa, cs = paV p ∧ PaOk p := by
  have hl := open_struct_len (s := 3) Try.underlying52 (by kernel_rfl) h
  obtain ⟨a, b, c, rfl⟩ := three_cells hl
  obtain ⟨n0, y0, h0, -⟩ := open_field 0 0 1 Try.underlying52 rfl rfl rfl (by kernel_rfl) h hz
  obtain ⟨n1, y1, h1, -⟩ := open_field 1 1 1 Try.underlying52 rfl rfl rfl (by kernel_rfl) h hz
  obtain ⟨n2, y2, h2, -⟩ := open_field 2 2 1 Try.underlying52 rfl rfl rfl (by kernel_rfl) h hz
  obtain ⟨k0, e0, -, l0⟩ := DataW.trod_string Try.underlying9 h0
  obtain ⟨k1, e1, -, w1⟩ := DataW.trod_int Try.underlying3 h1
  obtain ⟨k2, e2, -, -⟩ := DataW.trod_int Try.underlying3 h2
  simp only [List.drop_zero, List.drop_succ_cons, List.take_succ_cons, List.take_zero, List.cons.injEq, and_true] at e0 e1 e2
  refine ⟨⟨k0.data.toList, k1, k2⟩, ?_, size_list l0, wf_rng w1⟩
  rw [e0, e1, e2, str_list]
  rfl
theorem open_parts {n : Nat} {v : Value} {y : DataW H × List MemPlace} (h : DataW.trod enc Try.prog W 0 (fun _ => true) held n 48 [v] = some y) (hz : Small Try.prog 48 y.1) :
    ∃ l : List Pa, Sl W 3 v l.length (pas l) ∧ l.length * 32 ≤ 140737488351232 ∧ ∀ x ∈ l, PaOk x := by
  obtain ⟨l, -, h1, h2⟩ := open_rows 3 paV PaOk Try.underlying48 (by kernel_rfl) (by decide) (fun _ => rfl) (fun n cs y hy hz => open_part hy hz) (v := v) h hz
  refine ⟨l, h1, ?_, h2⟩
  obtain ⟨a, c, rfl⟩ := h1.isSlice
  have := rows_bytes Try.underlying48 h hz
  rw [show (Try.prog).bytesOf 52 = 32 by kernel_rfl, reachBytes] at this
  exact this
abbrev TpV := Tp × Value
def tpV (o : TpV) : List Value := tcell o.1 o.2
def TpOk (W : World) (o : TpV) : Prop := Sl W 3 o.2 o.1.parts.length (pas o.1.parts) ∧ o.1.parts.length * 32 ≤ 140737488351232 ∧ ∀ x ∈ o.1.parts, PaOk x
theorem open_type {n : Nat} {cs : List Value} {y : DataW H × List MemPlace} (h : DataW.trod enc Try.prog W 0 (fun _ => true) held n 50 cs = some y) (hz : Small Try.prog 50 y.1) : ∃ o : TpV, cs = tpV o ∧ TpOk W o := by
  have hl := open_struct_len (s := 4) Try.underlying50 (by kernel_rfl) h
  obtain ⟨a, b, c, d, rfl⟩ := four_cells hl
  obtain ⟨n0, y0, h0, -⟩ := open_field 0 0 1 Try.underlying50 rfl rfl rfl (by kernel_rfl) h hz
  obtain ⟨n1, y1, h1, -⟩ := open_field 1 1 1 Try.underlying50 rfl rfl rfl (by kernel_rfl) h hz
  obtain ⟨n2, y2, h2, -⟩ := open_field 2 2 1 Try.underlying50 rfl rfl rfl (by kernel_rfl) h hz
  obtain ⟨n3, y3, h3, z3⟩ := open_field 3 3 1 Try.underlying50 rfl rfl rfl (by kernel_rfl) h hz
  obtain ⟨k0, e0, -, -⟩ := DataW.trod_int Try.underlying3 h0
  obtain ⟨k1, e1, -, -⟩ := DataW.trod_int Try.underlying3 h1
  obtain ⟨k2, e2, -, -⟩ := DataW.trod_int Try.underlying3 h2
  obtain ⟨l, hS, hb, hok⟩ := open_parts h3 z3
  simp only [List.drop_zero, List.drop_succ_cons, List.take_succ_cons, List.take_zero, List.cons.injEq, and_true] at e0 e1 e2
  refine ⟨(⟨k0, k1, k2, l⟩, d), ?_, hS, hb, hok⟩
  rw [e0, e1, e2]
  rfl
theorem open_types {n : Nat} {v : Value} {y : DataW H × List MemPlace} (h : DataW.trod enc Try.prog W 0 (fun _ => true) held n 31 [v] = some y) (hz : Small Try.prog 31 y.1) : ∃ L V, TypR W L v V ∧ LLim L := by
  obtain ⟨os, -, h1, h2⟩ := open_rows 4 tpV (TpOk W) Try.underlying31 (by kernel_rfl) (by decide) (fun _ => rfl) (fun n cs y hy hz => open_type hy hz) (v := v) h hz
  have hb : os.length * 48 ≤ 140737488351232 := by
    obtain ⟨b, c, rfl⟩ := h1.isSlice
    have := rows_bytes Try.underlying31 h hz
    rw [show (Try.prog).bytesOf 50 = 48 by kernel_rfl, reachBytes] at this
    exact this
  have hg : ∀ j (hj : j < os.length), (os.map Prod.fst).getD j tp0 = os[j].1 := fun j hj => by simp [List.getD_eq_getElem?_getD, hj]
  have hr : trows (os.map Prod.fst) (fun j => (os.getD j (tp0, undef)).2) = os.flatMap tpV := by
    rw [trows, List.length_map]
    have : ∀ (n : Nat), n ≤ os.length → ((List.range n).flatMap fun j => tcell ((os.map Prod.fst).getD j tp0) ((os.getD j (tp0, undef)).2)) = (os.take n).flatMap tpV := by
      intro n
      induction n with
      | zero => intro _; rfl
      | succ n ih =>
        intro hn
        rw [List.range_succ, List.flatMap_append, ih (by omega), List.flatMap_singleton, hg n hn, List.take_add_one, List.flatMap_append]
        simp [List.getD_eq_getElem?_getD, List.getElem?_eq_getElem (show n < os.length by omega), tpV]
    rw [this _ (Nat.le_refl _), List.take_length]
  refine ⟨os.map Prod.fst, fun j => (os.getD j (tp0, undef)).2, ⟨?_, fun j hj => ?_⟩, ⟨by rw [List.length_map]; exact hb, fun t ht => ?_⟩⟩
  · rw [hr, List.length_map]; exact h1
  · have hj' : j < os.length := by simpa using hj
    have := h2 os[j] (List.getElem_mem hj')
    rw [pasT, hg j hj']
    have e : (os.getD j (tp0, undef)) = os[j] := by simp [List.getD_eq_getElem?_getD, hj']
    rw [e]
    exact this.1
  obtain ⟨o, ho, rfl⟩ := List.mem_map.1 ht
  obtain ⟨-, g1, g2⟩ := h2 o ho
  exact ⟨g1, fun p hp => (g2 p hp).1, fun p hp => (g2 p hp).2⟩
def RoOk (r : Ro) : Prop := r.name.length ≤ 9223372036854775807
theorem open_root {n : Nat} {cs : List Value} {y : DataW H × List MemPlace} (h : DataW.trod enc Try.prog W 0 (fun _ => true) held n 47 cs = some y) (hz : Small Try.prog 47 y.1) : ∃ r : Ro, cs = roV r ∧ RoOk r := by
  have hl := open_struct_len (s := 2) Try.underlying47 (by kernel_rfl) h
  obtain ⟨a, b, rfl⟩ := two_cells hl
  obtain ⟨n0, y0, h0, -⟩ := open_field 0 0 1 Try.underlying47 rfl rfl rfl (by kernel_rfl) h hz
  obtain ⟨n1, y1, h1, -⟩ := open_field 1 1 1 Try.underlying47 rfl rfl rfl (by kernel_rfl) h hz
  obtain ⟨k0, e0, -, l0⟩ := DataW.trod_string Try.underlying9 h0
  obtain ⟨k1, e1, -, -⟩ := DataW.trod_int Try.underlying3 h1
  simp only [List.drop_zero, List.drop_succ_cons, List.take_succ_cons, List.take_zero, List.cons.injEq, and_true] at e0 e1
  refine ⟨⟨k0.data.toList, k1⟩, ?_, size_list l0⟩
  rw [e0, e1, str_list]
  rfl
theorem open_roots {n : Nat} {v : Value} {y : DataW H × List MemPlace} (h : DataW.trod enc Try.prog W 0 (fun _ => true) held n 32 [v] = some y) (hz : Small Try.prog 32 y.1) :
    ∃ l : List Ro, Sl W 2 v l.length (ros l) ∧ RLim l := by
  obtain ⟨l, -, h1, h2⟩ := open_rows 2 roV RoOk Try.underlying32 (by kernel_rfl) (by decide) (fun _ => rfl) (fun n cs y hy hz => open_root hy hz) (v := v) h hz
  refine ⟨l, h1, ?_, h2⟩
  obtain ⟨a, c, rfl⟩ := h1.isSlice
  have := rows_bytes Try.underlying32 h hz
  rw [show (Try.prog).bytesOf 47 = 24 by kernel_rfl, reachBytes] at this
  exact this
theorem open_schema {n : Nat} {cs : List Value} {y : DataW H × List MemPlace} (h : DataW.trod enc Try.prog W 0 (fun _ => true) held n 34 cs = some y) (hz : Small Try.prog 34 y.1) : ∃ L R tv rv V, cs = [tv, rv] ∧ SchR W L R tv rv V ∧ LLim L ∧ RLim R := by
  have hl := open_struct_len (s := 2) Try.underlying34 (by kernel_rfl) h
  obtain ⟨a, b, rfl⟩ := two_cells hl
  obtain ⟨n0, y0, h0, z0⟩ := open_field 0 0 1 Try.underlying34 rfl rfl rfl (by kernel_rfl) h hz
  obtain ⟨n1, y1, h1, z1⟩ := open_field 1 1 1 Try.underlying34 rfl rfl rfl (by kernel_rfl) h hz
  obtain ⟨L, V, g1, g2⟩ := open_types h0 z0
  obtain ⟨R, g3, g4⟩ := open_roots h1 z1
  exact ⟨L, R, a, b, V, rfl, ⟨g1, g3⟩, g2, g4⟩
end

set_option maxHeartbeats 4000000 in
theorem tchecks_walk (w0 : World) (L : List Tp) (R : List Ro) (tv rv : Value) (V : Nat → Value) (hS : SchR w0 L R tv rv V) (hlL : LLim L) (hlR : RLim R) (s : ByteArray) (hs : s.size ≤ maxLen) : Ca Try.prog 5 #[.agg #[tv, rv], .string s] w0 (fun v w' => v = .bool true ∧ Ext w0 w') := by
  have hok := sok_of hlL hlR
  have h1tv := sl_one1 hS.ty.row
  have h1rv := sl_one1 hS.ro
  rw [st_data s]
  obtain ⟨er, her⟩ : ∃ x, x = (scV L R).1 := ⟨_, rfl⟩
  obtain ⟨ea, hea⟩ : ∃ x, x = (scV L R).2 := ⟨_, rfl⟩
  refine Ca.of Try.func5 Try.ntmps5 rfl rfl ?_
  refine W.seq ?_
  refine W.region ?_
  refine WL.c rfl (o_boxB rfl ?_)
  intro w2 hC2 hx2 hs2
  obtain ⟨b2, hb2⟩ : ∃ b, b = w0.heap.size := ⟨_, rfl⟩
  rw [← hb2] at hC2 ⊢
  replace hC2 : w2.heap[b2]? = some (.cells ([tv, rv]).toArray 34 (0, 0)) := hC2
  have hx := hx2
  refine WL.c rfl (o_ash (show _ = Value.bool _ from rfl) ?_)
  refine WL.nil ?_
  refine W.seq ?_
  refine W.seq ?_
  refine W.region ?_
  refine WL.c rfl (o_call Try.call6 ln ((awake9_spec _).mono ?_))
  rintro v12 w12 ⟨rfl, hx12⟩
  replace hx := hx.tr hx12
  replace hC2 := hx12.blk hC2 (fun h => h)
  refine WL.c rfl (o_not' rfl ?_)
  refine WL.nil ?_
  refine W.condF' rfl (by simp) ?_
  refine W.skip ?_
  refine W.seq ?_
  refine W.region ?_
  refine WL.c rfl (o_ldA TI34 rfl rfl (show Cells _ b2 0 [tv, rv] from Cells.of hC2 0 _ (by simp)) rfl ?_)
  refine WL.c rfl (o_call Try.call15 (lc rfl ln) ((own9_spec L R tv rv V _ (hS.ext hx) hlL hlR).mono ?_))
  rintro v15 w15 ⟨tW, rW, U, rfl, hLt, hx15⟩
  replace hx := hx.tr hx15
  replace hC2 := hx15.blk hC2 (fun h => h)
  have h1T := own_one (own_shr hLt.row (trows_len _ _))
  have h1R := own_one (own_shr hLt.ro (ros_len _))
  refine WL.c rfl (o_alB TI34 ?_)
  intro wa hCa hxa hsa
  refine WL.u (o_stA TI34 rfl (show _ = Value.agg ([shr tW, shr rW]).toArray from rfl) rfl (by simp [h1T, h1R]) hCa rfl ?_)
  intro wb5 hC5 hob hsb
  have hxb := Ext.own hxa (Nat.le_refl _) hob
  obtain ⟨b5, hb5⟩ : ∃ b, b = w15.heap.size := ⟨_, rfl⟩
  rw [← hb5] at hC5 ⊢
  clear hCa hxa hsa hob hsb
  replace hx := hx.tr hxb
  replace hC2 := hxb.blk hC2 (fun h => h)
  replace hLt := hLt.ext hxb
  clear hxb
  refine WL.nil ?_
  refine W.seq ?_
  refine W.region ?_
  refine WL.c rfl (o_ldA TI34 rfl rfl (show Cells _ b5 0 [shr tW, shr rW] from Cells.of hC5 0 _ (by simp)) rfl ?_)
  refine WL.c rfl (o_call Try.call9 (lc rfl ln) ((tcheck_spec L R _ _ _ _ hLt.rd hlL hlR).mono ?_))
  rintro v17 w17 ⟨rfl, hx17⟩
  rw [← her, ← hea]
  replace hx := hx.tr hx17
  replace hC2 := hx17.blk hC2 (fun h => h)
  replace hC5 := hx17.blk hC5 (fun h => h)
  replace hLt := hLt.ext hx17
  refine WL.c rfl (o_alB TI28 ?_)
  intro wa hCa hxa hsa
  refine WL.u (o_stA TI28 rfl (show _ = Value.agg ([.int .i64 er, .int .i64 ea]).toArray from rfl) rfl rfl hCa rfl ?_)
  intro wb6 hC6 hob hsb
  have hxb := Ext.own hxa (Nat.le_refl _) hob
  obtain ⟨b6, hb6⟩ : ∃ b, b = w17.heap.size := ⟨_, rfl⟩
  rw [← hb6] at hC6 ⊢
  clear hCa hxa hsa hob hsb
  replace hx := hx.tr hxb
  replace hC2 := hxb.blk hC2 (fun h => h)
  replace hC5 := hxb.blk hC5 (fun h => h)
  replace hLt := hLt.ext hxb
  clear hxb
  refine WL.nil ?_
  refine W.seq ?_
  refine W.region ?_
  refine WL.c rfl (o_ldA TI34 rfl rfl (show Cells _ b5 0 [shr tW, shr rW] from Cells.of hC5 0 _ (by simp)) rfl ?_)
  refine WL.c rfl (o_mvh (show _ = Value.string _ from rfl) ?_)
  refine WL.c rfl (o_call Try.call10 (lc rfl (lc rfl ln)) ((tfind_spec R _ _ s.data.toList _ hLt.rd.ro hlR.len h1T).mono ?_))
  rintro v21 w21 ⟨rfl, hx21⟩
  replace hx := hx.tr hx21
  replace hC2 := hx21.blk hC2 (fun h => h)
  replace hC5 := hx21.blk hC5 (fun h => h)
  replace hC6 := hx21.blk hC6 (fun h => h)
  replace hLt := hLt.ext hx21
  refine WL.c rfl (o_mvh (by first | exact (show _ = Value.tuple _ from rfl) | exact rfl) ?_)
  refine WL.c rfl (o_ext rfl rfl ?_)
  refine WL.c rfl (o_ext rfl rfl ?_)
  refine WL.c rfl (o_ash (show _ = Value.int _ _ from rfl) ?_)
  refine WL.c rfl (o_ash (show _ = Value.int _ _ from rfl) ?_)
  refine WL.nil ?_
  refine W.seq ?_
  refine W.region ?_
  refine WL.c rfl (o_ldA TI34 rfl rfl (show Cells _ b2 0 [tv, rv] from Cells.of hC2 0 _ (by simp)) rfl ?_)
  refine WL.c rfl (o_call Try.call16 (lc rfl ln) ((trcheck_spec L R tv rv V _ (hS.ext hx) hlL hlR).mono ?_))
  rintro v25 w25 ⟨rfl, hx25⟩
  rw [← her, ← hea]
  replace hx := hx.tr hx25
  replace hC2 := hx25.blk hC2 (fun h => h)
  replace hC5 := hx25.blk hC5 (fun h => h)
  replace hC6 := hx25.blk hC6 (fun h => h)
  replace hLt := hLt.ext hx25
  refine WL.c rfl (o_alB TI28 ?_)
  intro wa hCa hxa hsa
  refine WL.u (o_stA TI28 rfl (show _ = Value.agg ([.int .i64 er, .int .i64 ea]).toArray from rfl) rfl rfl hCa rfl ?_)
  intro wb9 hC9 hob hsb
  have hxb := Ext.own hxa (Nat.le_refl _) hob
  obtain ⟨b9, hb9⟩ : ∃ b, b = w25.heap.size := ⟨_, rfl⟩
  rw [← hb9] at hC9 ⊢
  clear hCa hxa hsa hob hsb
  replace hx := hx.tr hxb
  replace hC2 := hxb.blk hC2 (fun h => h)
  replace hC5 := hxb.blk hC5 (fun h => h)
  replace hC6 := hxb.blk hC6 (fun h => h)
  replace hLt := hLt.ext hxb
  clear hxb
  refine WL.nil ?_
  refine W.seq ?_
  refine W.region ?_
  refine WL.c rfl (o_ldA TI34 rfl rfl (show Cells _ b2 0 [tv, rv] from Cells.of hC2 0 _ (by simp)) rfl ?_)
  refine WL.c rfl (o_mvh (show _ = Value.string _ from rfl) ?_)
  refine WL.c rfl (o_call Try.call17 (lc rfl (lc rfl ln)) ((trfind_spec R tv rv s.data.toList _ ((hS.ext hx).ro) hlR.len h1tv).mono ?_))
  rintro v29 w29 ⟨rfl, hx29⟩
  replace hx := hx.tr hx29
  replace hC2 := hx29.blk hC2 (fun h => h)
  replace hC5 := hx29.blk hC5 (fun h => h)
  replace hC6 := hx29.blk hC6 (fun h => h)
  replace hC9 := hx29.blk hC9 (fun h => h)
  replace hLt := hLt.ext hx29
  refine WL.c rfl (o_mvh (by first | exact (show _ = Value.tuple _ from rfl) | exact rfl) ?_)
  refine WL.c rfl (o_ext rfl rfl ?_)
  refine WL.c rfl (o_ext rfl rfl ?_)
  refine WL.c rfl (o_ash (show _ = Value.int _ _ from rfl) ?_)
  refine WL.c rfl (o_ash (show _ = Value.int _ _ from rfl) ?_)
  refine WL.nil ?_
  refine W.seq ?_
  refine W.region ?_
  refine WL.c rfl (o_ldA TI28 rfl rfl (show Cells _ b6 0 [.int .i64 er, .int .i64 ea] from Cells.of hC6 0 _ (by simp)) rfl ?_)
  refine WL.c rfl (o_ldA TI28 rfl rfl (show Cells _ b9 0 [.int .i64 er, .int .i64 ea] from Cells.of hC9 0 _ (by simp)) rfl ?_)
  refine WL.c rfl (o_eqR TI28 (by kernel_rfl) (by kernel_rfl) rfl rfl (.int TI26 (by decide) rfl rfl (.int TI3 (by decide) rfl rfl .nil)) ?_)
  refine WL.c rfl (o_mvh (show _ = Value.bool _ from rfl) ?_)
  refine WL.g rfl (by simp) rfl (o_mvh (show _ = Value.int _ _ from rfl) ?_)
  refine WL.g rfl (by simp) rfl (o_mvh (show _ = Value.int _ _ from rfl) ?_)
  refine WL.g rfl (by simp) rfl (o_eq rfl rfl ?_)
  refine WL.c rfl (o_pickA rfl rfl ?_)
  refine WL.c rfl (o_mvh (show _ = Value.bool _ from rfl) ?_)
  refine WL.g rfl (by simp) rfl (o_mvh (show _ = Value.int _ _ from rfl) ?_)
  refine WL.g rfl (by simp) rfl (o_mvh (show _ = Value.int _ _ from rfl) ?_)
  refine WL.g rfl (by simp) rfl (o_eq rfl rfl ?_)
  refine WL.c rfl (o_pickA rfl rfl ?_)
  refine WL.c rfl (o_mvh (show _ = Value.bool _ from rfl) ?_)
  refine WL.g rfl (by simp) rfl (o_ldA TI34 rfl rfl (show Cells _ b5 0 [shr tW, shr rW] from Cells.of hC5 0 _ (by simp)) rfl ?_)
  refine WL.g rfl (by simp) rfl (o_call Try.call18 (lc rfl ln) ((marked9_spec L R _ tW rW U _ hLt hlL hlR).mono ?_))
  rintro v47 w47 ⟨rfl, hx47⟩
  replace hx := hx.tr hx47
  replace hC2 := hx47.blk hC2 (fun h => h)
  replace hC5 := hx47.blk hC5 (fun h => h)
  replace hLt := hLt.ext hx47
  refine WL.c rfl (o_pickA rfl rfl ?_)
  refine WL.c rfl (o_mvh (show _ = Value.bool _ from rfl) ?_)
  refine WL.g rfl (by simp) rfl (o_ldA TI34 rfl rfl (show Cells _ b5 0 [shr tW, shr rW] from Cells.of hC5 0 _ (by simp)) rfl ?_)
  refine WL.g rfl (by simp) rfl (o_ldA TI34 rfl rfl (show Cells _ b2 0 [tv, rv] from Cells.of hC2 0 _ (by simp)) rfl ?_)
  refine WL.g rfl (by simp) rfl (o_call Try.call13 (lc rfl (lc rfl ln)) ((same_A9 L R _ _ _ L R tv rv V _ hLt.rd (hS.ext hx) hok hok ⟨rfl, rfl⟩).mono ?_))
  rintro v52 w52 ⟨rfl, hx52⟩
  replace hx := hx.tr hx52
  refine WL.c rfl (o_pickA rfl rfl ?_)
  refine WL.c rfl (o_ash (show _ = Value.bool _ from rfl) ?_)
  refine WL.nil ?_
  refine W.ret ?_
  refine ret1v rfl (show _ = Value.bool _ from rfl) ?_
  exact ⟨congrArg Value.bool (by simp), hx⟩
end Go.Proofs.Ytpbflfgigfdohaa
