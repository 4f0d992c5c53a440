/-
  Walks and lemmas. Written by program out of specs of mine.
-/
import Derived.WalkKit
import Derived.WalkSpells
import Derived.WalkLawsBesides
import Derived.Deep.Quiet
import Derived.StillTail
import Derived.StringKeys
import Derived.Laws.StructEq
import Derived.Laws.Externs
import Derived.Laws.Tables
import Derived.Scope
import Derived.Test.YtpbflfgigfdohaaProg
import Derived.Laws.AppendOwn
import Derived.Maps.AppendAt
import Derived.Recover
import Derived.Lib.Bytealg
import Derived.SizedLaws
import Derived.ChangeArms
import Derived.ChangeSlices
import Derived.Maps.OwnSet
import Derived.Test.YtpbflfgigfdohaaRows
import Derived.ProofKit
import Derived.OpenShut
import Derived.ShutString
import Derived.ChangeOld
import Derived.Below
import Derived.Test.YtpbflfgigfdohaaKc5
set_option linter.unusedSimpArgs false
set_option linter.unusedVariables false
set_option maxRecDepth 100000
set_option linter.unusedSimpArgs false
set_option linter.unusedVariables false
namespace Go.Vc
open Go Go.RowKit Go.Maps Go.ChangeMaps
/-- block b of w is a map of just m entries in which g stands -/
def MapN (P : Program) (k e : TypeId) {α : Type} (en : α → Lit) (w : World) (b m : Nat) (g : α → Option Int) : Prop :=
  ∃ D : DataW Unit, w.ownsMap P k (plainElem P e) b m D ∧ Maps.size D = m ∧ ∀ a, Maps.has D (en a) = (g a).isSome ∧ ∀ v, g a = some v → D.atKey (en a) (.lit (.int .i64 0)) = .lit (.int .i64 v)
section
variable {P : Program} {e : Env} {w : World} {K : Value → World → Prop} {ty : TypeId} {α : Type} {en : α → Lit} {t kt et : TypeId} {b m : Nat} {g : α → Option Int}
theorem MapN.is (h : MapN P kt et en w b m g) : MapIs P kt et en w b m g := by obtain ⟨D, h1, -, h2⟩ := h; exact ⟨D, h1, h2⟩
theorem MapN.made (P : Program) (kt et : TypeId) (en : α → Lit) (w : World) : MapN P kt et en (w.alloc (.map #[] 0)) w.heap.size 0 (fun _ => none) :=
  ⟨_, World.ownsMap_made w P kt _, rfl, fun a => ⟨rfl, fun v h => by cases h⟩⟩
theorem MapN.lt (h : MapN P kt et en w b m g) : b < w.heap.size := h.is.lt
theorem MapN.only {w' : World} {F : Nat → Prop} (h : MapN P kt et en w b m g) (ho : Only F w w') (hn : ¬ F b) : MapN P kt et en w' b m g := by
  obtain ⟨D, h, hs, r⟩ := h
  have hlt := h.lt
  obtain ⟨es, clock, hb, Ft, hz, hD⟩ := h
  exact ⟨D, ⟨es, clock, (ho.block b hlt hn).trans hb, Ft, hz, hD⟩, hs, r⟩
theorem MapN.ext {w' : World} (h : MapN P kt et en w b m g) (ho : Only No w w') : MapN P kt et en w' b m g := h.only ho (fun h => h)
theorem ownsMap_exact {k : TypeId} {R : Value → Option (DataW Unit × List MemPlace)} {n : Nat} {D : DataW Unit} (h : w.ownsMap P k R b n D) : w.ownsMap P k R b (Maps.size D) D := by
  obtain ⟨es, clock, hb, F, hs, rfl⟩ := h
  exact ⟨es, clock, hb, F, by simp [Maps.size, length_sorted], rfl⟩
/-- 'len(m)' -/
theorem o_lenM {x : Operand} (ht : P.underlying t = some (.map kt et)) (hx : ev e x = .map (some b)) (hM : MapN P kt et en w b m g) (k : K (.int .i64 (m : Int)) w) : OP P e (.call ⟨.builtin .len, #[x], #[t]⟩) ty w K := by
  obtain ⟨D, hown, hs, -⟩ := hM
  have h := hown.len ht ty
  rw [hs] at h
  exact OP.of (by simp [execOp, resolve, invoke, builtin, hx, h]) k
/-- 'm[k] = v' -/
theorem o_muN [DecidableEq α] {x y z : Operand} {key : Value} {a : α} {v : Int} (hen : ∀ a b, en a = en b → a = b) (hT : MTy P t kt et) (hx : ev e x = .map (some b)) (hM : MapN P kt et en w b m g) (hy : ev e y = key) (hkl : keyOf P kt key = some (en a))
    (hv : ev e z = .int .i64 v) (hw : (Lit.int .i64 v).wf = true) (hn : m < maxLen)
    (kk : ∀ w', MapN P kt et en w' b (if (g a).isSome then m else m + 1) (fun c => if c = a then some v else g c) → Only (fun k => k = b) w w' → w'.heap.size = w.heap.size → K undef w') : OP P e (.mapUpdate t x y z) ty w K := by
  obtain ⟨D, hown, hs, hD⟩ := hM
  obtain ⟨w', hrun, hown', es, clock, es', clock', hb, hw'⟩ := hown.store hT.kd hT.ht hn hkl (plainElem_int hT.he hw)
  have hsz := Maps.size_put (k := en a) (hown.tidy hT.kd) (.lit (.int .i64 v))
  rw [hs, (hD a).1] at hsz
  refine OP.ofS (w' := w') (by simp [execOp, hx, hy, hv, hrun]) (kk w' ⟨_, by rw [← hsz]; exact ownsMap_exact hown', hsz, fun c => ?_⟩ ?_ ?_)
  · have hK := hT.kd.key hkl
    by_cases hc : c = a
    · subst hc
      simp only [if_true]
      rw [has_put_same hown.isMap hK]
      refine ⟨rfl, fun u hu => ?_⟩
      cases hu
      exact atKey_put_same hown.isMap hK _ _
    have hne : en c ≠ en a := fun h => hc (hen _ _ h)
    simp only [if_neg hc]
    rw [has_put_other hne]
    refine ⟨(hD c).1, fun u hu => ?_⟩
    rw [atKey_put_other hne]
    exact (hD c).2 u hu
  · subst hw'
    exact ⟨rfl, rfl, rfl, by simp [setBlock], fun k _ hk => heap_setBlock_other hb _ (fun e => hk e)⟩
  subst hw'
  simp [setBlock]
end
end Go.Vc

set_option linter.unusedSimpArgs false
set_option linter.unusedVariables false
set_option maxRecDepth 100000
namespace Go.Proofs.Ytpbflfgigfdohaa
open Go Go.Vc Go.RowKit Go.Proofs

open Classical in
noncomputable def partsB (t : Tp) (at_ most : Int) : Bool := decide (1 ≤ t.parts.length ∧ (t.parts.length : Int) ≤ most ∧ ∀ k, k < t.parts.length → paOk t at_ k)
theorem partsB_no {t : Tp} {at_ most : Int} {q : Nat} (hq : q < t.parts.length) (h : ¬ paOk t at_ q) : partsB t at_ most = false := by
  unfold partsB
  simp only [decide_eq_false_iff_not]
  exact fun hh => h (hh.2.2 q hq)
theorem partsB_len {t : Tp} {at_ most : Int} (h : ¬ (1 ≤ t.parts.length ∧ (t.parts.length : Int) ≤ most)) : partsB t at_ most = false := by
  unfold partsB
  simp only [decide_eq_false_iff_not]
  exact fun hh => h ⟨hh.1, hh.2.1⟩
theorem partsB_yes {t : Tp} {at_ most : Int} (h : 1 ≤ t.parts.length ∧ (t.parts.length : Int) ≤ most) (hk : ∀ k, k < t.parts.length → paOk t at_ k) : partsB t at_ most = true := by
  unfold partsB
  simp only [decide_eq_true_eq]
  exact ⟨h.1, h.2, hk⟩
def lbW (t : Tp) (p : Pa) : List UInt8 := if t.kind = 8 then p.label else []
def tgW (t : Tp) (p : Pa) : Int := if t.kind = 8 then 0 else p.tag
/-- the parts ahead of the k'th, in maps -/
structure PMap (t : Tp) (k nl nt : Nat) (gl : List UInt8 → Option Int) (gt : Int → Option Int) : Prop where
  lab : t.kind = 8 → nt = 0 ∧ ∀ s, (gl s).isSome = (t.parts.take k).any (fun z => decide (z.label = s))
  tag : ¬ t.kind = 8 → nl = 0 ∧ ∀ z, (gt z).isSome = (t.parts.take k).any (fun p => decide (p.tag = z))
  le : nl ≤ k ∧ nt ≤ k
theorem PMap.zero (t : Tp) : PMap t 0 0 0 (fun _ => none) (fun _ => none) := ⟨fun _ => ⟨rfl, fun _ => rfl⟩, fun _ => ⟨rfl, fun _ => rfl⟩, Nat.le_refl _, Nat.le_refl _⟩
theorem any_take {α : Type} {l : List α} {k : Nat} (hk : k ≤ l.length) (f : α → Bool) : (l.take k).any f = true ↔ ∃ j, ∃ hj : j < k, f (l[j]'(by omega)) = true := by
  rw [List.any_eq_true]
  constructor
  · rintro ⟨x, hx, hf⟩
    obtain ⟨j, hj, rfl⟩ := List.getElem_of_mem hx
    simp only [List.length_take] at hj
    exact ⟨j, by omega, by simpa using hf⟩
  rintro ⟨j, hj, hf⟩
  exact ⟨_, List.mem_take_iff_getElem.2 ⟨j, by omega, rfl⟩, hf⟩
theorem any_snoc {α : Type} {l : List α} {k : Nat} (hk : k < l.length) (f : α → Bool) : (l.take (k + 1)).any f = ((l.take k).any f || f l[k]) := by
  rw [List.take_succ_eq_append_getElem hk, List.any_append]; simp
theorem PMap.step8 {t : Tp} {q nl nt : Nat} {gl : List UInt8 → Option Int} {gt : Int → Option Int} (h : PMap t q nl nt gl gt) (hq : q < t.parts.length) (h8 : t.kind = 8) (hs : nl + nt = q) (v : Int) :
    PMap t (q + 1) (if (gl t.parts[q].label).isSome = true then nl else nl + 1) nt (fun c => if c = t.parts[q].label then some v else gl c) gt ∧
    ((if (gl t.parts[q].label).isSome = true then nl else nl + 1) + nt = q + 1 ↔ ∀ j (hj : j < q), ¬ (lbW t t.parts[j] = lbW t t.parts[q] ∧ tgW t t.parts[j] = tgW t t.parts[q])) := by
  obtain ⟨h0, hl⟩ := h.lab h8
  have hle := h.le
  refine ⟨⟨fun _ => ⟨h0, fun s => ?_⟩, fun hn => absurd h8 hn, ?_⟩, ?_⟩
  · rw [any_snoc hq, ← hl s]
    by_cases e : s = t.parts[q].label
    · simp [e]
    have e2 : ¬ t.parts[q].label = s := fun h => e h.symm
    simp [e, e2]
  · split <;> omega
  have hseen := hl t.parts[q].label
  have hb : (gl t.parts[q].label).isSome = true ↔ ∃ j, ∃ hj : j < q, (t.parts[j]'(by omega)).label = t.parts[q].label := by
    rw [hseen, any_take (by omega)]; simp
  simp only [lbW, tgW, if_pos h8, and_true]
  by_cases hc : (gl t.parts[q].label).isSome = true
  · rw [if_pos hc]
    refine ⟨fun e => by omega, fun hh => ?_⟩
    obtain ⟨j, hj, e⟩ := hb.1 hc
    exact absurd e (hh j hj)
  rw [if_neg hc]
  exact ⟨fun _ j hj e => hc (hb.2 ⟨j, hj, e⟩), fun _ => by omega⟩
theorem PMap.stepT {t : Tp} {q nl nt : Nat} {gl : List UInt8 → Option Int} {gt : Int → Option Int} (h : PMap t q nl nt gl gt) (hq : q < t.parts.length) (h8 : ¬ t.kind = 8) (hs : nl + nt = q) (v : Int) :
    PMap t (q + 1) nl (if (gt t.parts[q].tag).isSome = true then nt else nt + 1) gl (fun c => if c = t.parts[q].tag then some v else gt c) ∧
    (nl + (if (gt t.parts[q].tag).isSome = true then nt else nt + 1) = q + 1 ↔ ∀ j (hj : j < q), ¬ (lbW t t.parts[j] = lbW t t.parts[q] ∧ tgW t t.parts[j] = tgW t t.parts[q])) := by
  obtain ⟨h0, hl⟩ := h.tag h8
  have hle := h.le
  refine ⟨⟨fun hn => absurd hn h8, fun _ => ⟨h0, fun s => ?_⟩, ?_⟩, ?_⟩
  · rw [any_snoc hq, ← hl s]
    by_cases e : s = t.parts[q].tag
    · simp [e]
    have e2 : ¬ t.parts[q].tag = s := fun h => e h.symm
    simp [e, e2]
  · split <;> omega
  have hseen := hl t.parts[q].tag
  have hb : (gt t.parts[q].tag).isSome = true ↔ ∃ j, ∃ hj : j < q, (t.parts[j]'(by omega)).tag = t.parts[q].tag := by
    rw [hseen, any_take (by omega)]; simp
  simp only [lbW, tgW, if_neg h8, true_and]
  by_cases hc : (gt t.parts[q].tag).isSome = true
  · rw [if_pos hc]
    refine ⟨fun e => by omega, fun hh => ?_⟩
    obtain ⟨j, hj, e⟩ := hb.1 hc
    exact absurd e (hh j hj)
  rw [if_neg hc]
  exact ⟨fun _ j hj e => hc (hb.2 ⟨j, hj, e⟩), fun _ => by omega⟩
theorem pa_bad8 {t : Tp} {at_ : Int} {q : Nat} (hq : q < t.parts.length) (h8 : t.kind = 8) (hn : nameB t.parts[q].label = false) : ¬ paOk t at_ q := by
  rintro ⟨_, h1, -⟩
  rw [if_pos h8, hn] at h1
  exact absurd h1.1 (by simp)
theorem pa_badT {t : Tp} {at_ : Int} {q : Nat} (hq : q < t.parts.length) (h8 : ¬ t.kind = 8) (hn : t.parts[q].tag < 0 ∨ 255 < t.parts[q].tag) : ¬ paOk t at_ q := by
  rintro ⟨_, h1, -⟩
  rw [if_neg h8] at h1
  omega
def vaOk (t : Tp) (p : Pa) : Prop := if t.kind = 8 then nameB p.label = true else 0 ≤ p.tag ∧ p.tag ≤ 255
theorem pa_lt {t : Tp} {at_ : Int} {j : Nat} (h : paOk t at_ j) : ∃ hj : j < t.parts.length, t.parts[j].label = lbW t t.parts[j] ∧ t.parts[j].tag = tgW t t.parts[j] := by
  obtain ⟨hj, h1, -⟩ := h
  refine ⟨hj, ?_⟩
  unfold lbW tgW
  by_cases h8 : t.kind = 8
  · rw [if_pos h8] at h1; simp [h8, h1.2]
  rw [if_neg h8] at h1; simp [h8, h1.1]
theorem pa_iff {t : Tp} {at_ : Int} {q m : Nat} (hno : ∀ k, k < q → paOk t at_ k) (hq : q < t.parts.length) (hv : vaOk t t.parts[q]) (hsn : m = q + 1 ↔ ∀ j (hj : j < q), ¬ (lbW t t.parts[j] = lbW t t.parts[q] ∧ tgW t t.parts[j] = tgW t t.parts[q])) :
    paOk t at_ q ↔ (t.parts[q].label = lbW t t.parts[q] ∧ t.parts[q].tag = tgW t t.parts[q]) ∧ 0 ≤ t.parts[q].ty ∧ t.parts[q].ty < at_ ∧ m = q + 1 := by
  constructor
  · intro h
    obtain ⟨_, e1, e2⟩ := pa_lt h
    obtain ⟨_, -, h2, h3, h4⟩ := h
    refine ⟨⟨e1, e2⟩, h2, h3, hsn.2 fun j hj hh => h4 j hj ?_⟩
    obtain ⟨_, d1, d2⟩ := pa_lt (hno j hj)
    rw [d1, d2, e1, e2]; exact hh
  rintro ⟨⟨e1, e2⟩, h2, h3, h4⟩
  refine ⟨hq, ?_, h2, h3, fun j hj hh => hsn.1 h4 j hj ?_⟩
  · unfold vaOk at hv
    unfold lbW at e1
    unfold tgW at e2
    by_cases h8 : t.kind = 8
    · rw [if_pos h8] at hv e2 ⊢; exact ⟨hv, e2⟩
    rw [if_neg h8] at hv e1 ⊢; exact ⟨e1, hv⟩
  obtain ⟨_, d1, d2⟩ := pa_lt (hno j hj)
  rw [← d1, ← d2, ← e1, ← e2]; exact hh
theorem vaOk_8 {t : Tp} {p : Pa} (h8 : t.kind = 8) (h : nameB p.label = true) : vaOk t p := by unfold vaOk; rw [if_pos h8]; exact h
theorem vaOk_T {t : Tp} {p : Pa} (h8 : ¬ t.kind = 8) (h : 0 ≤ p.tag ∧ p.tag ≤ 255) : vaOk t p := by unfold vaOk; rw [if_neg h8]; exact h
/-- a type that a machine can hold -/
structure TLim (t : Tp) : Prop where
  len : t.parts.length * 32 ≤ 140737488351232
  lb : ∀ p ∈ t.parts, p.label.length ≤ 9223372036854775807
  tg : ∀ p ∈ t.parts, -9223372036854775808 ≤ p.tag ∧ p.tag ≤ 9223372036854775807

set_option maxHeartbeats 4000000 in
theorem tparts_spec (t : Tp) (pv : Value) (at_ most : Int) (w0 : World) (hS00 : Sl w0 3 pv t.parts.length (pas t.parts)) (hl : TLim t) : Ca Try.prog 59 #[.agg (tcell t pv).toArray, .int .i64 at_, .int .i64 most] w0 (fun v w' => v = .bool (partsB t at_ most) ∧ Ext w0 w') := by
  have hlen := hl.len
  refine Ca.of Try.func59 Try.ntmps59 rfl rfl ?_
  refine W.seq ?_
  refine W.region ?_
  refine WL.c rfl (o_boxB rfl ?_)
  intro w3 hC3 hx3 hs3
  obtain ⟨b3, hb3⟩ : ∃ b, b = w0.heap.size := ⟨_, rfl⟩
  rw [← hb3] at hC3 ⊢
  replace hC3 : w3.heap[b3]? = some (.cells (tcell t pv).toArray 50 (0, 0)) := hC3
  have hx := hx3
  refine WL.c rfl (o_ash (show _ = Value.bool _ from rfl) ?_)
  refine WL.nil ?_
  refine W.seq ?_
  refine W.seq ?_
  refine W.region ?_
  refine WL.cut (fun e1 w1 => e1 22 = .bool (!decide (1 ≤ t.parts.length ∧ (t.parts.length : Int) ≤ most)) ∧ e1 1 = .int .i64 at_ ∧ e1 3 = .pointer (some ⟨b3, 0, none⟩) ∧ w1.heap[b3]? = some (.cells (tcell t pv).toArray 50 (0, 0)) ∧ Ext w0 w1) ?_ ?_
  · -- region 1
    refine WL.c rfl (o_fa 3 TI50 rfl TI48 rfl rfl ?_)
    refine WL.c rfl (o_ld TI48 rfl rfl (cell_of hC3 rfl) ?_)
    refine WL.c rfl (o_lenR TI48 rfl (hS00.ext hx) ?_)
    refine WL.c rfl (o_lt rfl rfl ?_)
    refine WL.c rfl (o_mvh (show _ = Value.bool _ from rfl) ?_)
    refine WL.sp 4 rfl (fun g16 => ?_) (fun g16 => ?_)
    · skip
      refine WL.s rfl (g16) rfl ?_
      refine WL.s rfl (g16) rfl ?_
      refine WL.s rfl (g16) rfl ?_
      refine WL.s rfl (g16) rfl ?_
      refine WL.s rfl (g16) rfl ?_
      refine WL.c rfl (o_pickT rfl (g16) ?_)
      exact WL.nil (⟨congrArg Value.bool (by first | (have := of_decide_eq_true g16; rw [eq_comm]; simp only [Bool.not_eq_true', decide_eq_false_iff_not]; omega) | (have := of_decide_eq_false g16; rw [Bool.eq_iff_iff]; simp only [Bool.or_eq_true, Bool.not_eq_true', decide_eq_false_iff_not, decide_eq_true_eq]; omega)), rfl, rfl, hC3, hx⟩)
    skip
    refine WL.g rfl (g16) rfl (o_fa 3 TI50 rfl TI48 rfl rfl ?_)
    refine WL.g rfl (g16) rfl (o_ld TI48 rfl rfl (cell_of hC3 rfl) ?_)
    refine WL.g rfl (g16) rfl (o_lenR TI48 rfl (hS00.ext hx) ?_)
    refine WL.g rfl (g16) rfl (o_mvh (show _ = Value.int _ _ from rfl) ?_)
    refine WL.g rfl (g16) rfl (o_gt rfl rfl ?_)
    refine WL.c rfl (o_pickO rfl rfl ?_)
    exact WL.nil (⟨congrArg Value.bool (by first | (have := of_decide_eq_true g16; rw [eq_comm]; simp only [Bool.not_eq_true', decide_eq_false_iff_not]; omega) | (have := of_decide_eq_false g16; rw [Bool.eq_iff_iff]; simp only [Bool.or_eq_true, Bool.not_eq_true', decide_eq_false_iff_not, decide_eq_true_eq]; omega)), rfl, rfl, hC3, hx⟩)
  rintro e w ⟨h22, h1, h3, hC3, hx⟩
  refine W.cond h22 (fun c22 => ?_) (fun c22 => ?_)
  · try simp only [cs8] at c22
    refine W.seq ?_
    refine W.region ?_
    refine WL.c rfl (o_ash (show _ = Value.bool _ from rfl) ?_)
    refine WL.nil ?_
    refine W.ret ?_
    refine ret1v rfl (show _ = Value.bool _ from rfl) ?_
    exact ⟨congrArg Value.bool (partsB_len c22).symm, hx⟩
  try simp only [cs8] at c22
  refine W.skip ?_
  refine W.seq ?_
  refine W.region ?_
  refine WL.c rfl (o_mkM ?_)
  have hML := MapN.made Try.prog 9 3 enS w
  have hxm : Ext w (w.alloc (.map #[] 0)) := Only.alloc w _
  obtain ⟨lb, hlb⟩ : ∃ b, b = w.heap.size := ⟨_, rfl⟩
  have hzlb : w0.heap.size ≤ lb := by rw [hlb]; exact hx.size
  rw [← hlb] at hML ⊢
  generalize w.alloc (.map #[] 0) = wm at hML hxm ⊢
  replace hC3 := hxm.blk hC3 (fun h => h)
  replace hx := hx.tr hxm
  have hlw := hML.lt
  refine WL.c rfl (o_mkM ?_)
  have hMT := MapN.made Try.prog 3 3 enI wm
  have hxm : Ext wm (wm.alloc (.map #[] 0)) := Only.alloc wm _
  obtain ⟨tb, htb⟩ : ∃ b, b = wm.heap.size := ⟨_, rfl⟩
  have hztb : w0.heap.size ≤ tb := by rw [htb]; exact hx.size
  rw [← htb] at hMT ⊢
  generalize wm.alloc (.map #[] 0) = wn at hMT hxm ⊢
  replace hC3 := hxm.blk hC3 (fun h => h)
  replace hx := hx.tr hxm
  replace hML := hML.ext hxm
  have hne1 : ¬ tb = lb := by omega
  have hne2 : ¬ lb = tb := by omega
  refine WL.c rfl (o_as ?_)
  refine WL.c rfl (o_as ?_)
  refine WL.nil ?_
  refine W.seq ?_
  refine W.seq ?_
  refine W.region ?_
  refine WL.c rfl (o_fa 3 TI50 rfl TI48 rfl h3 ?_)
  refine WL.c rfl (o_ld TI48 rfl rfl (cell_of hC3 rfl) ?_)
  refine WL.c rfl (o_lenR TI48 rfl (hS00.ext hx) ?_)
  refine WL.c rfl (o_mvh (show _ = Value.int _ _ from rfl) ?_)
  refine WL.nil ?_
  refine W.block ?_
  refine W.loop (fun e w => ∃ (q nl nt : Nat) (gl : List UInt8 → Option Int) (gt : Int → Option Int), q ≤ t.parts.length ∧ e 1 = .int .i64 at_ ∧ e 3 = .pointer (some ⟨b3, 0, none⟩) ∧ e 7 = .map (some lb) ∧ e 8 = .map (some tb) ∧ e 26 = pv ∧ e 27 = .int .i64 (t.parts.length : Int) ∧ e 28 = .int .i64 (q : Int) ∧ (∀ k, k < q → paOk t at_ k) ∧ w.heap[b3]? = some (.cells (tcell t pv).toArray 50 (0, 0)) ∧ MapN Try.prog 9 3 enS w lb nl gl ∧ MapN Try.prog 3 3 enI w tb nt gt ∧ PMap t q nl nt gl gt ∧ nl + nt = q ∧ Ext w0 w) (fun e w => t.parts.length - (intOf (e 28)).toNat) ?_ ?_
  · exact ⟨0, 0, 0, fun _ => none, fun _ => none, Nat.zero_le _, h1, h3, rfl, rfl, rfl, rfl, rfl, fun k hk => by omega, hC3, hML, hMT, PMap.zero t, rfl, hx⟩
  rintro e w ⟨q, nl, nt, gl, gt, hq, h1, h3, h7, h8, h26, h27, h28, hno, hC3, hML, hMT, hPM, hsum, hx⟩
  have hm28 := h28
  refine W.seq ?_
  refine W.region ?_
  refine WL.c rfl (o_lt h28 h27 ?_)
  refine WL.nil ?_
  refine W.seq ?_
  refine W.cond rfl (fun c29 => ?_) (fun c29 => ?_)
  · try simp only [cs8] at c29
    have hq1 : q < t.parts.length := by omega
    obtain ⟨ub, uo, uc, hpv, huc⟩ := Sl.paq (hS00.ext hx) hq1
    rw [hpv] at h26
    obtain ⟨p, hp⟩ : ∃ p, p = t.parts[q] := ⟨_, rfl⟩
    rw [← hp] at huc
    have hlbl : p.label.length ≤ 9223372036854775807 := by rw [hp]; exact hl.lb _ (List.getElem_mem hq1)
    have htgl : -9223372036854775808 ≤ p.tag ∧ p.tag ≤ 9223372036854775807 := by rw [hp]; exact hl.tg _ (List.getElem_mem hq1)
    have hle := hPM.le
    refine W.skip ?_
    refine W.seq ?_
    refine W.block ?_
    refine W.seq ?_
    refine W.region ?_
    refine WL.c rfl (o_mvh h28 ?_)
    refine WL.c rfl (o_ixB (i := q) TI48 TI52 h26 h28 (by omega) ?_)
    refine WL.c rfl (o_ldA TI52 rfl rfl huc rfl ?_)
    refine WL.c rfl (o_alB TI52 ?_)
    intro wa hCa hxa hsa
    refine WL.c rfl (o_ash (show _ = Value.int _ _ from rfl) ?_)
    refine WL.u (o_stA TI52 rfl (show _ = Value.agg (paV p).toArray from rfl) rfl rfl hCa rfl ?_)
    intro wb10 hC10 hob hsb
    have hxb := Ext.own hxa (Nat.le_refl _) hob
    obtain ⟨b10, hb10⟩ : ∃ b, b = w.heap.size := ⟨_, rfl⟩
    rw [← hb10] at hC10 ⊢
    clear hCa hxa hsa hob hsb
    replace hx := hx.tr hxb
    replace hML := hML.ext hxb
    replace hMT := hMT.ext hxb
    replace hC3 := hxb.blk hC3 (fun h => h)
    clear hxb
    refine WL.nil ?_
    refine W.seq ?_
    refine W.region ?_
    refine WL.c rfl (o_fa 2 TI52 rfl TI3 rfl rfl ?_)
    refine WL.c rfl (o_ld TI3 rfl rfl (cell_of hC10 rfl) ?_)
    refine WL.c rfl (o_bldC (cs := [(.string ⟨#[]⟩), (.int .i64 0), _]) TI52 (Sizes.cons TI9 (Sizes.cons TI3 (Sizes.cons TI3 Sizes.nil))) rfl (lcp (show _ = Value.int _ _ from rfl) lnp) rfl rfl ?_)
    refine WL.c rfl (o_alB TI52 ?_)
    intro wa hCa hxa hsa
    refine WL.u (o_stA TI52 rfl (show _ = Value.agg ([st [], .int .i64 0, .int .i64 p.ty]).toArray from rfl) rfl rfl hCa rfl ?_)
    intro wb11 hC11 hob hsb
    have hxb := Ext.own hxa (Nat.le_refl _) hob
    obtain ⟨b11, hb11⟩ : ∃ b, b = wb10.heap.size := ⟨_, rfl⟩
    rw [← hb11] at hC11 ⊢
    clear hCa hxa hsa hob hsb
    have hne : ¬ b10 = b11 := by have := blk_lt3 hC10; omega
    have hz11 : w0.heap.size ≤ b11 := by rw [hb11]; exact hx.size
    replace hx := hx.tr hxb
    replace hML := hML.ext hxb
    replace hMT := hMT.ext hxb
    replace hC3 := hxb.blk hC3 (fun h => h)
    replace hC10 := hxb.blk hC10 (fun h => h)
    clear hxb
    refine WL.nil ?_
    refine W.seq ?_
    refine W.seq ?_
    refine W.region ?_
    refine WL.c rfl (o_fa 0 TI50 rfl TI3 rfl h3 ?_)
    refine WL.c rfl (o_ld TI3 rfl rfl (cell_of hC3 rfl) ?_)
    refine WL.c rfl (o_eq rfl rfl ?_)
    refine WL.nil ?_
    refine W.cut (fun e1 w1 => ∃ (nl2 nt2 : Nat) (gl2 : List UInt8 → Option Int) (gt2 : Int → Option Int), e1 1 = .int .i64 at_ ∧ e1 3 = .pointer (some ⟨b3, 0, none⟩) ∧ e1 7 = .map (some lb) ∧ e1 8 = .map (some tb) ∧ e1 9 = .int .i64 (q : Int) ∧ e1 10 = .pointer (some ⟨b10, 0, none⟩) ∧ e1 11 = .pointer (some ⟨b11, 0, none⟩) ∧ e1 26 = (.slice (some ⟨ub, uo, none⟩) t.parts.length uc) ∧ e1 27 = .int .i64 (t.parts.length : Int) ∧ e1 28 = .int .i64 (q : Int) ∧ w1.heap[b3]? = some (.cells (tcell t pv).toArray 50 (0, 0)) ∧ w1.heap[b10]? = some (.cells (paV p).toArray 52 (0, 0)) ∧ w1.heap[b11]? = some (.cells #[st (lbW t p), .int .i64 (tgW t p), .int .i64 p.ty] 52 (0, 0)) ∧ MapN Try.prog 9 3 enS w1 lb nl2 gl2 ∧ MapN Try.prog 3 3 enI w1 tb nt2 gt2 ∧ PMap t (q + 1) nl2 nt2 gl2 gt2 ∧ (nl2 + nt2 = q + 1 ↔ ∀ j (hj : j < q), ¬ (lbW t t.parts[j] = lbW t p ∧ tgW t t.parts[j] = tgW t p)) ∧ vaOk t p ∧ Ext w0 w1) ?_ ?_
    · -- both ways
      refine W.cond rfl (fun c38 => ?_) (fun c38 => ?_)
      · try simp only [cs8] at c38
        have hk8 : t.kind = 8 := by simpa using c38
        refine W.seq ?_
        refine W.region ?_
        refine WL.c rfl (o_fa 0 TI52 rfl TI9 rfl rfl ?_)
        refine WL.c rfl (o_ld TI9 rfl rfl (cell_of hC10 rfl) ?_)
        refine WL.c rfl (o_fa 0 TI52 rfl TI9 rfl rfl ?_)
        refine WL.u (o_stB TI9 rfl (show _ = st p.label from rfl) rfl hC11 (show 0 < 3 by decide) ?_)
        intro wst hC11n ho hs41
        have hC11n0 := hC11n
        replace hC10 := ho.blk hC10 hne
        replace hC3 := ho.blk hC3 (blk_ne3 hC3 hC11 (by decide))
        replace hML := hML.only ho (fun e => map_blk_ne hML.is hC11 e.symm)
        replace hMT := hMT.only ho (fun e => map_blk_ne hMT.is hC11 e.symm)
        replace hx := hx.trans' ho (fun _ h => h) (fun b hb e => by omega)
        replace hC11 : wst.heap[b11]? = some (.cells #[st (lbW t p), .int .i64 (tgW t p), .int .i64 p.ty] 52 (0, 0)) := by simp only [lbW, tgW, if_pos hk8]; exact hC11n
        refine WL.nil ?_
        refine W.seq ?_
        refine W.region ?_
        refine WL.c rfl (o_mvh h7 ?_)
        refine WL.c rfl (o_fa 0 TI52 rfl TI9 rfl rfl ?_)
        refine WL.c rfl (o_ld TI9 rfl rfl (cell_of hC10 rfl) ?_)
        refine WL.c rfl (o_mvh (show _ = Value.int _ _ from rfl) ?_)
        refine WL.u (o_muN enS_inj MT88 rfl hML rfl (keyS Try.underlying9 (by rw [maxLen_eq]; omega)) rfl (wf_i64 (by omega)) (by rw [maxLen_eq]; omega) ?_)
        intro wq hMq hoq hsq
        replace hC10 := hoq.blk hC10 (map_blk_ne hML.is hC10)
        replace hC11 := hoq.blk hC11 (map_blk_ne hML.is hC11)
        replace hC3 := hoq.blk hC3 (map_blk_ne hML.is hC3)
        replace hMT := hMT.only hoq hne1
        replace hx := hx.trans' hoq (fun _ h => h) (fun b hb e => by omega)
        obtain ⟨hPM2, hcnt⟩ := hPM.step8 hq1 hk8 hsum (q : Int)
        rw [← hp] at hPM2 hcnt
        replace hML := hMq
        refine WL.nil ?_
        refine W.seq ?_
        refine W.region ?_
        refine WL.c rfl (o_fa 0 TI52 rfl TI9 rfl rfl ?_)
        refine WL.c rfl (o_ld TI9 rfl rfl (cell_of hC10 rfl) ?_)
        refine WL.c rfl (o_call Try.call34 (lc rfl ln) ((name_spec p.label _ hlbl).mono ?_))
        rintro v48 w48 ⟨rfl, rfl⟩
        refine WL.c rfl (o_not' rfl ?_)
        refine WL.nil ?_
        refine W.cond rfl (fun c49 => ?_) (fun c49 => ?_)
        · try simp only [cs8] at c49
          have hnm : nameB p.label = false := by simpa using c49
          refine W.seq ?_
          refine W.region ?_
          refine WL.c rfl (o_ash (show _ = Value.bool _ from rfl) ?_)
          refine WL.nil ?_
          refine W.ret ?_
          refine ret1v rfl (show _ = Value.bool _ from rfl) ?_
          exact ⟨congrArg Value.bool (partsB_no hq1 (pa_bad8 hq1 hk8 (hp ▸ hnm))).symm, hx⟩
        try simp only [cs8] at c49
        have hnm : nameB p.label = true := by simpa using c49
        have hval : vaOk t p := vaOk_8 hk8 hnm
        refine W.skip ?_
        exact ⟨_, _, _, _, h1, h3, h7, h8, rfl, rfl, rfl, h26, h27, h28, hC3, hC10, hC11, hML, hMT, hPM2, hcnt, hval, hx⟩
      try simp only [cs8] at c38
      have hk8 : ¬ t.kind = 8 := by simpa using c38
      refine W.seq ?_
      refine W.region ?_
      refine WL.c rfl (o_fa 1 TI52 rfl TI3 rfl rfl ?_)
      refine WL.c rfl (o_ld TI3 rfl rfl (cell_of hC10 rfl) ?_)
      refine WL.c rfl (o_fa 1 TI52 rfl TI3 rfl rfl ?_)
      refine WL.u (o_stB TI3 rfl (show _ = Value.int .i64 p.tag from rfl) rfl hC11 (show 1 < 3 by decide) ?_)
      intro wst hC11n ho hs41
      have hC11n0 := hC11n
      replace hC10 := ho.blk hC10 hne
      replace hC3 := ho.blk hC3 (blk_ne3 hC3 hC11 (by decide))
      replace hML := hML.only ho (fun e => map_blk_ne hML.is hC11 e.symm)
      replace hMT := hMT.only ho (fun e => map_blk_ne hMT.is hC11 e.symm)
      replace hx := hx.trans' ho (fun _ h => h) (fun b hb e => by omega)
      replace hC11 : wst.heap[b11]? = some (.cells #[st (lbW t p), .int .i64 (tgW t p), .int .i64 p.ty] 52 (0, 0)) := by simp only [lbW, tgW, if_neg hk8]; exact hC11n
      refine WL.nil ?_
      refine W.seq ?_
      refine W.region ?_
      refine WL.c rfl (o_mvh h8 ?_)
      refine WL.c rfl (o_fa 1 TI52 rfl TI3 rfl rfl ?_)
      refine WL.c rfl (o_ld TI3 rfl rfl (cell_of hC10 rfl) ?_)
      refine WL.c rfl (o_mvh (show _ = Value.int _ _ from rfl) ?_)
      refine WL.u (o_muN enI_inj MT141 rfl hMT rfl (keyI Try.underlying3 (by omega)) rfl (wf_i64 (by omega)) (by rw [maxLen_eq]; omega) ?_)
      intro wq hMq hoq hsq
      replace hC10 := hoq.blk hC10 (map_blk_ne hMT.is hC10)
      replace hC11 := hoq.blk hC11 (map_blk_ne hMT.is hC11)
      replace hC3 := hoq.blk hC3 (map_blk_ne hMT.is hC3)
      replace hML := hML.only hoq hne2
      replace hx := hx.trans' hoq (fun _ h => h) (fun b hb e => by omega)
      obtain ⟨hPM2, hcnt⟩ := hPM.stepT hq1 hk8 hsum (q : Int)
      rw [← hp] at hPM2 hcnt
      replace hMT := hMq
      refine WL.nil ?_
      refine W.seq ?_
      by_cases hneg : p.tag < 0
      · skip
        have hbt : p.tag < 0 ∨ 255 < p.tag := .inl hneg
        refine W.region ?_
        refine WL.c rfl (o_fa 1 TI52 rfl TI3 rfl rfl ?_)
        refine WL.c rfl (o_ld TI3 rfl rfl (cell_of hC10 rfl) ?_)
        refine WL.c rfl (o_lt rfl rfl ?_)
        refine WL.c rfl (o_mvh (show _ = Value.bool _ from rfl) ?_)
        refine WL.s rfl (by simp [hneg]) rfl ?_
        refine WL.s rfl (by simp [hneg]) rfl ?_
        refine WL.s rfl (by simp [hneg]) rfl ?_
        refine WL.c rfl (o_pickT rfl (by simp [hneg]) ?_)
        refine WL.nil ?_
        refine W.condT' rfl (rfl) ?_
        refine W.seq ?_
        refine W.region ?_
        refine WL.c rfl (o_ash (show _ = Value.bool _ from rfl) ?_)
        refine WL.nil ?_
        refine W.ret ?_
        refine ret1v rfl (show _ = Value.bool _ from rfl) ?_
        exact ⟨congrArg Value.bool (partsB_no hq1 (pa_badT hq1 hk8 (hp ▸ hbt))).symm, hx⟩
      skip
      refine W.region ?_
      refine WL.c rfl (o_fa 1 TI52 rfl TI3 rfl rfl ?_)
      refine WL.c rfl (o_ld TI3 rfl rfl (cell_of hC10 rfl) ?_)
      refine WL.c rfl (o_lt rfl rfl ?_)
      refine WL.c rfl (o_mvh (show _ = Value.bool _ from rfl) ?_)
      refine WL.g rfl (by simp [hneg]) rfl (o_fa 1 TI52 rfl TI3 rfl rfl ?_)
      refine WL.g rfl (by simp [hneg]) rfl (o_ld TI3 rfl rfl (cell_of hC10 rfl) ?_)
      refine WL.g rfl (by simp [hneg]) rfl (o_gt rfl rfl ?_)
      refine WL.c rfl (o_pickO rfl rfl ?_)
      refine WL.nil ?_
      refine W.cond rfl (fun c64 => ?_) (fun c64 => ?_)
      · try simp only [cs8] at c64
        have hbt : p.tag < 0 ∨ 255 < p.tag := c64
        refine W.seq ?_
        refine W.region ?_
        refine WL.c rfl (o_ash (show _ = Value.bool _ from rfl) ?_)
        refine WL.nil ?_
        refine W.ret ?_
        refine ret1v rfl (show _ = Value.bool _ from rfl) ?_
        exact ⟨congrArg Value.bool (partsB_no hq1 (pa_badT hq1 hk8 (hp ▸ hbt))).symm, hx⟩
      try simp only [cs8] at c64
      have hval : vaOk t p := vaOk_T hk8 ⟨by omega, by omega⟩
      refine W.skip ?_
      exact ⟨_, _, _, _, h1, h3, h7, h8, rfl, rfl, rfl, h26, h27, h28, hC3, hC10, hC11, hML, hMT, hPM2, hcnt, hval, hx⟩
    rintro e w ⟨nl2, nt2, gl2, gt2, h1, h3, h7, h8, h9, h10, h11, h26, h27, h28, hC3, hC10, hC11, hML, hMT, hPM, hcnt, hval, hx⟩
    refine W.seq ?_
    have hle2 := hPM.le
    by_cases hA : p.label = lbW t p ∧ p.tag = tgW t p
    by_cases hB : 0 ≤ p.ty
    by_cases hC : p.ty < at_
    by_cases hD : nl2 + nt2 = q + 1
    · skip
      refine W.region ?_
      refine WL.c rfl (o_ldA TI52 rfl h10 (show Cells _ b10 0 (paV p) from Cells.of hC10 0 _ (by simp)) rfl ?_)
      refine WL.c rfl (o_ldA TI52 rfl h11 (show Cells _ b11 0 [st (lbW t p), .int .i64 (tgW t p), .int .i64 p.ty] from Cells.of hC11 0 _ (by simp)) rfl ?_)
      refine WL.c rfl (o_neR TI52 (by kernel_rfl) (by kernel_rfl) rfl rfl (.str TI9 (by decide) rfl rfl (.int TI3 (by decide) rfl rfl (.int TI3 (by decide) rfl rfl .nil))) ?_)
      refine WL.c rfl (o_mvh (show _ = Value.bool _ from rfl) ?_)
      refine WL.g rfl (by simpa using hA) rfl (o_fa 2 TI52 rfl TI3 rfl h10 ?_)
      refine WL.g rfl (by simpa using hA) rfl (o_ld TI3 rfl rfl (cell_of hC10 rfl) ?_)
      refine WL.g rfl (by simpa using hA) rfl (o_lt rfl rfl ?_)
      refine WL.c rfl (o_pickO rfl rfl ?_)
      refine WL.c rfl (o_mvh (show _ = Value.bool _ from rfl) ?_)
      refine WL.g rfl (by simp; exact ⟨hA, hB⟩) rfl (o_fa 2 TI52 rfl TI3 rfl h10 ?_)
      refine WL.g rfl (by simp; exact ⟨hA, hB⟩) rfl (o_ld TI3 rfl rfl (cell_of hC10 rfl) ?_)
      refine WL.g rfl (by simp; exact ⟨hA, hB⟩) rfl (o_mvh h1 ?_)
      refine WL.g rfl (by simp; exact ⟨hA, hB⟩) rfl (o_ge rfl rfl ?_)
      refine WL.c rfl (o_pickO rfl rfl ?_)
      refine WL.c rfl (o_mvh (show _ = Value.bool _ from rfl) ?_)
      refine WL.g rfl (by simp; exact ⟨⟨hA, hB⟩, hC⟩) rfl (o_mvh h7 ?_)
      refine WL.g rfl (by simp; exact ⟨⟨hA, hB⟩, hC⟩) rfl (o_lenM Try.underlying88 rfl hML ?_)
      refine WL.g rfl (by simp; exact ⟨⟨hA, hB⟩, hC⟩) rfl (o_mvh h8 ?_)
      refine WL.g rfl (by simp; exact ⟨⟨hA, hB⟩, hC⟩) rfl (o_lenM Try.underlying141 rfl hMT ?_)
      refine WL.g rfl (by simp; exact ⟨⟨hA, hB⟩, hC⟩) rfl (o_addi rfl rfl (by omega) ?_)
      refine WL.g rfl (by simp; exact ⟨⟨hA, hB⟩, hC⟩) rfl (o_mvh h9 ?_)
      refine WL.g rfl (by simp; exact ⟨⟨hA, hB⟩, hC⟩) rfl (o_addi rfl rfl (by omega) ?_)
      refine WL.g rfl (by simp; exact ⟨⟨hA, hB⟩, hC⟩) rfl (o_ne rfl rfl ?_)
      refine WL.c rfl (o_pickO rfl rfl ?_)
      refine WL.nil ?_
      refine W.condF' rfl (by simp; exact ⟨⟨⟨hA, hB⟩, hC⟩, by omega⟩) ?_
      refine W.skip ?_
      refine W.region ?_
      refine WL.c rfl (o_addi h28 rfl (by omega) ?_)
      refine WL.c rfl (o_mvh (show _ = Value.int _ _ from rfl) ?_)
      refine WL.nil ?_
      refine ⟨⟨q + 1, nl2, nt2, gl2, gt2, by omega, h1, h3, h7, h8, h26.trans hpv.symm, h27, rfl, fun k hk => ?_, hC3, hML, hMT, hPM, by omega, hx⟩, ?_⟩
      · rcases Nat.lt_or_ge k q with h | h
        · exact hno k h
        rw [show k = q by omega]
        exact (pa_iff hno hq1 (hp ▸ hval) (hp ▸ hcnt)).2 ⟨hp ▸ hA, hp ▸ hB, hp ▸ hC, by omega⟩
      show t.parts.length - ((q : Int) + 1).toNat < _
      rw [hm28]; simp [intOf]; omega
    · skip
      have hbad : ¬ paOk t at_ q := fun hh => by
        have h4 := ((pa_iff hno hq1 (hp ▸ hval) (hp ▸ hcnt)).1 hh).2.2.2
        omega
      refine W.region ?_
      refine WL.c rfl (o_ldA TI52 rfl h10 (show Cells _ b10 0 (paV p) from Cells.of hC10 0 _ (by simp)) rfl ?_)
      refine WL.c rfl (o_ldA TI52 rfl h11 (show Cells _ b11 0 [st (lbW t p), .int .i64 (tgW t p), .int .i64 p.ty] from Cells.of hC11 0 _ (by simp)) rfl ?_)
      refine WL.c rfl (o_neR TI52 (by kernel_rfl) (by kernel_rfl) rfl rfl (.str TI9 (by decide) rfl rfl (.int TI3 (by decide) rfl rfl (.int TI3 (by decide) rfl rfl .nil))) ?_)
      refine WL.c rfl (o_mvh (show _ = Value.bool _ from rfl) ?_)
      refine WL.g rfl (by simpa using hA) rfl (o_fa 2 TI52 rfl TI3 rfl h10 ?_)
      refine WL.g rfl (by simpa using hA) rfl (o_ld TI3 rfl rfl (cell_of hC10 rfl) ?_)
      refine WL.g rfl (by simpa using hA) rfl (o_lt rfl rfl ?_)
      refine WL.c rfl (o_pickO rfl rfl ?_)
      refine WL.c rfl (o_mvh (show _ = Value.bool _ from rfl) ?_)
      refine WL.g rfl (by simp; exact ⟨hA, hB⟩) rfl (o_fa 2 TI52 rfl TI3 rfl h10 ?_)
      refine WL.g rfl (by simp; exact ⟨hA, hB⟩) rfl (o_ld TI3 rfl rfl (cell_of hC10 rfl) ?_)
      refine WL.g rfl (by simp; exact ⟨hA, hB⟩) rfl (o_mvh h1 ?_)
      refine WL.g rfl (by simp; exact ⟨hA, hB⟩) rfl (o_ge rfl rfl ?_)
      refine WL.c rfl (o_pickO rfl rfl ?_)
      refine WL.c rfl (o_mvh (show _ = Value.bool _ from rfl) ?_)
      refine WL.g rfl (by simp; exact ⟨⟨hA, hB⟩, hC⟩) rfl (o_mvh h7 ?_)
      refine WL.g rfl (by simp; exact ⟨⟨hA, hB⟩, hC⟩) rfl (o_lenM Try.underlying88 rfl hML ?_)
      refine WL.g rfl (by simp; exact ⟨⟨hA, hB⟩, hC⟩) rfl (o_mvh h8 ?_)
      refine WL.g rfl (by simp; exact ⟨⟨hA, hB⟩, hC⟩) rfl (o_lenM Try.underlying141 rfl hMT ?_)
      refine WL.g rfl (by simp; exact ⟨⟨hA, hB⟩, hC⟩) rfl (o_addi rfl rfl (by omega) ?_)
      refine WL.g rfl (by simp; exact ⟨⟨hA, hB⟩, hC⟩) rfl (o_mvh h9 ?_)
      refine WL.g rfl (by simp; exact ⟨⟨hA, hB⟩, hC⟩) rfl (o_addi rfl rfl (by omega) ?_)
      refine WL.g rfl (by simp; exact ⟨⟨hA, hB⟩, hC⟩) rfl (o_ne rfl rfl ?_)
      refine WL.c rfl (o_pickO rfl rfl ?_)
      refine WL.nil ?_
      refine W.condT' rfl (by simp only [Bool.or_eq_true, Bool.not_eq_true', decide_eq_false_iff_not]; right; omega) ?_
      refine W.seq ?_
      refine W.region ?_
      refine WL.c rfl (o_ash (show _ = Value.bool _ from rfl) ?_)
      refine WL.nil ?_
      refine W.ret ?_
      refine ret1v rfl (show _ = Value.bool _ from rfl) ?_
      exact ⟨congrArg Value.bool (partsB_no hq1 hbad).symm, hx⟩
    · skip
      have hbad : ¬ paOk t at_ q := fun hh => by
        have h4 := ((pa_iff hno hq1 (hp ▸ hval) (hp ▸ hcnt)).1 hh).2.2.1
        rw [← hp] at h4; exact hC h4
      refine W.region ?_
      refine WL.c rfl (o_ldA TI52 rfl h10 (show Cells _ b10 0 (paV p) from Cells.of hC10 0 _ (by simp)) rfl ?_)
      refine WL.c rfl (o_ldA TI52 rfl h11 (show Cells _ b11 0 [st (lbW t p), .int .i64 (tgW t p), .int .i64 p.ty] from Cells.of hC11 0 _ (by simp)) rfl ?_)
      refine WL.c rfl (o_neR TI52 (by kernel_rfl) (by kernel_rfl) rfl rfl (.str TI9 (by decide) rfl rfl (.int TI3 (by decide) rfl rfl (.int TI3 (by decide) rfl rfl .nil))) ?_)
      refine WL.c rfl (o_mvh (show _ = Value.bool _ from rfl) ?_)
      refine WL.g rfl (by simpa using hA) rfl (o_fa 2 TI52 rfl TI3 rfl h10 ?_)
      refine WL.g rfl (by simpa using hA) rfl (o_ld TI3 rfl rfl (cell_of hC10 rfl) ?_)
      refine WL.g rfl (by simpa using hA) rfl (o_lt rfl rfl ?_)
      refine WL.c rfl (o_pickO rfl rfl ?_)
      refine WL.c rfl (o_mvh (show _ = Value.bool _ from rfl) ?_)
      refine WL.g rfl (by simp; exact ⟨hA, hB⟩) rfl (o_fa 2 TI52 rfl TI3 rfl h10 ?_)
      refine WL.g rfl (by simp; exact ⟨hA, hB⟩) rfl (o_ld TI3 rfl rfl (cell_of hC10 rfl) ?_)
      refine WL.g rfl (by simp; exact ⟨hA, hB⟩) rfl (o_mvh h1 ?_)
      refine WL.g rfl (by simp; exact ⟨hA, hB⟩) rfl (o_ge rfl rfl ?_)
      refine WL.c rfl (o_pickO rfl rfl ?_)
      refine WL.c rfl (o_mvh (show _ = Value.bool _ from rfl) ?_)
      refine WL.s rfl (by rw [decide_eq_true (show at_ ≤ p.ty by omega)]; simp) rfl ?_
      refine WL.s rfl (by rw [decide_eq_true (show at_ ≤ p.ty by omega)]; simp) rfl ?_
      refine WL.s rfl (by rw [decide_eq_true (show at_ ≤ p.ty by omega)]; simp) rfl ?_
      refine WL.s rfl (by rw [decide_eq_true (show at_ ≤ p.ty by omega)]; simp) rfl ?_
      refine WL.s rfl (by rw [decide_eq_true (show at_ ≤ p.ty by omega)]; simp) rfl ?_
      refine WL.s rfl (by rw [decide_eq_true (show at_ ≤ p.ty by omega)]; simp) rfl ?_
      refine WL.s rfl (by rw [decide_eq_true (show at_ ≤ p.ty by omega)]; simp) rfl ?_
      refine WL.s rfl (by rw [decide_eq_true (show at_ ≤ p.ty by omega)]; simp) rfl ?_
      refine WL.c rfl (o_pickT rfl (by rw [decide_eq_true (show at_ ≤ p.ty by omega)]; simp) ?_)
      refine WL.nil ?_
      refine W.condT' rfl (rfl) ?_
      refine W.seq ?_
      refine W.region ?_
      refine WL.c rfl (o_ash (show _ = Value.bool _ from rfl) ?_)
      refine WL.nil ?_
      refine W.ret ?_
      refine ret1v rfl (show _ = Value.bool _ from rfl) ?_
      exact ⟨congrArg Value.bool (partsB_no hq1 hbad).symm, hx⟩
    · skip
      have hbad : ¬ paOk t at_ q := fun hh => by
        have h4 := ((pa_iff hno hq1 (hp ▸ hval) (hp ▸ hcnt)).1 hh).2.1
        rw [← hp] at h4; exact hB h4
      refine W.region ?_
      refine WL.c rfl (o_ldA TI52 rfl h10 (show Cells _ b10 0 (paV p) from Cells.of hC10 0 _ (by simp)) rfl ?_)
      refine WL.c rfl (o_ldA TI52 rfl h11 (show Cells _ b11 0 [st (lbW t p), .int .i64 (tgW t p), .int .i64 p.ty] from Cells.of hC11 0 _ (by simp)) rfl ?_)
      refine WL.c rfl (o_neR TI52 (by kernel_rfl) (by kernel_rfl) rfl rfl (.str TI9 (by decide) rfl rfl (.int TI3 (by decide) rfl rfl (.int TI3 (by decide) rfl rfl .nil))) ?_)
      refine WL.c rfl (o_mvh (show _ = Value.bool _ from rfl) ?_)
      refine WL.g rfl (by simpa using hA) rfl (o_fa 2 TI52 rfl TI3 rfl h10 ?_)
      refine WL.g rfl (by simpa using hA) rfl (o_ld TI3 rfl rfl (cell_of hC10 rfl) ?_)
      refine WL.g rfl (by simpa using hA) rfl (o_lt rfl rfl ?_)
      refine WL.c rfl (o_pickO rfl rfl ?_)
      refine WL.c rfl (o_mvh (show _ = Value.bool _ from rfl) ?_)
      refine WL.s rfl (by rw [decide_eq_true (show p.ty < 0 by omega)]; simp) rfl ?_
      refine WL.s rfl (by rw [decide_eq_true (show p.ty < 0 by omega)]; simp) rfl ?_
      refine WL.s rfl (by rw [decide_eq_true (show p.ty < 0 by omega)]; simp) rfl ?_
      refine WL.s rfl (by rw [decide_eq_true (show p.ty < 0 by omega)]; simp) rfl ?_
      refine WL.c rfl (o_pickT rfl (by rw [decide_eq_true (show p.ty < 0 by omega)]; simp) ?_)
      refine WL.c rfl (o_mvh (show _ = Value.bool _ from rfl) ?_)
      refine WL.s rfl (rfl) rfl ?_
      refine WL.s rfl (rfl) rfl ?_
      refine WL.s rfl (rfl) rfl ?_
      refine WL.s rfl (rfl) rfl ?_
      refine WL.s rfl (rfl) rfl ?_
      refine WL.s rfl (rfl) rfl ?_
      refine WL.s rfl (rfl) rfl ?_
      refine WL.s rfl (rfl) rfl ?_
      refine WL.c rfl (o_pickT rfl (rfl) ?_)
      refine WL.nil ?_
      refine W.condT' rfl (rfl) ?_
      refine W.seq ?_
      refine W.region ?_
      refine WL.c rfl (o_ash (show _ = Value.bool _ from rfl) ?_)
      refine WL.nil ?_
      refine W.ret ?_
      refine ret1v rfl (show _ = Value.bool _ from rfl) ?_
      exact ⟨congrArg Value.bool (partsB_no hq1 hbad).symm, hx⟩
    skip
    have hbad : ¬ paOk t at_ q := fun hh => by
      have h4 := ((pa_iff hno hq1 (hp ▸ hval) (hp ▸ hcnt)).1 hh).1
      rw [← hp] at h4; exact hA h4
    refine W.region ?_
    refine WL.c rfl (o_ldA TI52 rfl h10 (show Cells _ b10 0 (paV p) from Cells.of hC10 0 _ (by simp)) rfl ?_)
    refine WL.c rfl (o_ldA TI52 rfl h11 (show Cells _ b11 0 [st (lbW t p), .int .i64 (tgW t p), .int .i64 p.ty] from Cells.of hC11 0 _ (by simp)) rfl ?_)
    refine WL.c rfl (o_neR TI52 (by kernel_rfl) (by kernel_rfl) rfl rfl (.str TI9 (by decide) rfl rfl (.int TI3 (by decide) rfl rfl (.int TI3 (by decide) rfl rfl .nil))) ?_)
    refine WL.c rfl (o_mvh (show _ = Value.bool _ from rfl) ?_)
    refine WL.s rfl (by first | (simp; exact fun h1 h2 => hA ⟨h1, h2⟩) | (simp; exact Classical.not_and_iff_not_or_not.1 hA)) rfl ?_
    refine WL.s rfl (by first | (simp; exact fun h1 h2 => hA ⟨h1, h2⟩) | (simp; exact Classical.not_and_iff_not_or_not.1 hA)) rfl ?_
    refine WL.s rfl (by first | (simp; exact fun h1 h2 => hA ⟨h1, h2⟩) | (simp; exact Classical.not_and_iff_not_or_not.1 hA)) rfl ?_
    refine WL.c rfl (o_pickT rfl (by first | (simp; exact fun h1 h2 => hA ⟨h1, h2⟩) | (simp; exact Classical.not_and_iff_not_or_not.1 hA)) ?_)
    refine WL.c rfl (o_mvh (show _ = Value.bool _ from rfl) ?_)
    refine WL.s rfl (rfl) rfl ?_
    refine WL.s rfl (rfl) rfl ?_
    refine WL.s rfl (rfl) rfl ?_
    refine WL.s rfl (rfl) rfl ?_
    refine WL.c rfl (o_pickT rfl (rfl) ?_)
    refine WL.c rfl (o_mvh (show _ = Value.bool _ from rfl) ?_)
    refine WL.s rfl (rfl) rfl ?_
    refine WL.s rfl (rfl) rfl ?_
    refine WL.s rfl (rfl) rfl ?_
    refine WL.s rfl (rfl) rfl ?_
    refine WL.s rfl (rfl) rfl ?_
    refine WL.s rfl (rfl) rfl ?_
    refine WL.s rfl (rfl) rfl ?_
    refine WL.s rfl (rfl) rfl ?_
    refine WL.c rfl (o_pickT rfl (rfl) ?_)
    refine WL.nil ?_
    refine W.condT' rfl (rfl) ?_
    refine W.seq ?_
    refine W.region ?_
    refine WL.c rfl (o_ash (show _ = Value.bool _ from rfl) ?_)
    refine WL.nil ?_
    refine W.ret ?_
    refine ret1v rfl (show _ = Value.bool _ from rfl) ?_
    exact ⟨congrArg Value.bool (partsB_no hq1 hbad).symm, hx⟩
  try simp only [cs8] at c29
  have hq1 : q = t.parts.length := by omega
  rw [hq1] at hno
  refine W.exit ?_
  refine W.seq ?_
  refine W.region ?_
  refine WL.c rfl (o_ash (show _ = Value.bool _ from rfl) ?_)
  refine WL.nil ?_
  refine W.ret ?_
  refine ret1v rfl (show _ = Value.bool _ from rfl) ?_
  exact ⟨congrArg Value.bool (partsB_yes c22 hno).symm, hx⟩
end Go.Proofs.Ytpbflfgigfdohaa

set_option linter.unusedSimpArgs false
set_option linter.unusedVariables false
set_option maxRecDepth 100000
namespace Go.Proofs.Ytpbflfgigfdohaa
open Go Go.Vc Go.RowKit Go.Proofs

open Classical in
noncomputable def tpB (t : Tp) (at_ : Int) : Bool := decide (tpOk t at_)
theorem tpB_no {t : Tp} {at_ : Int} (h : ¬ tpOk t at_) : tpB t at_ = false := by unfold tpB; simp only [decide_eq_false_iff_not]; exact h
theorem tpB_iff {t : Tp} {at_ : Int} : tpB t at_ = true ↔ tpOk t at_ := by unfold tpB; simp only [decide_eq_true_eq]
theorem partsB_iff {t : Tp} {at_ : Int} : partsB t at_ 64 = true ↔ partsOk t at_ := by
  unfold partsB partsOk
  simp only [decide_eq_true_eq]
  constructor
  · rintro ⟨h1, h2, h3⟩; exact ⟨h1, by omega, h3⟩
  rintro ⟨h1, h2, h3⟩; exact ⟨h1, by omega, h3⟩
theorem len0 {t : Tp} : ((t.parts.length : Nat) : Int) = 0 ↔ t.parts = [] := by
  rw [show ((t.parts.length : Nat) : Int) = 0 ↔ t.parts.length = 0 by omega]; exact List.length_eq_zero_iff
theorem tpB_123 {t : Tp} {at_ : Int} (hk : t.kind = 1 ∨ t.kind = 2 ∨ t.kind = 3) (hn : numOk t.kind t.n) : tpB t at_ = (decide (t.elem = 0) && decide (((t.parts.length : Nat) : Int) = 0)) := by
  rw [Bool.eq_iff_iff, tpB_iff, Bool.and_eq_true, decide_eq_true_eq, decide_eq_true_eq, len0, tpOk, if_pos hk]
  exact ⟨fun h => h.2, fun h => ⟨hn, h⟩⟩
theorem tpB_456 {t : Tp} {at_ : Int} (hk : t.kind = 4 ∨ t.kind = 5 ∨ t.kind = 6) (hn : numOk t.kind t.n) : tpB t at_ = (decide (0 ≤ t.elem ∧ t.elem < at_) && decide (((t.parts.length : Nat) : Int) = 0)) := by
  rw [Bool.eq_iff_iff, tpB_iff, Bool.and_eq_true, decide_eq_true_eq, decide_eq_true_eq, len0, tpOk, if_neg (by omega), if_pos hk]
  exact ⟨fun h => ⟨⟨h.2.1, h.2.2.1⟩, h.2.2.2⟩, fun h => ⟨hn, h.1.1, h.1.2, h.2⟩⟩
theorem tpB_78 {t : Tp} {at_ : Int} (hk : t.kind = 7 ∨ t.kind = 8) (hn : numOk t.kind t.n) : tpB t at_ = (decide (t.elem = 0) && partsB t at_ 64) := by
  rw [Bool.eq_iff_iff, tpB_iff, Bool.and_eq_true, decide_eq_true_eq, partsB_iff, tpOk, if_neg (by omega), if_neg (by omega)]
  exact ⟨fun h => ⟨h.2.2.1, h.2.2.2⟩, fun h => ⟨hn, hk, h⟩⟩
theorem tpB_else {t : Tp} {at_ : Int} (h : ¬ (t.kind = 1 ∨ t.kind = 2 ∨ t.kind = 3) ∧ ¬ (t.kind = 4 ∨ t.kind = 5 ∨ t.kind = 6) ∧ ¬ (t.kind = 7 ∨ t.kind = 8)) : tpB t at_ = false := by
  refine tpB_no fun hh => ?_
  rw [tpOk, if_neg h.1, if_neg h.2.1] at hh
  exact h.2.2 hh.2.1

set_option maxHeartbeats 4000000 in
theorem tright_spec (t : Tp) (pv : Value) (at_ : Int) (w0 : World) (hS00 : Sl w0 3 pv t.parts.length (pas t.parts)) (hl : TLim t) : Ca Try.prog 32 #[.agg (tcell t pv).toArray, .int .i64 at_] w0 (fun v w' => v = .bool (tpB t at_) ∧ Ext w0 w') := by
  refine Ca.of Try.func32 Try.ntmps32 rfl rfl ?_
  refine W.seq ?_
  refine W.region ?_
  refine WL.c rfl (o_boxB rfl ?_)
  intro w2 hC2 hx2 hs2
  obtain ⟨b2, hb2⟩ : ∃ b, b = w0.heap.size := ⟨_, rfl⟩
  rw [← hb2] at hC2 ⊢
  replace hC2 : w2.heap[b2]? = some (.cells (tcell t pv).toArray 50 (0, 0)) := hC2
  have hx := hx2
  refine WL.c rfl (o_ash (show _ = Value.bool _ from rfl) ?_)
  refine WL.nil ?_
  refine W.seq ?_
  refine W.seq ?_
  refine W.region ?_
  refine WL.c rfl (o_fa 0 TI50 rfl TI3 rfl rfl ?_)
  refine WL.c rfl (o_ld TI3 rfl rfl (cell_of hC2 rfl) ?_)
  refine WL.c rfl (o_fa 1 TI50 rfl TI3 rfl rfl ?_)
  refine WL.c rfl (o_ld TI3 rfl rfl (cell_of hC2 rfl) ?_)
  refine WL.c rfl (o_call Try.call58 (lc rfl (lc rfl ln)) ((tnumber_spec t.kind t.n _).mono ?_))
  rintro v10 w10 ⟨rfl, rfl⟩
  refine WL.c rfl (o_not' rfl ?_)
  refine WL.nil ?_
  refine W.cond rfl (fun c11 => ?_) (fun c11 => ?_)
  · try simp only [cs8] at c11
    have hnk : ¬ numOk t.kind t.n := by simpa using c11
    refine W.seq ?_
    refine W.region ?_
    refine WL.c rfl (o_ash (show _ = Value.bool _ from rfl) ?_)
    refine WL.nil ?_
    refine W.ret ?_
    refine ret1v rfl (show _ = Value.bool _ from rfl) ?_
    exact ⟨congrArg Value.bool (tpB_no (fun h => hnk h.1)).symm, hx⟩
  try simp only [cs8] at c11
  have hnk : numOk t.kind t.n := by simpa using c11
  refine W.skip ?_
  refine W.seq ?_
  refine W.region ?_
  refine WL.cut (fun e1 w1 => e1 5 = .bool (decide (0 ≤ t.elem ∧ t.elem < at_)) ∧ e1 1 = .int .i64 at_ ∧ e1 2 = .pointer (some ⟨b2, 0, none⟩) ∧ w1.heap[b2]? = some (.cells (tcell t pv).toArray 50 (0, 0)) ∧ Ext w0 w1) ?_ ?_
  · -- region 3
    refine WL.c rfl (o_fa 2 TI50 rfl TI3 rfl rfl ?_)
    refine WL.c rfl (o_ld TI3 rfl rfl (cell_of hC2 rfl) ?_)
    refine WL.c rfl (o_ge rfl rfl ?_)
    refine WL.c rfl (o_mvh (show _ = Value.bool _ from rfl) ?_)
    refine WL.sp 3 rfl (fun g15 => ?_) (fun g15 => ?_)
    · skip
      refine WL.g rfl (g15) rfl (o_fa 2 TI50 rfl TI3 rfl rfl ?_)
      refine WL.g rfl (g15) rfl (o_ld TI3 rfl rfl (cell_of hC2 rfl) ?_)
      refine WL.g rfl (g15) rfl (o_mvh (show _ = Value.int _ _ from rfl) ?_)
      refine WL.g rfl (g15) rfl (o_lt rfl rfl ?_)
      refine WL.c rfl (o_pickA rfl rfl ?_)
      refine WL.c rfl (o_ash (show _ = Value.bool _ from rfl) ?_)
      exact WL.nil (⟨congrArg Value.bool (by first | (have := of_decide_eq_false g15; rw [eq_comm, decide_eq_false_iff_not]; omega) | (have := of_decide_eq_true g15; rw [Bool.eq_iff_iff, Bool.and_eq_true, decide_eq_true_eq, decide_eq_true_eq, decide_eq_true_eq])), rfl, rfl, hC2, hx⟩)
    skip
    refine WL.s rfl (g15) rfl ?_
    refine WL.s rfl (g15) rfl ?_
    refine WL.s rfl (g15) rfl ?_
    refine WL.s rfl (g15) rfl ?_
    refine WL.c rfl (o_pickF rfl (g15) ?_)
    refine WL.c rfl (o_ash (show _ = Value.bool _ from rfl) ?_)
    exact WL.nil (⟨congrArg Value.bool (by first | (have := of_decide_eq_false g15; rw [eq_comm, decide_eq_false_iff_not]; omega) | (have := of_decide_eq_true g15; rw [Bool.eq_iff_iff, Bool.and_eq_true, decide_eq_true_eq, decide_eq_true_eq, decide_eq_true_eq])), rfl, rfl, hC2, hx⟩)
  rintro e w ⟨h5, h1, h2, hC2, hx⟩
  refine W.seq ?_
  refine W.seq ?_
  refine W.region ?_
  refine WL.c rfl (o_fa 0 TI50 rfl TI3 rfl h2 ?_)
  refine WL.c rfl (o_ld TI3 rfl rfl (cell_of hC2 rfl) ?_)
  refine WL.nil ?_
  refine W.block ?_
  refine W.seq ?_
  refine W.seq ?_
  by_cases k1 : t.kind = 1
  rotate_left
  by_cases k2 : t.kind = 2
  rotate_left
  by_cases k3 : t.kind = 3
  rotate_left
  by_cases k4 : t.kind = 4
  rotate_left
  by_cases k5 : t.kind = 5
  rotate_left
  by_cases k6 : t.kind = 6
  rotate_left
  by_cases k8 : t.kind = 8
  rotate_left
  by_cases k7 : t.kind = 7
  · skip
    have hkk : t.kind = 7 ∨ t.kind = 8 := by omega
    refine W.region ?_
    refine WL.c rfl (o_eq rfl rfl ?_)
    refine WL.c rfl (o_ash (show _ = Value.bool _ from rfl) ?_)
    refine WL.nil ?_
    refine W.condF' rfl (decide_eq_false k1) ?_
    refine W.seq ?_
    refine W.region ?_
    refine WL.c rfl (o_eq rfl rfl ?_)
    refine WL.c rfl (o_ash (show _ = Value.bool _ from rfl) ?_)
    refine WL.nil ?_
    refine W.condF' rfl (decide_eq_false k2) ?_
    refine W.region ?_
    refine WL.c rfl (o_eq rfl rfl ?_)
    refine WL.c rfl (o_ash (show _ = Value.bool _ from rfl) ?_)
    refine WL.nil ?_
    refine W.condF' rfl (decide_eq_false k3) ?_
    refine W.seq ?_
    refine W.seq ?_
    refine W.region ?_
    refine WL.c rfl (o_eq rfl rfl ?_)
    refine WL.c rfl (o_ash (show _ = Value.bool _ from rfl) ?_)
    refine WL.nil ?_
    refine W.condF' rfl (decide_eq_false k4) ?_
    refine W.seq ?_
    refine W.region ?_
    refine WL.c rfl (o_eq rfl rfl ?_)
    refine WL.c rfl (o_ash (show _ = Value.bool _ from rfl) ?_)
    refine WL.nil ?_
    refine W.condF' rfl (decide_eq_false k5) ?_
    refine W.region ?_
    refine WL.c rfl (o_eq rfl rfl ?_)
    refine WL.c rfl (o_ash (show _ = Value.bool _ from rfl) ?_)
    refine WL.nil ?_
    refine W.condF' rfl (decide_eq_false k6) ?_
    refine W.seq ?_
    refine W.region ?_
    refine WL.c rfl (o_eq rfl rfl ?_)
    refine WL.c rfl (o_ash (show _ = Value.bool _ from rfl) ?_)
    refine WL.nil ?_
    refine W.condF' rfl (decide_eq_false k8) ?_
    refine W.seq ?_
    refine W.region ?_
    refine WL.c rfl (o_eq rfl rfl ?_)
    refine WL.c rfl (o_ash (show _ = Value.bool _ from rfl) ?_)
    refine WL.nil ?_
    refine W.condT' rfl (decide_eq_true k7) ?_
    refine W.seq ?_
    refine W.region ?_
    refine WL.c rfl (o_fa 2 TI50 rfl TI3 rfl h2 ?_)
    refine WL.c rfl (o_ld TI3 rfl rfl (cell_of hC2 rfl) ?_)
    refine WL.c rfl (o_eq rfl rfl ?_)
    refine WL.c rfl (o_mvh (show _ = Value.bool _ from rfl) ?_)
    refine WL.sp 3 rfl (fun g62 => ?_) (fun g62 => ?_)
    · skip
      refine WL.g rfl (g62) rfl (o_ldA TI50 rfl h2 (show Cells _ b2 0 (tcell t pv) from Cells.of hC2 0 _ (by simp)) rfl ?_)
      refine WL.g rfl (g62) rfl (o_mvh h1 ?_)
      refine WL.g rfl (g62) rfl (o_call Try.call59 (lc rfl (lc rfl (lc rfl ln))) ((tparts_spec t pv at_ 64 _ (hS00.ext hx) hl).mono ?_))
      rintro v65 w65 ⟨rfl, hx65⟩
      replace hx := hx.tr hx65
      refine WL.c rfl (o_pickA rfl rfl ?_)
      refine WL.c rfl (o_ash (show _ = Value.bool _ from rfl) ?_)
      refine WL.nil ?_
      refine W.ret ?_
      refine ret1v rfl (show _ = Value.bool _ from rfl) ?_
      exact ⟨congrArg Value.bool (by first | exact (tpB_78 hkk hnk).symm | (rw [tpB_78 hkk hnk, g62]; rfl)), hx⟩
    skip
    refine WL.s rfl (g62) rfl ?_
    refine WL.s rfl (g62) rfl ?_
    refine WL.s rfl (g62) rfl ?_
    refine WL.c rfl (o_pickF rfl (g62) ?_)
    refine WL.c rfl (o_ash (show _ = Value.bool _ from rfl) ?_)
    refine WL.nil ?_
    refine W.ret ?_
    refine ret1v rfl (show _ = Value.bool _ from rfl) ?_
    exact ⟨congrArg Value.bool (by first | exact (tpB_78 hkk hnk).symm | (rw [tpB_78 hkk hnk, g62]; rfl)), hx⟩
  · skip
    skip
    refine W.region ?_
    refine WL.c rfl (o_eq rfl rfl ?_)
    refine WL.c rfl (o_ash (show _ = Value.bool _ from rfl) ?_)
    refine WL.nil ?_
    refine W.condF' rfl (decide_eq_false k1) ?_
    refine W.seq ?_
    refine W.region ?_
    refine WL.c rfl (o_eq rfl rfl ?_)
    refine WL.c rfl (o_ash (show _ = Value.bool _ from rfl) ?_)
    refine WL.nil ?_
    refine W.condF' rfl (decide_eq_false k2) ?_
    refine W.region ?_
    refine WL.c rfl (o_eq rfl rfl ?_)
    refine WL.c rfl (o_ash (show _ = Value.bool _ from rfl) ?_)
    refine WL.nil ?_
    refine W.condF' rfl (decide_eq_false k3) ?_
    refine W.seq ?_
    refine W.seq ?_
    refine W.region ?_
    refine WL.c rfl (o_eq rfl rfl ?_)
    refine WL.c rfl (o_ash (show _ = Value.bool _ from rfl) ?_)
    refine WL.nil ?_
    refine W.condF' rfl (decide_eq_false k4) ?_
    refine W.seq ?_
    refine W.region ?_
    refine WL.c rfl (o_eq rfl rfl ?_)
    refine WL.c rfl (o_ash (show _ = Value.bool _ from rfl) ?_)
    refine WL.nil ?_
    refine W.condF' rfl (decide_eq_false k5) ?_
    refine W.region ?_
    refine WL.c rfl (o_eq rfl rfl ?_)
    refine WL.c rfl (o_ash (show _ = Value.bool _ from rfl) ?_)
    refine WL.nil ?_
    refine W.condF' rfl (decide_eq_false k6) ?_
    refine W.seq ?_
    refine W.region ?_
    refine WL.c rfl (o_eq rfl rfl ?_)
    refine WL.c rfl (o_ash (show _ = Value.bool _ from rfl) ?_)
    refine WL.nil ?_
    refine W.condF' rfl (decide_eq_false k8) ?_
    refine W.seq ?_
    refine W.region ?_
    refine WL.c rfl (o_eq rfl rfl ?_)
    refine WL.c rfl (o_ash (show _ = Value.bool _ from rfl) ?_)
    refine WL.nil ?_
    refine W.condF' rfl (decide_eq_false k7) ?_
    refine W.skip ?_
    refine W.seq ?_
    refine W.region ?_
    refine WL.c rfl (o_ash (show _ = Value.bool _ from rfl) ?_)
    refine WL.nil ?_
    refine W.ret ?_
    refine ret1v rfl (show _ = Value.bool _ from rfl) ?_
    exact ⟨congrArg Value.bool (tpB_else ⟨by omega, by omega, by omega⟩).symm, hx⟩
  · skip
    have hkk : t.kind = 1 ∨ t.kind = 2 ∨ t.kind = 3 := by omega
    refine W.region ?_
    refine WL.c rfl (o_eq rfl rfl ?_)
    refine WL.c rfl (o_ash (show _ = Value.bool _ from rfl) ?_)
    refine WL.nil ?_
    refine W.condT' rfl (decide_eq_true k1) ?_
    refine W.skip ?_
    refine W.condT' rfl (decide_eq_true k1) ?_
    refine W.seq ?_
    refine W.region ?_
    refine WL.c rfl (o_fa 2 TI50 rfl TI3 rfl h2 ?_)
    refine WL.c rfl (o_ld TI3 rfl rfl (cell_of hC2 rfl) ?_)
    refine WL.c rfl (o_eq rfl rfl ?_)
    refine WL.c rfl (o_mvh (show _ = Value.bool _ from rfl) ?_)
    refine WL.sp 3 rfl (fun g30 => ?_) (fun g30 => ?_)
    · skip
      refine WL.g rfl (g30) rfl (o_fa 3 TI50 rfl TI48 rfl h2 ?_)
      refine WL.g rfl (g30) rfl (o_ld TI48 rfl rfl (cell_of hC2 rfl) ?_)
      refine WL.g rfl (g30) rfl (o_lenR TI48 rfl (hS00.ext hx) ?_)
      refine WL.g rfl (g30) rfl (o_eq rfl rfl ?_)
      refine WL.c rfl (o_pickA rfl rfl ?_)
      refine WL.c rfl (o_ash (show _ = Value.bool _ from rfl) ?_)
      refine WL.nil ?_
      refine W.ret ?_
      refine ret1v rfl (show _ = Value.bool _ from rfl) ?_
      exact ⟨congrArg Value.bool (by first | exact (tpB_123 hkk hnk).symm | (rw [tpB_123 hkk hnk, g30]; rfl)), hx⟩
    skip
    refine WL.s rfl (g30) rfl ?_
    refine WL.s rfl (g30) rfl ?_
    refine WL.s rfl (g30) rfl ?_
    refine WL.s rfl (g30) rfl ?_
    refine WL.c rfl (o_pickF rfl (g30) ?_)
    refine WL.c rfl (o_ash (show _ = Value.bool _ from rfl) ?_)
    refine WL.nil ?_
    refine W.ret ?_
    refine ret1v rfl (show _ = Value.bool _ from rfl) ?_
    exact ⟨congrArg Value.bool (by first | exact (tpB_123 hkk hnk).symm | (rw [tpB_123 hkk hnk, g30]; rfl)), hx⟩
  · skip
    have hkk : t.kind = 1 ∨ t.kind = 2 ∨ t.kind = 3 := by omega
    refine W.region ?_
    refine WL.c rfl (o_eq rfl rfl ?_)
    refine WL.c rfl (o_ash (show _ = Value.bool _ from rfl) ?_)
    refine WL.nil ?_
    refine W.condF' rfl (decide_eq_false k1) ?_
    refine W.seq ?_
    refine W.region ?_
    refine WL.c rfl (o_eq rfl rfl ?_)
    refine WL.c rfl (o_ash (show _ = Value.bool _ from rfl) ?_)
    refine WL.nil ?_
    refine W.condT' rfl (decide_eq_true k2) ?_
    refine W.skip ?_
    refine W.condT' rfl (decide_eq_true k2) ?_
    refine W.seq ?_
    refine W.region ?_
    refine WL.c rfl (o_fa 2 TI50 rfl TI3 rfl h2 ?_)
    refine WL.c rfl (o_ld TI3 rfl rfl (cell_of hC2 rfl) ?_)
    refine WL.c rfl (o_eq rfl rfl ?_)
    refine WL.c rfl (o_mvh (show _ = Value.bool _ from rfl) ?_)
    refine WL.sp 3 rfl (fun g30 => ?_) (fun g30 => ?_)
    · skip
      refine WL.g rfl (g30) rfl (o_fa 3 TI50 rfl TI48 rfl h2 ?_)
      refine WL.g rfl (g30) rfl (o_ld TI48 rfl rfl (cell_of hC2 rfl) ?_)
      refine WL.g rfl (g30) rfl (o_lenR TI48 rfl (hS00.ext hx) ?_)
      refine WL.g rfl (g30) rfl (o_eq rfl rfl ?_)
      refine WL.c rfl (o_pickA rfl rfl ?_)
      refine WL.c rfl (o_ash (show _ = Value.bool _ from rfl) ?_)
      refine WL.nil ?_
      refine W.ret ?_
      refine ret1v rfl (show _ = Value.bool _ from rfl) ?_
      exact ⟨congrArg Value.bool (by first | exact (tpB_123 hkk hnk).symm | (rw [tpB_123 hkk hnk, g30]; rfl)), hx⟩
    skip
    refine WL.s rfl (g30) rfl ?_
    refine WL.s rfl (g30) rfl ?_
    refine WL.s rfl (g30) rfl ?_
    refine WL.s rfl (g30) rfl ?_
    refine WL.c rfl (o_pickF rfl (g30) ?_)
    refine WL.c rfl (o_ash (show _ = Value.bool _ from rfl) ?_)
    refine WL.nil ?_
    refine W.ret ?_
    refine ret1v rfl (show _ = Value.bool _ from rfl) ?_
    exact ⟨congrArg Value.bool (by first | exact (tpB_123 hkk hnk).symm | (rw [tpB_123 hkk hnk, g30]; rfl)), hx⟩
  · skip
    have hkk : t.kind = 1 ∨ t.kind = 2 ∨ t.kind = 3 := by omega
    refine W.region ?_
    refine WL.c rfl (o_eq rfl rfl ?_)
    refine WL.c rfl (o_ash (show _ = Value.bool _ from rfl) ?_)
    refine WL.nil ?_
    refine W.condF' rfl (decide_eq_false k1) ?_
    refine W.seq ?_
    refine W.region ?_
    refine WL.c rfl (o_eq rfl rfl ?_)
    refine WL.c rfl (o_ash (show _ = Value.bool _ from rfl) ?_)
    refine WL.nil ?_
    refine W.condF' rfl (decide_eq_false k2) ?_
    refine W.region ?_
    refine WL.c rfl (o_eq rfl rfl ?_)
    refine WL.c rfl (o_ash (show _ = Value.bool _ from rfl) ?_)
    refine WL.nil ?_
    refine W.condT' rfl (decide_eq_true k3) ?_
    refine W.seq ?_
    refine W.region ?_
    refine WL.c rfl (o_fa 2 TI50 rfl TI3 rfl h2 ?_)
    refine WL.c rfl (o_ld TI3 rfl rfl (cell_of hC2 rfl) ?_)
    refine WL.c rfl (o_eq rfl rfl ?_)
    refine WL.c rfl (o_mvh (show _ = Value.bool _ from rfl) ?_)
    refine WL.sp 3 rfl (fun g30 => ?_) (fun g30 => ?_)
    · skip
      refine WL.g rfl (g30) rfl (o_fa 3 TI50 rfl TI48 rfl h2 ?_)
      refine WL.g rfl (g30) rfl (o_ld TI48 rfl rfl (cell_of hC2 rfl) ?_)
      refine WL.g rfl (g30) rfl (o_lenR TI48 rfl (hS00.ext hx) ?_)
      refine WL.g rfl (g30) rfl (o_eq rfl rfl ?_)
      refine WL.c rfl (o_pickA rfl rfl ?_)
      refine WL.c rfl (o_ash (show _ = Value.bool _ from rfl) ?_)
      refine WL.nil ?_
      refine W.ret ?_
      refine ret1v rfl (show _ = Value.bool _ from rfl) ?_
      exact ⟨congrArg Value.bool (by first | exact (tpB_123 hkk hnk).symm | (rw [tpB_123 hkk hnk, g30]; rfl)), hx⟩
    skip
    refine WL.s rfl (g30) rfl ?_
    refine WL.s rfl (g30) rfl ?_
    refine WL.s rfl (g30) rfl ?_
    refine WL.s rfl (g30) rfl ?_
    refine WL.c rfl (o_pickF rfl (g30) ?_)
    refine WL.c rfl (o_ash (show _ = Value.bool _ from rfl) ?_)
    refine WL.nil ?_
    refine W.ret ?_
    refine ret1v rfl (show _ = Value.bool _ from rfl) ?_
    exact ⟨congrArg Value.bool (by first | exact (tpB_123 hkk hnk).symm | (rw [tpB_123 hkk hnk, g30]; rfl)), hx⟩
  · skip
    have hkk : t.kind = 4 ∨ t.kind = 5 ∨ t.kind = 6 := by omega
    refine W.region ?_
    refine WL.c rfl (o_eq rfl rfl ?_)
    refine WL.c rfl (o_ash (show _ = Value.bool _ from rfl) ?_)
    refine WL.nil ?_
    refine W.condF' rfl (decide_eq_false k1) ?_
    refine W.seq ?_
    refine W.region ?_
    refine WL.c rfl (o_eq rfl rfl ?_)
    refine WL.c rfl (o_ash (show _ = Value.bool _ from rfl) ?_)
    refine WL.nil ?_
    refine W.condF' rfl (decide_eq_false k2) ?_
    refine W.region ?_
    refine WL.c rfl (o_eq rfl rfl ?_)
    refine WL.c rfl (o_ash (show _ = Value.bool _ from rfl) ?_)
    refine WL.nil ?_
    refine W.condF' rfl (decide_eq_false k3) ?_
    refine W.seq ?_
    refine W.seq ?_
    refine W.region ?_
    refine WL.c rfl (o_eq rfl rfl ?_)
    refine WL.c rfl (o_ash (show _ = Value.bool _ from rfl) ?_)
    refine WL.nil ?_
    refine W.condT' rfl (decide_eq_true k4) ?_
    refine W.skip ?_
    refine W.condT' rfl (decide_eq_true k4) ?_
    refine W.seq ?_
    refine W.region ?_
    refine WL.c rfl (o_mvh h5 ?_)
    refine WL.c rfl (o_mvh (show _ = Value.bool _ from rfl) ?_)
    refine WL.sp 1 rfl (fun g41 => ?_) (fun g41 => ?_)
    · skip
      refine WL.g rfl (g41) rfl (o_fa 3 TI50 rfl TI48 rfl h2 ?_)
      refine WL.g rfl (g41) rfl (o_ld TI48 rfl rfl (cell_of hC2 rfl) ?_)
      refine WL.g rfl (g41) rfl (o_lenR TI48 rfl (hS00.ext hx) ?_)
      refine WL.g rfl (g41) rfl (o_eq rfl rfl ?_)
      refine WL.c rfl (o_pickA rfl rfl ?_)
      refine WL.c rfl (o_ash (show _ = Value.bool _ from rfl) ?_)
      refine WL.nil ?_
      refine W.ret ?_
      refine ret1v rfl (show _ = Value.bool _ from rfl) ?_
      exact ⟨congrArg Value.bool (by first | exact (tpB_456 hkk hnk).symm | (rw [tpB_456 hkk hnk, g41]; rfl)), hx⟩
    skip
    refine WL.s rfl (g41) rfl ?_
    refine WL.s rfl (g41) rfl ?_
    refine WL.s rfl (g41) rfl ?_
    refine WL.s rfl (g41) rfl ?_
    refine WL.c rfl (o_pickF rfl (g41) ?_)
    refine WL.c rfl (o_ash (show _ = Value.bool _ from rfl) ?_)
    refine WL.nil ?_
    refine W.ret ?_
    refine ret1v rfl (show _ = Value.bool _ from rfl) ?_
    exact ⟨congrArg Value.bool (by first | exact (tpB_456 hkk hnk).symm | (rw [tpB_456 hkk hnk, g41]; rfl)), hx⟩
  · skip
    have hkk : t.kind = 4 ∨ t.kind = 5 ∨ t.kind = 6 := by omega
    refine W.region ?_
    refine WL.c rfl (o_eq rfl rfl ?_)
    refine WL.c rfl (o_ash (show _ = Value.bool _ from rfl) ?_)
    refine WL.nil ?_
    refine W.condF' rfl (decide_eq_false k1) ?_
    refine W.seq ?_
    refine W.region ?_
    refine WL.c rfl (o_eq rfl rfl ?_)
    refine WL.c rfl (o_ash (show _ = Value.bool _ from rfl) ?_)
    refine WL.nil ?_
    refine W.condF' rfl (decide_eq_false k2) ?_
    refine W.region ?_
    refine WL.c rfl (o_eq rfl rfl ?_)
    refine WL.c rfl (o_ash (show _ = Value.bool _ from rfl) ?_)
    refine WL.nil ?_
    refine W.condF' rfl (decide_eq_false k3) ?_
    refine W.seq ?_
    refine W.seq ?_
    refine W.region ?_
    refine WL.c rfl (o_eq rfl rfl ?_)
    refine WL.c rfl (o_ash (show _ = Value.bool _ from rfl) ?_)
    refine WL.nil ?_
    refine W.condF' rfl (decide_eq_false k4) ?_
    refine W.seq ?_
    refine W.region ?_
    refine WL.c rfl (o_eq rfl rfl ?_)
    refine WL.c rfl (o_ash (show _ = Value.bool _ from rfl) ?_)
    refine WL.nil ?_
    refine W.condT' rfl (decide_eq_true k5) ?_
    refine W.skip ?_
    refine W.condT' rfl (decide_eq_true k5) ?_
    refine W.seq ?_
    refine W.region ?_
    refine WL.c rfl (o_mvh h5 ?_)
    refine WL.c rfl (o_mvh (show _ = Value.bool _ from rfl) ?_)
    refine WL.sp 1 rfl (fun g41 => ?_) (fun g41 => ?_)
    · skip
      refine WL.g rfl (g41) rfl (o_fa 3 TI50 rfl TI48 rfl h2 ?_)
      refine WL.g rfl (g41) rfl (o_ld TI48 rfl rfl (cell_of hC2 rfl) ?_)
      refine WL.g rfl (g41) rfl (o_lenR TI48 rfl (hS00.ext hx) ?_)
      refine WL.g rfl (g41) rfl (o_eq rfl rfl ?_)
      refine WL.c rfl (o_pickA rfl rfl ?_)
      refine WL.c rfl (o_ash (show _ = Value.bool _ from rfl) ?_)
      refine WL.nil ?_
      refine W.ret ?_
      refine ret1v rfl (show _ = Value.bool _ from rfl) ?_
      exact ⟨congrArg Value.bool (by first | exact (tpB_456 hkk hnk).symm | (rw [tpB_456 hkk hnk, g41]; rfl)), hx⟩
    skip
    refine WL.s rfl (g41) rfl ?_
    refine WL.s rfl (g41) rfl ?_
    refine WL.s rfl (g41) rfl ?_
    refine WL.s rfl (g41) rfl ?_
    refine WL.c rfl (o_pickF rfl (g41) ?_)
    refine WL.c rfl (o_ash (show _ = Value.bool _ from rfl) ?_)
    refine WL.nil ?_
    refine W.ret ?_
    refine ret1v rfl (show _ = Value.bool _ from rfl) ?_
    exact ⟨congrArg Value.bool (by first | exact (tpB_456 hkk hnk).symm | (rw [tpB_456 hkk hnk, g41]; rfl)), hx⟩
  · skip
    have hkk : t.kind = 4 ∨ t.kind = 5 ∨ t.kind = 6 := by omega
    refine W.region ?_
    refine WL.c rfl (o_eq rfl rfl ?_)
    refine WL.c rfl (o_ash (show _ = Value.bool _ from rfl) ?_)
    refine WL.nil ?_
    refine W.condF' rfl (decide_eq_false k1) ?_
    refine W.seq ?_
    refine W.region ?_
    refine WL.c rfl (o_eq rfl rfl ?_)
    refine WL.c rfl (o_ash (show _ = Value.bool _ from rfl) ?_)
    refine WL.nil ?_
    refine W.condF' rfl (decide_eq_false k2) ?_
    refine W.region ?_
    refine WL.c rfl (o_eq rfl rfl ?_)
    refine WL.c rfl (o_ash (show _ = Value.bool _ from rfl) ?_)
    refine WL.nil ?_
    refine W.condF' rfl (decide_eq_false k3) ?_
    refine W.seq ?_
    refine W.seq ?_
    refine W.region ?_
    refine WL.c rfl (o_eq rfl rfl ?_)
    refine WL.c rfl (o_ash (show _ = Value.bool _ from rfl) ?_)
    refine WL.nil ?_
    refine W.condF' rfl (decide_eq_false k4) ?_
    refine W.seq ?_
    refine W.region ?_
    refine WL.c rfl (o_eq rfl rfl ?_)
    refine WL.c rfl (o_ash (show _ = Value.bool _ from rfl) ?_)
    refine WL.nil ?_
    refine W.condF' rfl (decide_eq_false k5) ?_
    refine W.region ?_
    refine WL.c rfl (o_eq rfl rfl ?_)
    refine WL.c rfl (o_ash (show _ = Value.bool _ from rfl) ?_)
    refine WL.nil ?_
    refine W.condT' rfl (decide_eq_true k6) ?_
    refine W.seq ?_
    refine W.region ?_
    refine WL.c rfl (o_mvh h5 ?_)
    refine WL.c rfl (o_mvh (show _ = Value.bool _ from rfl) ?_)
    refine WL.sp 1 rfl (fun g41 => ?_) (fun g41 => ?_)
    · skip
      refine WL.g rfl (g41) rfl (o_fa 3 TI50 rfl TI48 rfl h2 ?_)
      refine WL.g rfl (g41) rfl (o_ld TI48 rfl rfl (cell_of hC2 rfl) ?_)
      refine WL.g rfl (g41) rfl (o_lenR TI48 rfl (hS00.ext hx) ?_)
      refine WL.g rfl (g41) rfl (o_eq rfl rfl ?_)
      refine WL.c rfl (o_pickA rfl rfl ?_)
      refine WL.c rfl (o_ash (show _ = Value.bool _ from rfl) ?_)
      refine WL.nil ?_
      refine W.ret ?_
      refine ret1v rfl (show _ = Value.bool _ from rfl) ?_
      exact ⟨congrArg Value.bool (by first | exact (tpB_456 hkk hnk).symm | (rw [tpB_456 hkk hnk, g41]; rfl)), hx⟩
    skip
    refine WL.s rfl (g41) rfl ?_
    refine WL.s rfl (g41) rfl ?_
    refine WL.s rfl (g41) rfl ?_
    refine WL.s rfl (g41) rfl ?_
    refine WL.c rfl (o_pickF rfl (g41) ?_)
    refine WL.c rfl (o_ash (show _ = Value.bool _ from rfl) ?_)
    refine WL.nil ?_
    refine W.ret ?_
    refine ret1v rfl (show _ = Value.bool _ from rfl) ?_
    exact ⟨congrArg Value.bool (by first | exact (tpB_456 hkk hnk).symm | (rw [tpB_456 hkk hnk, g41]; rfl)), hx⟩
  skip
  have hkk : t.kind = 7 ∨ t.kind = 8 := by omega
  refine W.region ?_
  refine WL.c rfl (o_eq rfl rfl ?_)
  refine WL.c rfl (o_ash (show _ = Value.bool _ from rfl) ?_)
  refine WL.nil ?_
  refine W.condF' rfl (decide_eq_false k1) ?_
  refine W.seq ?_
  refine W.region ?_
  refine WL.c rfl (o_eq rfl rfl ?_)
  refine WL.c rfl (o_ash (show _ = Value.bool _ from rfl) ?_)
  refine WL.nil ?_
  refine W.condF' rfl (decide_eq_false k2) ?_
  refine W.region ?_
  refine WL.c rfl (o_eq rfl rfl ?_)
  refine WL.c rfl (o_ash (show _ = Value.bool _ from rfl) ?_)
  refine WL.nil ?_
  refine W.condF' rfl (decide_eq_false k3) ?_
  refine W.seq ?_
  refine W.seq ?_
  refine W.region ?_
  refine WL.c rfl (o_eq rfl rfl ?_)
  refine WL.c rfl (o_ash (show _ = Value.bool _ from rfl) ?_)
  refine WL.nil ?_
  refine W.condF' rfl (decide_eq_false k4) ?_
  refine W.seq ?_
  refine W.region ?_
  refine WL.c rfl (o_eq rfl rfl ?_)
  refine WL.c rfl (o_ash (show _ = Value.bool _ from rfl) ?_)
  refine WL.nil ?_
  refine W.condF' rfl (decide_eq_false k5) ?_
  refine W.region ?_
  refine WL.c rfl (o_eq rfl rfl ?_)
  refine WL.c rfl (o_ash (show _ = Value.bool _ from rfl) ?_)
  refine WL.nil ?_
  refine W.condF' rfl (decide_eq_false k6) ?_
  refine W.seq ?_
  refine W.region ?_
  refine WL.c rfl (o_eq rfl rfl ?_)
  refine WL.c rfl (o_ash (show _ = Value.bool _ from rfl) ?_)
  refine WL.nil ?_
  refine W.condT' rfl (decide_eq_true k8) ?_
  refine W.seq ?_
  refine W.region ?_
  refine WL.c rfl (o_fa 2 TI50 rfl TI3 rfl h2 ?_)
  refine WL.c rfl (o_ld TI3 rfl rfl (cell_of hC2 rfl) ?_)
  refine WL.c rfl (o_eq rfl rfl ?_)
  refine WL.c rfl (o_mvh (show _ = Value.bool _ from rfl) ?_)
  refine WL.sp 3 rfl (fun g52 => ?_) (fun g52 => ?_)
  · skip
    refine WL.g rfl (g52) rfl (o_ldA TI50 rfl h2 (show Cells _ b2 0 (tcell t pv) from Cells.of hC2 0 _ (by simp)) rfl ?_)
    refine WL.g rfl (g52) rfl (o_mvh h1 ?_)
    refine WL.g rfl (g52) rfl (o_call Try.call59 (lc rfl (lc rfl (lc rfl ln))) ((tparts_spec t pv at_ 64 _ (hS00.ext hx) hl).mono ?_))
    rintro v55 w55 ⟨rfl, hx55⟩
    replace hx := hx.tr hx55
    refine WL.c rfl (o_pickA rfl rfl ?_)
    refine WL.c rfl (o_ash (show _ = Value.bool _ from rfl) ?_)
    refine WL.nil ?_
    refine W.ret ?_
    refine ret1v rfl (show _ = Value.bool _ from rfl) ?_
    exact ⟨congrArg Value.bool (by first | exact (tpB_78 hkk hnk).symm | (rw [tpB_78 hkk hnk, g52]; rfl)), hx⟩
  skip
  refine WL.s rfl (g52) rfl ?_
  refine WL.s rfl (g52) rfl ?_
  refine WL.s rfl (g52) rfl ?_
  refine WL.c rfl (o_pickF rfl (g52) ?_)
  refine WL.c rfl (o_ash (show _ = Value.bool _ from rfl) ?_)
  refine WL.nil ?_
  refine W.ret ?_
  refine ret1v rfl (show _ = Value.bool _ from rfl) ?_
  exact ⟨congrArg Value.bool (by first | exact (tpB_78 hkk hnk).symm | (rw [tpB_78 hkk hnk, g52]; rfl)), hx⟩
end Go.Proofs.Ytpbflfgigfdohaa

set_option linter.unusedSimpArgs false
set_option linter.unusedVariables false
set_option maxRecDepth 100000
namespace Go.Proofs.Ytpbflfgigfdohaa
open Go Go.Vc Go.RowKit Go.Proofs

theorem depL_get {L : List Tp} {i j : Nat} (hi : i ≤ L.length) (hj : j < i) : (depL (L.take i) []).getD j 0 = dpI L j := by
  unfold dpI
  rw [depL_take_eq L i hi, List.getD_eq_getElem?_getD, List.getD_eq_getElem?_getD, List.getElem?_take, if_pos hj]
/-- the depth of the element; of the first q parts too -/
def bsD (L : List Tp) (t : Tp) : Nat := if t.kind = 4 ∨ t.kind = 5 ∨ t.kind = 6 then dpI L t.elem.toNat else 0
def mxD (L : List Tp) (t : Tp) (q : Nat) : Nat := (t.parts.take q).foldl (fun m p => max m (dpI L p.ty.toNat)) (bsD L t)
theorem mxD_zero (L : List Tp) (t : Tp) : mxD L t 0 = bsD L t := by simp [mxD]
theorem mxD_succ {L : List Tp} {t : Tp} {q : Nat} (hq : q < t.parts.length) : mxD L t (q + 1) = max (mxD L t q) (dpI L t.parts[q].ty.toNat) := by
  unfold mxD
  rw [List.take_succ_eq_append_getElem hq, List.foldl_append]; rfl
theorem tp_elem {t : Tp} {at_ : Int} (h : tpOk t at_) (hk : t.kind = 4 ∨ t.kind = 5 ∨ t.kind = 6) : 0 ≤ t.elem ∧ t.elem < at_ := by
  obtain ⟨-, h2⟩ := h
  rw [if_neg (by omega), if_pos hk] at h2
  exact ⟨h2.1, h2.2.1⟩
theorem tp_part {t : Tp} {at_ : Int} (h : tpOk t at_) {q : Nat} (hq : q < t.parts.length) : 0 ≤ t.parts[q].ty ∧ t.parts[q].ty < at_ := by
  obtain ⟨-, h2⟩ := h
  have hne : ¬ t.parts = [] := by intro e; rw [e] at hq; simp at hq
  split at h2
  · exact absurd h2.2 hne
  split at h2
  · exact absurd h2.2.2 hne
  obtain ⟨_, -, h3, h4, -⟩ := h2.2.2.2.2 q hq
  exact ⟨h3, h4⟩
theorem foldl_cong {α β : Type} {f g : β → α → β} : ∀ (l : List α) (b : β), (∀ b, ∀ a ∈ l, f b a = g b a) → l.foldl f b = l.foldl g b
  | [], _, _ => rfl
  | a :: l, b, h => by rw [List.foldl_cons, List.foldl_cons, h b a (List.mem_cons_self ..)]; exact foldl_cong l _ fun b x hx => h b x (List.mem_cons_of_mem _ hx)
theorem dpI_mx {L : List Tp} {i : Nat} (hi : i < L.length) (hok : tpOk L[i] (i : Int)) : dpI L i = mxD L L[i] L[i].parts.length + 1 := by
  rw [dpI_at hi, dpT1, mxD, List.take_length, bsD]
  congr 1
  have hb : (if L[i].kind = 4 ∨ L[i].kind = 5 ∨ L[i].kind = 6 then (depL (L.take i) []).getD L[i].elem.toNat 0 else 0) = if L[i].kind = 4 ∨ L[i].kind = 5 ∨ L[i].kind = 6 then dpI L L[i].elem.toNat else 0 := by
    split
    · rename_i hk
      have := tp_elem hok hk
      exact depL_get (by omega) (by omega)
    rfl
  rw [hb]
  refine foldl_cong _ _ fun b a ha => ?_
  obtain ⟨q, hq, rfl⟩ := List.getElem_of_mem ha
  have := tp_part hok hq
  rw [depL_get (by omega) (by omega)]
theorem mxD_le {L : List Tp} {i : Nat} (hi : i < L.length) (hok : tpOk L[i] (i : Int)) (hd : ∀ j, j < i → ¬ 64 < dpI L j) : ∀ q, q ≤ L[i].parts.length → mxD L L[i] q ≤ 64
  | 0, _ => by
    rw [mxD_zero, bsD]
    split
    · rename_i hk
      have := tp_elem hok hk
      have := hd L[i].elem.toNat (by omega)
      omega
    omega
  | q + 1, hq => by
    rw [mxD_succ (by omega)]
    have h1 := mxD_le hi hok hd q (by omega)
    have h2 := tp_part hok (q := q) (by omega)
    have h3 := hd L[i].parts[q].ty.toNat (by omega)
    omega
def dpV (L : List Tp) : Int × Int := (dpF L).getD (0, 0)
theorem dpV_hit {L : List Tp} {i : Nat} (hi : i < L.length) (h : 64 < dpI L i) (hb : ∀ j, j < i → ¬ 64 < dpI L j) : dpF L = some (83, (i : Int)) := firstN_hit hi (by rw [if_pos h]) (fun j hj => if_neg (hb j hj))
theorem dpV_no {L : List Tp} (h : ∀ j, j < L.length → ¬ 64 < dpI L j) : dpF L = none := firstN_miss fun j hj => if_neg (h j hj)
/-- what the machine can hold of a list of types -/
structure LLim (L : List Tp) : Prop where
  len : L.length * 48 ≤ 140737488351232
  ty : ∀ t ∈ L, TLim t

set_option maxHeartbeats 4000000 in
theorem tdeep_spec (L : List Tp) (lv : Value) (V : Nat → Value) (w0 : World) (hT : TypR w0 L lv V) (hok : ∀ i (hi : i < L.length), tpOk L[i] (i : Int)) (hl : LLim L) : Ca Try.prog 33 #[lv] w0 (fun v w' => v = .agg #[.int .i64 (dpV L).1, .int .i64 (dpV L).2] ∧ Ext w0 w') := by
  have hlen := hl.len
  refine Ca.of Try.func33 Try.ntmps33 rfl rfl ?_
  refine W.seq ?_
  refine W.region ?_
  refine WL.c rfl (o_alB TI28 ?_)
  intro wb hC2 hx hsb
  obtain ⟨c2, hc2⟩ : ∃ c, c = w0.heap.size := ⟨_, rfl⟩
  rw [← hc2] at hC2 ⊢
  replace hC2 : wb.heap[c2]? = some (.cells #[.int .i64 0, .int .i64 0] 28 (0, 0)) := hC2
  refine WL.nil ?_
  refine W.seq ?_
  refine W.region ?_
  refine WL.c rfl (o_mvh (by first | exact (show _ = Value.slice _ _ _ from rfl) | exact rfl) ?_)
  refine WL.c rfl (o_lenR TI31 rfl (hT.ext hx).row ?_)
  refine WL.c rfl (o_mk2 TI79 TI3 (l := L.length) (n := L.length) rfl rfl (Nat.le_refl _) (by omega) (by omega) ?_)
  have hro := own_made1 (w := wb) (el := 3) (l := L.length) (n := L.length) (z := .int .i64 0) rfl (Nat.le_refl _) (by omega)
  have hxm : Ext wb (wb.alloc (.cells (madeCells (Value.int .i64 0).cells (L.length * 1)) 3)) := Only.alloc wb _
  generalize wb.alloc (.cells (madeCells (Value.int .i64 0).cells (L.length * 1)) 3) = wt at hro hxm ⊢
  obtain ⟨B, hB⟩ : ∃ b, b = wb.heap.size := ⟨_, rfl⟩
  have hzB : w0.heap.size ≤ B := by rw [hB]; exact hx.size
  rw [← hB] at hro ⊢
  replace hro : wt.ownsRow B 3 1 (.slice (some ⟨B, 0, none⟩) L.length L.length) L.length (dps L.length (fun _ => 0)) := by rw [dps_zero]; exact hro
  replace hx := hx.tr hxm
  replace hC2 := hxm.blk hC2 (fun h => h)
  refine WL.c rfl (o_ash (by first | exact (show _ = Value.slice _ _ _ from rfl) | exact rfl) ?_)
  refine WL.nil ?_
  refine W.seq ?_
  refine W.seq ?_
  refine W.region ?_
  refine WL.c rfl (o_mvh (by first | exact (show _ = Value.slice _ _ _ from rfl) | exact rfl) ?_)
  refine WL.c rfl (o_lenR TI31 rfl (hT.ext hx).row ?_)
  refine WL.c rfl (o_mvh (show _ = Value.int _ _ from rfl) ?_)
  refine WL.nil ?_
  refine W.block ?_
  refine W.loop (fun e w => ∃ (i : Nat) (f : Nat → Nat), i ≤ L.length ∧ e 2 = .pointer (some ⟨c2, 0, none⟩) ∧ e 3 = (.slice (some ⟨B, 0, none⟩) L.length L.length) ∧ e 11 = lv ∧ e 12 = .int .i64 (L.length : Int) ∧ e 13 = .int .i64 (i : Int) ∧ w.ownsRow B 3 1 (.slice (some ⟨B, 0, none⟩) L.length L.length) L.length (dps L.length f) ∧ (∀ j, j < i → f j = dpI L j) ∧ (∀ j, j < i → ¬ 64 < dpI L j) ∧ (∀ j, i ≤ j → f j = 0) ∧ w.heap[c2]? = some (.cells #[.int .i64 0, .int .i64 0] 28 (0, 0)) ∧ Ext w0 w) (fun e w => L.length - (intOf (e 13)).toNat) ?_ ?_
  · exact ⟨0, fun _ => 0, Nat.zero_le _, rfl, rfl, rfl, rfl, rfl, hro, fun j hj => by omega, fun j hj => by omega, fun j hj => rfl, hC2, hx⟩
  rintro e w ⟨i, f, hi, h2, h3, h11, h12, h13, hro, hf, hd, hz, hC2, hx⟩
  have hm13 := h13
  refine W.seq ?_
  refine W.region ?_
  refine WL.c rfl (o_lt h13 h12 ?_)
  refine WL.nil ?_
  refine W.seq ?_
  refine W.cond rfl (fun c14 => ?_) (fun c14 => ?_)
  · try simp only [cs8] at c14
    have hi1 : i < L.length := by omega
    obtain ⟨tb, to_, tc, hlv, htc, hty⟩ := (hT.ext hx).atk hi1
    rw [hlv] at h11
    have hoki := hok i hi1
    have hmx := mxD_le hi1 hoki hd
    have hdm := dpI_mx hi1 hoki
    have htl := (hl.ty _ (List.getElem_mem hi1)).len
    obtain ⟨t, ht⟩ : ∃ t, t = L[i] := ⟨_, rfl⟩
    rw [← ht] at htc hty hoki hmx hdm htl
    have hpt := fun q (hq : q < t.parts.length) => tp_part hoki hq
    refine W.skip ?_
    refine W.seq ?_
    refine W.block ?_
    refine W.seq ?_
    refine W.region ?_
    refine WL.c rfl (o_mvh h13 ?_)
    refine WL.c rfl (o_ixB (i := i) TI31 TI50 h11 h13 (by omega) ?_)
    refine WL.c rfl (o_ldA TI50 rfl rfl htc rfl ?_)
    refine WL.c rfl (o_alB TI50 ?_)
    intro wa hCa hxa hsa
    refine WL.c rfl (o_ash (show _ = Value.int _ _ from rfl) ?_)
    refine WL.u (o_stA TI50 rfl (show _ = Value.agg (tcell t (V i)).toArray from rfl) rfl (List.all_eq_true.2 (tcell_all (sl_one1 hty))) hCa rfl ?_)
    intro wb5 hC5 hob hsb
    have hxb := Ext.own hxa (Nat.le_refl _) hob
    obtain ⟨b5, hb5⟩ : ∃ b, b = w.heap.size := ⟨_, rfl⟩
    rw [← hb5] at hC5 ⊢
    clear hCa hxa hsa hob hsb
    replace hx := hx.tr hxb
    replace hro := own_ext hro hxb
    replace hC2 := hxb.blk hC2 (fun h => h)
    clear hxb
    refine WL.nil ?_
    refine W.seq ?_
    refine W.seq ?_
    refine W.region ?_
    refine WL.c rfl (o_fa 0 TI50 rfl TI3 rfl rfl ?_)
    refine WL.c rfl (o_ld TI3 rfl rfl (cell_of hC5 rfl) ?_)
    refine WL.nil ?_
    refine W.block ?_
    refine W.seq ?_
    refine W.seq ?_
    replace hty := fun w9 (h9 : Ext w0 w9) => (show Sl w9 3 (V i) t.parts.length (pas t.parts) from by have := (hT.ext h9).tys i hi1; rw [pasT_at hi1, ← ht] at this; exact this)
    refine W.region ?_
    refine WL.c rfl (o_eq rfl rfl ?_)
    refine WL.c rfl (o_ash (show _ = Value.bool _ from rfl) ?_)
    refine WL.nil ?_
    refine W.cut (fun e1 w1 => e1 20 = .bool (decide (t.kind = 4 ∨ t.kind = 5 ∨ t.kind = 6)) ∧ e1 2 = .pointer (some ⟨c2, 0, none⟩) ∧ e1 3 = (.slice (some ⟨B, 0, none⟩) L.length L.length) ∧ e1 4 = .int .i64 (i : Int) ∧ e1 5 = .pointer (some ⟨b5, 0, none⟩) ∧ e1 11 = (.slice (some ⟨tb, to_, none⟩) L.length tc) ∧ e1 12 = .int .i64 (L.length : Int) ∧ e1 13 = .int .i64 (i : Int) ∧ w1.ownsRow B 3 1 (.slice (some ⟨B, 0, none⟩) L.length L.length) L.length (dps L.length f) ∧ w1.heap[c2]? = some (.cells #[.int .i64 0, .int .i64 0] 28 (0, 0)) ∧ w1.heap[b5]? = some (.cells (tcell t (V i)).toArray 50 (0, 0)) ∧ Ext w0 w1) ?_ ?_
    · -- both ways
      refine W.cond rfl (fun c20 => ?_) (fun c20 => ?_)
      · try simp only [cs8] at c20
        try have hk4 : t.kind = 4 ∨ t.kind = 5 ∨ t.kind = 6 := c20
        try have hel := tp_elem hoki hk4
        try have hen : t.elem = ((t.elem.toNat : Nat) : Int) := by omega
        refine W.skip ?_
        exact ⟨congrArg Value.bool (by simp_all), h2, h3, rfl, rfl, h11, h12, h13, hro, hC2, hC5, hx⟩
      try simp only [cs8] at c20
      try have hk4 : ¬ (t.kind = 4 ∨ t.kind = 5 ∨ t.kind = 6) := c20
      refine W.seq ?_
      refine W.region ?_
      refine WL.c rfl (o_eq rfl rfl ?_)
      refine WL.c rfl (o_ash (show _ = Value.bool _ from rfl) ?_)
      refine WL.nil ?_
      refine W.cond rfl (fun c20 => ?_) (fun c20 => ?_)
      · try simp only [cs8] at c20
        try have hk4 : t.kind = 4 ∨ t.kind = 5 ∨ t.kind = 6 := c20
        try have hel := tp_elem hoki hk4
        try have hen : t.elem = ((t.elem.toNat : Nat) : Int) := by omega
        refine W.skip ?_
        exact ⟨congrArg Value.bool (by simp_all), h2, h3, rfl, rfl, h11, h12, h13, hro, hC2, hC5, hx⟩
      try simp only [cs8] at c20
      try have hk4 : ¬ (t.kind = 4 ∨ t.kind = 5 ∨ t.kind = 6) := c20
      refine W.region ?_
      refine WL.c rfl (o_eq rfl rfl ?_)
      refine WL.c rfl (o_ash (show _ = Value.bool _ from rfl) ?_)
      refine WL.nil ?_
      exact ⟨congrArg Value.bool (by simp_all), h2, h3, rfl, rfl, h11, h12, h13, hro, hC2, hC5, hx⟩
    rintro e w ⟨h20, h2, h3, h4, h5, h11, h12, h13, hro, hC2, hC5, hx⟩
    refine W.cut (fun e1 w1 => ∃ f2 : Nat → Nat, e1 2 = .pointer (some ⟨c2, 0, none⟩) ∧ e1 3 = (.slice (some ⟨B, 0, none⟩) L.length L.length) ∧ e1 4 = .int .i64 (i : Int) ∧ e1 5 = .pointer (some ⟨b5, 0, none⟩) ∧ e1 11 = (.slice (some ⟨tb, to_, none⟩) L.length tc) ∧ e1 12 = .int .i64 (L.length : Int) ∧ e1 13 = .int .i64 (i : Int) ∧ w1.ownsRow B 3 1 (.slice (some ⟨B, 0, none⟩) L.length L.length) L.length (dps L.length f2) ∧ (∀ j, ¬ j = i → f2 j = f j) ∧ f2 i = bsD L t ∧ w1.heap[c2]? = some (.cells #[.int .i64 0, .int .i64 0] 28 (0, 0)) ∧ w1.heap[b5]? = some (.cells (tcell t (V i)).toArray 50 (0, 0)) ∧ Ext w0 w1) ?_ ?_
    · -- both ways
      refine W.cond h20 (fun c20 => ?_) (fun c20 => ?_)
      · try simp only [cs8] at c20
        try have hk4 : t.kind = 4 ∨ t.kind = 5 ∨ t.kind = 6 := c20
        try have hel := tp_elem hoki hk4
        try have hen : t.elem = ((t.elem.toNat : Nat) : Int) := by omega
        refine W.region ?_
        refine WL.c rfl (o_mvh h3 ?_)
        refine WL.c rfl (o_mvh h4 ?_)
        refine WL.c rfl (o_mvh h3 ?_)
        refine WL.c rfl (o_fa 2 TI50 rfl TI3 rfl h5 ?_)
        refine WL.c rfl (o_ld TI3 rfl rfl (cell_of hC5 rfl) ?_)
        refine WL.c rfl (o_ixB (i := t.elem.toNat) TI79 TI3 (show _ = Value.slice (some ⟨B, 0, none⟩) L.length L.length from rfl) (show _ = Value.int .i64 ((t.elem.toNat : Nat) : Int) from by rw [← hen]; rfl) (by omega) ?_)
        refine WL.c rfl (o_ld TI3 rfl rfl (show World.cell? _ ⟨B, 0 + t.elem.toNat * 1, none⟩ = some (iv (f (t.elem.toNat))) from by rw [Nat.zero_add, Nat.mul_one]; exact own_cell hro (dps_at (by omega))) ?_)
        refine WL.c rfl (o_ixB (i := i) TI79 TI3 (show _ = Value.slice (some ⟨B, 0, none⟩) L.length L.length from rfl) (show _ = Value.int .i64 ((i : Nat) : Int) from rfl) (by omega) ?_)
        refine WL.u (o_stRj TI3 rfl (show 0 + i * 1 = i by omega) (show _ = iv (f t.elem.toNat) from rfl) rfl hro (show Value.ownBlock (Value.slice (some ⟨B, 0, none⟩) L.length L.length) = some B from rfl) (by omega) ?_)
        intro w31 hr31 ho31 hs31
        rw [dps_set] at hr31
        replace hC2 := ho31.blk hC2 (fun h => own_off hro hC2 (by decide) h)
        try replace hC5 := ho31.blk hC5 (fun h => own_off hro hC5 (by decide) h)
        replace hx := hx.trans' ho31 (fun _ h => h) (fun b hb h => by have := (hro.lt b h).1; omega)
        replace hro := hr31
        refine WL.nil ?_
        first | exact ⟨updN f i (f t.elem.toNat), h2, h3, h4, h5, h11, h12, h13, hro, fun j hj => if_neg hj, by unfold updN bsD; rw [if_pos rfl, if_pos hk4, hf _ (by omega)], hC2, hC5, hx⟩ | exact ⟨f, h2, h3, h4, h5, h11, h12, h13, hro, fun j hj => rfl, by unfold bsD; rw [if_neg hk4]; exact hz i (Nat.le_refl _), hC2, hC5, hx⟩
      try simp only [cs8] at c20
      try have hk4 : ¬ (t.kind = 4 ∨ t.kind = 5 ∨ t.kind = 6) := c20
      refine W.skip ?_
      first | exact ⟨updN f i (f t.elem.toNat), h2, h3, h4, h5, h11, h12, h13, hro, fun j hj => if_neg hj, by unfold updN bsD; rw [if_pos rfl, if_pos hk4, hf _ (by omega)], hC2, hC5, hx⟩ | exact ⟨f, h2, h3, h4, h5, h11, h12, h13, hro, fun j hj => rfl, by unfold bsD; rw [if_neg hk4]; exact hz i (Nat.le_refl _), hC2, hC5, hx⟩
    rintro e w ⟨f2, h2, h3, h4, h5, h11, h12, h13, hro, hf2, hfi, hC2, hC5, hx⟩
    refine W.seq ?_
    refine W.seq ?_
    refine W.region ?_
    refine WL.c rfl (o_fa 3 TI50 rfl TI48 rfl h5 ?_)
    refine WL.c rfl (o_ld TI48 rfl rfl (cell_of hC5 rfl) ?_)
    refine WL.c rfl (o_lenR TI48 rfl (hty _ hx) ?_)
    refine WL.c rfl (o_mvh (show _ = Value.int _ _ from rfl) ?_)
    refine WL.nil ?_
    refine W.block ?_
    refine W.loop (fun e w => ∃ (q : Nat) (f : Nat → Nat), q ≤ t.parts.length ∧ e 2 = .pointer (some ⟨c2, 0, none⟩) ∧ e 3 = (.slice (some ⟨B, 0, none⟩) L.length L.length) ∧ e 4 = .int .i64 (i : Int) ∧ e 11 = (.slice (some ⟨tb, to_, none⟩) L.length tc) ∧ e 12 = .int .i64 (L.length : Int) ∧ e 13 = .int .i64 (i : Int) ∧ e 33 = V i ∧ e 34 = .int .i64 (t.parts.length : Int) ∧ e 35 = .int .i64 (q : Int) ∧ w.ownsRow B 3 1 (.slice (some ⟨B, 0, none⟩) L.length L.length) L.length (dps L.length f) ∧ (∀ j, j < i → f j = dpI L j) ∧ f i = mxD L t q ∧ (∀ j, i < j → f j = 0) ∧ w.heap[c2]? = some (.cells #[.int .i64 0, .int .i64 0] 28 (0, 0)) ∧ Ext w0 w) (fun e w => t.parts.length - (intOf (e 35)).toNat) ?_ ?_
    · exact ⟨0, f2, Nat.zero_le _, h2, h3, h4, h11, h12, h13, rfl, rfl, rfl, hro, fun j hj => by rw [hf2 j (by omega)]; exact hf j hj, by rw [mxD_zero]; exact hfi, fun j hj => by rw [hf2 j (by omega)]; exact hz j (by omega), hC2, hx⟩
    rintro e w ⟨q, f, hq, h2, h3, h4, h11, h12, h13, h33, h34, h35, hro, hf, hfi, hz, hC2, hx⟩
    have hm35 := h35
    refine W.seq ?_
    refine W.region ?_
    refine WL.c rfl (o_lt h35 h34 ?_)
    refine WL.nil ?_
    refine W.seq ?_
    refine W.cond rfl (fun c36 => ?_) (fun c36 => ?_)
    · try simp only [cs8] at c36
      have hq1 : q < t.parts.length := by omega
      obtain ⟨ub, uo, uc, hV, huc⟩ := Sl.paq (hty _ hx) hq1
      rw [hV] at h33
      have hptq := hpt q hq1
      obtain ⟨p, hp⟩ : ∃ p, p = t.parts[q] := ⟨_, rfl⟩
      rw [← hp] at huc hptq
      have hen : p.ty = ((p.ty.toNat : Nat) : Int) := by omega
      refine W.skip ?_
      refine W.seq ?_
      refine W.block ?_
      refine W.seq ?_
      refine W.region ?_
      refine WL.c rfl (o_ixB (i := q) TI48 TI52 h33 h35 (by omega) ?_)
      refine WL.c rfl (o_ldA TI52 rfl rfl huc rfl ?_)
      refine WL.c rfl (o_alB TI52 ?_)
      intro wa hCa hxa hsa
      refine WL.u (o_stA TI52 rfl (show _ = Value.agg (paV p).toArray from rfl) rfl rfl hCa rfl ?_)
      intro wb7 hC7 hob hsb
      have hxb := Ext.own hxa (Nat.le_refl _) hob
      obtain ⟨b7, hb7⟩ : ∃ b, b = w.heap.size := ⟨_, rfl⟩
      rw [← hb7] at hC7 ⊢
      clear hCa hxa hsa hob hsb
      replace hx := hx.tr hxb
      replace hro := own_ext hro hxb
      replace hC2 := hxb.blk hC2 (fun h => h)
      clear hxb
      refine WL.nil ?_
      have hxd := Only.drew wb7
      replace hx := hx.tr hxd
      replace hro := own_ext hro hxd
      replace hC2 := hxd.blk hC2 (fun h => h)
      replace hC7 := hxd.blk hC7 (fun h => h)
      refine W.tail 13 rfl (by kernel_rfl) ?_
      refine WS.c rfl ((SO.o rfl (o_mvh h3 ⟨rfl, rfl⟩))) ?_
      refine WS.c rfl ((SO.o rfl (o_mvh h4 ⟨rfl, rfl⟩))) ?_
      refine WS.c rfl ((SO.o rfl (o_mvh h3 ⟨rfl, rfl⟩))) ?_
      refine WS.c rfl ((SO.o rfl (o_mvh h4 ⟨rfl, rfl⟩))) ?_
      refine WS.c rfl ((SO.o rfl (o_ixB (i := i) TI79 TI3 (show _ = Value.slice (some ⟨B, 0, none⟩) L.length L.length from rfl) (show _ = Value.int .i64 ((i : Nat) : Int) from rfl) (by omega) ⟨rfl, rfl⟩))) ?_
      refine WS.c rfl ((SO.o rfl (o_ld TI3 rfl rfl (show World.cell? _ ⟨B, 0 + i * 1, none⟩ = some (iv (f (i))) from by rw [Nat.zero_add, Nat.mul_one]; exact own_cell hro (dps_at (by omega))) ⟨rfl, rfl⟩))) ?_
      refine WS.c rfl ((SO.o rfl (o_mvh h3 ⟨rfl, rfl⟩))) ?_
      refine WS.c rfl ((SO.o rfl (o_fa 2 TI52 rfl TI3 rfl rfl ⟨rfl, rfl⟩))) ?_
      refine WS.c rfl ((SO.o rfl (o_ld TI3 rfl rfl (cell_of hC7 rfl) ⟨rfl, rfl⟩))) ?_
      refine WS.c rfl ((SO.o rfl (o_ixB (i := p.ty.toNat) TI79 TI3 (show _ = Value.slice (some ⟨B, 0, none⟩) L.length L.length from rfl) (show _ = Value.int .i64 ((p.ty.toNat : Nat) : Int) from by rw [← hen]; rfl) (by omega) ⟨rfl, rfl⟩))) ?_
      refine WS.c rfl ((SO.o rfl (o_ld TI3 rfl rfl (show World.cell? _ ⟨B, 0 + p.ty.toNat * 1, none⟩ = some (iv (f (p.ty.toNat))) from by rw [Nat.zero_add, Nat.mul_one]; exact own_cell hro (dps_at (by omega))) ⟨rfl, rfl⟩))) ?_
      refine WS.c rfl ((SO.r (r_max (a := f i) (b := f p.ty.toNat) rfl rfl))) ?_
      refine WS.c rfl ((SO.o rfl (o_ixB (i := i) TI79 TI3 (show _ = Value.slice (some ⟨B, 0, none⟩) L.length L.length from rfl) (show _ = Value.int .i64 ((i : Nat) : Int) from rfl) (by omega) ⟨rfl, rfl⟩))) ?_
      refine WS.nil ?_
      refine WL.u (o_stRj TI3 rfl (show 0 + i * 1 = i by omega) (show _ = iv (max (f i) (f p.ty.toNat)) from rfl) rfl hro (show Value.ownBlock (Value.slice (some ⟨B, 0, none⟩) L.length L.length) = some B from rfl) (by omega) ?_)
      intro w51 hr51 ho51 hs51
      rw [dps_set] at hr51
      replace hC2 := ho51.blk hC2 (fun h => own_off hro hC2 (by decide) h)
      try replace hC5 := ho51.blk hC5 (fun h => own_off hro hC5 (by decide) h)
      replace hx := hx.trans' ho51 (fun _ h => h) (fun b hb h => by have := (hro.lt b h).1; omega)
      replace hro := hr51
      refine WL.nil ?_
      refine W.region ?_
      refine WL.c rfl (o_addi h35 rfl (by omega) ?_)
      refine WL.c rfl (o_mvh (show _ = Value.int _ _ from rfl) ?_)
      refine WL.nil ?_
      refine ⟨⟨q + 1, updN f i (max (f i) (f p.ty.toNat)), by omega, h2, h3, h4, h11, h12, h13, h33.trans hV.symm, h34, rfl, hro, fun j hj => ?_, ?_, fun j hj => ?_, hC2, hx⟩, ?_⟩
      · unfold updN; rw [if_neg (by omega)]; exact hf j hj
      · unfold updN; rw [if_pos rfl, mxD_succ hq1, ← hp, hfi, hf _ (by omega)]
      · unfold updN; rw [if_neg (by omega)]; exact hz j hj
      show t.parts.length - ((q : Int) + 1).toNat < _
      rw [hm35]; simp [intOf]; omega
    try simp only [cs8] at c36
    have hq1 : q = t.parts.length := by omega
    rw [hq1] at hfi
    rw [← hfi] at hdm
    have hdi : dpI L i = f i + 1 := hdm
    have hmi : f i ≤ 64 := by rw [hfi]; exact hmx _ (Nat.le_refl _)
    refine W.exit ?_
    refine W.seq ?_
    refine W.region ?_
    refine WL.c rfl (o_mvh h3 ?_)
    refine WL.c rfl (o_mvh h4 ?_)
    refine WL.c rfl (o_ixB (i := i) TI79 TI3 (show _ = Value.slice (some ⟨B, 0, none⟩) L.length L.length from rfl) (show _ = Value.int .i64 ((i : Nat) : Int) from rfl) (by omega) ?_)
    refine WL.c rfl (o_ld TI3 rfl rfl (show World.cell? _ ⟨B, 0 + i * 1, none⟩ = some (iv (f (i))) from by rw [Nat.zero_add, Nat.mul_one]; exact own_cell hro (dps_at (by omega))) ?_)
    refine WL.c rfl (o_addi (a := ((f i : Nat) : Int)) (b := 1) rfl rfl (by omega) ?_)
    refine WL.c rfl (o_ixB (i := i) TI79 TI3 (show _ = Value.slice (some ⟨B, 0, none⟩) L.length L.length from rfl) (show _ = Value.int .i64 ((i : Nat) : Int) from rfl) (by omega) ?_)
    refine WL.u (o_stRj TI3 rfl (show 0 + i * 1 = i by omega) (show _ = iv (f i + 1) from congrArg (Value.int .i64) (by simp)) rfl hro (show Value.ownBlock (Value.slice (some ⟨B, 0, none⟩) L.length L.length) = some B from rfl) (by omega) ?_)
    intro w58 hr58 ho58 hs58
    rw [dps_set] at hr58
    replace hC2 := ho58.blk hC2 (fun h => own_off hro hC2 (by decide) h)
    try replace hC5 := ho58.blk hC5 (fun h => own_off hro hC5 (by decide) h)
    replace hx := hx.trans' ho58 (fun _ h => h) (fun b hb h => by have := (hro.lt b h).1; omega)
    replace hro := hr58
    refine WL.nil ?_
    refine W.seq ?_
    refine W.region ?_
    refine WL.c rfl (o_mvh h3 ?_)
    refine WL.c rfl (o_mvh h4 ?_)
    refine WL.c rfl (o_ixB (i := i) TI79 TI3 (show _ = Value.slice (some ⟨B, 0, none⟩) L.length L.length from rfl) (show _ = Value.int .i64 ((i : Nat) : Int) from rfl) (by omega) ?_)
    refine WL.c rfl (o_ld TI3 rfl rfl (show World.cell? _ ⟨B, 0 + i * 1, none⟩ = some (iv (f i + 1)) from by rw [Nat.zero_add, Nat.mul_one]; exact (own_cell hro (dps_at (by omega))).trans (by unfold updN; rw [if_pos rfl])) ?_)
    refine WL.c rfl (o_gt (a := ((f i + 1 : Nat) : Int)) (b := 64) rfl rfl ?_)
    refine WL.nil ?_
    refine W.cond rfl (fun c63 => ?_) (fun c63 => ?_)
    · try simp only [cs8] at c63
      have hgt : 64 < dpI L i := by omega
      refine W.seq ?_
      skip
      skip
      refine W.region ?_
      refine WL.c rfl (o_mvh h4 ?_)
      refine WL.c rfl (o_bldC (cs := [(.int .i64 83), _]) TI28 (Sizes.cons TI26 (Sizes.cons TI3 Sizes.nil)) rfl (lcp (show _ = Value.int _ _ from rfl) (lcp (show _ = Value.int _ _ from rfl) lnp)) rfl rfl ?_)
      refine WL.u (o_stA TI28 h2 (show _ = Value.agg #[.int .i64 83, .int .i64 (i : Int)] from rfl) rfl rfl hC2 rfl ?_)
      intro wz hCz hoz hsz
      replace hx := hx.trans' hoz (fun _ h => h) (fun b hb he => by omega)
      refine WL.nil ?_
      refine W.ret ?_
      refine retC rfl TI28 rfl h2 (show Cells _ c2 0 [.int .i64 83, .int .i64 (i : Int)] from Cells.of hCz 0 _ (by simp)) rfl ?_
      exact ⟨by unfold dpV; rw [dpV_hit hi1 hgt hd]; rfl, hx⟩
    try simp only [cs8] at c63
    have hle64 : ¬ 64 < f i + 1 := by omega
    refine W.skip ?_
    refine W.region ?_
    refine WL.c rfl (o_addi h13 rfl (by omega) ?_)
    refine WL.c rfl (o_mvh (show _ = Value.int _ _ from rfl) ?_)
    refine WL.nil ?_
    refine ⟨⟨i + 1, updN f i (f i + 1), by omega, h2, h3, h11.trans hlv.symm, h12, rfl, hro, fun j hj => ?_, fun j hj => ?_, fun j hj => ?_, hC2, hx⟩, ?_⟩
    · unfold updN
      by_cases e : j = i
      · rw [if_pos e, e]; exact hdi.symm
      rw [if_neg e]; exact hf j (by omega)
    · by_cases e : j = i
      · rw [e, hdi]; exact hle64
      exact hd j (by omega)
    · unfold updN
      rw [if_neg (by omega)]; exact hz j (by omega)
    show L.length - ((i : Int) + 1).toNat < _
    rw [hm13]; simp [intOf]; omega
  try simp only [cs8] at c14
  have hi1 : i = L.length := by omega
  rw [hi1] at hd
  refine W.exit ?_
  refine W.seq ?_
  skip
  skip
  refine W.region ?_
  refine WL.c rfl (o_bldC (cs := [(.int .i64 0), (.int .i64 0)]) TI28 (Sizes.cons TI26 (Sizes.cons TI3 Sizes.nil)) rfl lnp rfl rfl ?_)
  refine WL.u (o_stA TI28 h2 (show _ = Value.agg #[.int .i64 0, .int .i64 0] from rfl) rfl rfl hC2 rfl ?_)
  intro wz hCz hoz hsz
  replace hx := hx.trans' hoz (fun _ h => h) (fun b hb he => by omega)
  refine WL.nil ?_
  refine W.ret ?_
  refine retC rfl TI28 rfl h2 (show Cells _ c2 0 [.int .i64 0, .int .i64 0] from Cells.of hCz 0 _ (by simp)) rfl ?_
  exact ⟨by unfold dpV; rw [dpV_no hd]; rfl, hx⟩
end Go.Proofs.Ytpbflfgigfdohaa

set_option linter.unusedSimpArgs false
set_option linter.unusedVariables false
set_option maxRecDepth 100000
namespace Go.Proofs.Ytpbflfgigfdohaa
open Go Go.Vc Go.RowKit Go.Proofs

noncomputable def scV (L : List Tp) (R : List Ro) : Int × Int := (scF L R).getD (0, 0)
theorem sc_tp {L : List Tp} {R : List Ro} {i : Nat} (hi : i < L.length) (h : ¬ tpOk L[i] (i : Int)) (hb : ∀ j (hj : j < L.length), j < i → tpOk L[j] (j : Int)) : scV L R = (92, (i : Int)) := by
  have h1 : tpF L = some (92, (i : Int)) := firstN_hit hi (by rw [tgetD_at hi, if_neg h]) (fun j hj => by rw [tgetD_at (by omega), if_pos (hb j (by omega) hj)])
  unfold scV scF
  rw [h1]; rfl
theorem sc_tpn {L : List Tp} (hb : ∀ j (hj : j < L.length), tpOk L[j] (j : Int)) : tpF L = none := firstN_miss fun j hj => by rw [tgetD_at hj, if_pos (hb j hj)]
theorem dp_nz {L : List Tp} {v : Int × Int} (h : dpF L = some v) : v.1 = 83 := by
  obtain ⟨i, hi, h1⟩ := firstN_some h
  split at h1
  · cases h1; rfl
  cases h1
theorem dpV_iff {L : List Tp} : (dpV L).1 = 0 ↔ dpF L = none := by
  unfold dpV
  cases h : dpF L with
  | none => simp
  | some v => have := dp_nz h; simp [this]
theorem sc_dp {L : List Tp} {R : List Ro} (hb : tpF L = none) (h : ¬ (dpV L).1 = 0) : scV L R = dpV L := by
  unfold scV scF
  rw [hb, Option.none_or]
  unfold dpV at h ⊢
  cases hd : dpF L with
  | none => rw [hd] at h; simp at h
  | some v => rfl
theorem rgetD_at8 {R : List Ro} {k : Nat} (hk : k < R.length) : R.getD k ro0 = R[k] := by simp [List.getD_eq_getElem?_getD, hk]
theorem sc_ro {L : List Tp} {R : List Ro} (h1 : tpF L = none) (h2 : dpF L = none) {q : Nat} (hq : q < R.length) (h : ¬ roOk L.length R q) (hb : ∀ j, j < q → roOk L.length R j) : scV L R = (92, (L.length : Int) + (q : Int)) := by
  have h3 : roF L.length R = some (92, (L.length : Int) + (q : Int)) := firstN_hit hq (by rw [if_neg h]) (fun j hj => by rw [if_pos (hb j hj)])
  unfold scV scF
  rw [h1, h2, h3]; rfl
theorem sc_ok {L : List Tp} {R : List Ro} (h1 : tpF L = none) (h2 : dpF L = none) (hb : ∀ j, j < R.length → roOk L.length R j) : scV L R = (0, 0) := by
  have h3 : roF L.length R = none := firstN_miss fun j hj => by rw [if_pos (hb j hj)]
  unfold scV scF
  rw [h1, h2, h3]; rfl
def mN (R : List Ro) (q : Nat) (gl : List UInt8 → Option Int) (nm : List UInt8) : Nat := if (gl nm).isSome = true then q else q + 1
theorem mN_iff {R : List Ro} {q : Nat} {gl : List UInt8 → Option Int} (hq : q < R.length) (hg : ∀ s, (gl s).isSome = (R.take q).any (fun z => decide (z.name = s))) : mN R q gl R[q].name = q + 1 ↔ ∀ j, j < q → (R.getD j ro0).name ≠ (R.getD q ro0).name := by
  have hb : (gl R[q].name).isSome = true ↔ ∃ j, ∃ hj : j < q, (R[j]'(by omega)).name = R[q].name := by
    rw [hg, any_take (by omega)]; simp
  unfold mN
  rw [rgetD_at8 hq]
  by_cases hc : (gl R[q].name).isSome = true
  · rw [if_pos hc]
    refine ⟨fun e => by omega, fun hh => ?_⟩
    obtain ⟨j, hj, e⟩ := hb.1 hc
    exact absurd (by rw [rgetD_at8 (by omega)]; exact e) (hh j hj)
  rw [if_neg hc]
  exact ⟨fun _ j hj e => hc (hb.2 ⟨j, hj, by rw [rgetD_at8 (by omega)] at e; exact e⟩), fun _ => rfl⟩
theorem ro_iff {n q : Nat} {R : List Ro} {gl : List UInt8 → Option Int} (hq : q < R.length) (hg : ∀ s, (gl s).isSome = (R.take q).any (fun z => decide (z.name = s))) :
    roOk n R q ↔ q < 256 ∧ nameB R[q].name = true ∧ 0 ≤ R[q].ty ∧ R[q].ty < (n : Int) ∧ mN R q gl R[q].name = q + 1 := by
  rw [mN_iff hq hg, roOk, rgetD_at8 hq]
theorem gl_step {R : List Ro} {q : Nat} {gl : List UInt8 → Option Int} (hq : q < R.length) (hg : ∀ s, (gl s).isSome = (R.take q).any (fun z => decide (z.name = s))) (v : Int) : ∀ s, ((fun c => if c = R[q].name then some v else gl c) s : Option Int).isSome = (R.take (q + 1)).any (fun z => decide (z.name = s)) := fun s => by
  rw [any_snoc hq, ← hg s]
  by_cases e : s = R[q].name
  · simp [e]
  have e2 : ¬ R[q].name = s := fun h => e h.symm
  simp [e, e2]
/-- what the machine can hold of a list of roots -/
structure RLim (R : List Ro) : Prop where
  len : R.length * 24 ≤ 140737488351232
  nm : ∀ r ∈ R, r.name.length ≤ 9223372036854775807

set_option maxHeartbeats 4000000 in
theorem tcheck_spec (L : List Tp) (R : List Ro) (tv rv : Value) (V : Nat → Value) (w0 : World) (hS : SchR w0 L R tv rv V) (hlL : LLim L) (hlR : RLim R) : Ca Try.prog 9 #[.agg #[tv, rv]] w0 (fun v w' => v = .agg #[.int .i64 (scV L R).1, .int .i64 (scV L R).2] ∧ Ext w0 w') := by
  have hlen := hlL.len
  have hlr := hlR.len
  have hT := hS.ty
  have hR0 := hS.ro
  refine Ca.of Try.func9 Try.ntmps9 rfl rfl ?_
  refine W.seq ?_
  refine W.region ?_
  refine WL.c rfl (o_boxB rfl ?_)
  intro w1 hC1 hx1 hs1
  obtain ⟨b1, hb1⟩ : ∃ b, b = w0.heap.size := ⟨_, rfl⟩
  rw [← hb1] at hC1 ⊢
  replace hC1 : w1.heap[b1]? = some (.cells ([tv, rv]).toArray 34 (0, 0)) := hC1
  have hx := hx1
  refine WL.c rfl (o_alB TI28 ?_)
  intro wb hC2 hxb hsb
  have hq1 := (Array.getElem?_eq_some_iff.1 hC1).1
  have hqx := hx.size
  replace hx := hx.tr hxb
  replace hC1 := hxb.blk hC1 (fun h => h)
  obtain ⟨c2, hc2⟩ : ∃ c, c = w1.heap.size := ⟨_, rfl⟩
  rw [← hc2] at hC2 ⊢
  have hz2 : w0.heap.size ≤ c2 := by rw [hc2]; exact hqx
  replace hC2 : wb.heap[c2]? = some (.cells #[.int .i64 0, .int .i64 0] 28 (0, 0)) := hC2
  clear hxb hq1
  refine WL.nil ?_
  refine W.seq ?_
  refine W.seq ?_
  refine W.region ?_
  refine WL.c rfl (o_fa 0 TI34 rfl TI31 rfl rfl ?_)
  refine WL.c rfl (o_ld TI31 rfl rfl (cell_of hC1 rfl) ?_)
  refine WL.c rfl (o_lenR TI31 rfl (hT.ext hx).row ?_)
  refine WL.c rfl (o_mvh (show _ = Value.int _ _ from rfl) ?_)
  refine WL.nil ?_
  refine W.block ?_
  refine W.loop (fun e w => ∃ i : Nat, i ≤ L.length ∧ e 1 = .pointer (some ⟨b1, 0, none⟩) ∧ e 2 = .pointer (some ⟨c2, 0, none⟩) ∧ e 10 = tv ∧ e 11 = .int .i64 (L.length : Int) ∧ e 12 = .int .i64 (i : Int) ∧ (∀ j (hj : j < L.length), j < i → tpOk L[j] (j : Int)) ∧ w.heap[b1]? = some (.cells #[tv, rv] 34 (0, 0)) ∧ w.heap[c2]? = some (.cells #[.int .i64 0, .int .i64 0] 28 (0, 0)) ∧ Ext w0 w) (fun e w => L.length - (intOf (e 12)).toNat) ?_ ?_
  · exact ⟨0, Nat.zero_le _, rfl, rfl, rfl, rfl, rfl, fun j hj h => by omega, hC1, hC2, hx⟩
  rintro e w ⟨i, hi, h1, h2, h10, h11, h12, hok, hC1, hC2, hx⟩
  have hm12 := h12
  refine W.seq ?_
  refine W.region ?_
  refine WL.c rfl (o_lt h12 h11 ?_)
  refine WL.nil ?_
  refine W.seq ?_
  refine W.cond rfl (fun c13 => ?_) (fun c13 => ?_)
  · try simp only [cs8] at c13
    have hi1 : i < L.length := by omega
    obtain ⟨tb, to_, tc, hlv, htc, hty⟩ := (hT.ext hx).atk hi1
    rw [hlv] at h10
    have htl := hlL.ty _ (List.getElem_mem hi1)
    obtain ⟨t, ht⟩ : ∃ t, t = L[i] := ⟨_, rfl⟩
    rw [← ht] at htc hty htl
    refine W.skip ?_
    refine W.seq ?_
    refine W.block ?_
    refine W.seq ?_
    refine W.region ?_
    refine WL.c rfl (o_mvh h12 ?_)
    refine WL.c rfl (o_ixB (i := i) TI31 TI50 h10 h12 (by omega) ?_)
    refine WL.c rfl (o_ldA TI50 rfl rfl htc rfl ?_)
    refine WL.c rfl (o_alB TI50 ?_)
    intro wa hCa hxa hsa
    refine WL.c rfl (o_ash (show _ = Value.int _ _ from rfl) ?_)
    refine WL.u (o_stA TI50 rfl (show _ = Value.agg (tcell t (V i)).toArray from rfl) rfl (List.all_eq_true.2 (tcell_all (sl_one1 hty))) hCa rfl ?_)
    intro wb4 hC4 hob hsb
    have hxb := Ext.own hxa (Nat.le_refl _) hob
    obtain ⟨b4, hb4⟩ : ∃ b, b = w.heap.size := ⟨_, rfl⟩
    rw [← hb4] at hC4 ⊢
    clear hCa hxa hsa hob hsb
    replace hx := hx.tr hxb
    replace hC1 := hxb.blk hC1 (fun h => h)
    replace hC2 := hxb.blk hC2 (fun h => h)
    replace hty := hty.ext hxb
    clear hxb
    refine WL.nil ?_
    refine W.seq ?_
    refine W.region ?_
    refine WL.c rfl (o_ldA TI50 rfl rfl (show Cells _ b4 0 (tcell t (V i)) from Cells.of hC4 0 _ (by simp)) rfl ?_)
    refine WL.c rfl (o_mvh (show _ = Value.int _ _ from rfl) ?_)
    refine WL.c rfl (o_call Try.call32 (lc rfl (lc rfl ln)) ((tright_spec t (V i) (i : Int) _ hty htl).mono ?_))
    rintro v19 w19 ⟨rfl, hx19⟩
    replace hx := hx.tr hx19
    replace hC1 := hx19.blk hC1 (fun h => h)
    replace hC2 := hx19.blk hC2 (fun h => h)
    refine WL.c rfl (o_not' rfl ?_)
    refine WL.nil ?_
    refine W.cond rfl (fun c20 => ?_) (fun c20 => ?_)
    · try simp only [cs8] at c20
      have hti : ¬ tpOk t (i : Int) := by rw [← tpB_iff]; simpa using c20
      refine W.seq ?_
      skip
      skip
      refine W.region ?_
      refine WL.c rfl (o_mvh (show _ = Value.int _ _ from rfl) ?_)
      refine WL.c rfl (o_bldC (cs := [(.int .i64 92), _]) TI28 (Sizes.cons TI26 (Sizes.cons TI3 Sizes.nil)) rfl (lcp (show _ = Value.int _ _ from rfl) (lcp (show _ = Value.int _ _ from rfl) lnp)) rfl rfl ?_)
      refine WL.u (o_stA TI28 h2 (show _ = Value.agg #[.int .i64 92, .int .i64 (i : Int)] from rfl) rfl rfl hC2 rfl ?_)
      intro wz hCz hoz hsz
      replace hx := hx.trans' hoz (fun _ h => h) (fun b hb he => by omega)
      refine WL.nil ?_
      refine W.ret ?_
      refine retC rfl TI28 rfl h2 (show Cells _ c2 0 [.int .i64 92, .int .i64 (i : Int)] from Cells.of hCz 0 _ (by simp)) rfl ?_
      exact ⟨by rw [sc_tp hi1 (ht ▸ hti) hok], hx⟩
    try simp only [cs8] at c20
    have hti : tpOk t (i : Int) := by rw [← tpB_iff]; simpa using c20
    refine W.skip ?_
    refine W.region ?_
    refine WL.c rfl (o_addi h12 rfl (by omega) ?_)
    refine WL.c rfl (o_mvh (show _ = Value.int _ _ from rfl) ?_)
    refine WL.nil ?_
    refine ⟨⟨i + 1, by omega, h1, h2, h10.trans hlv.symm, h11, rfl, fun j hj h => ?_, hC1, hC2, hx⟩, ?_⟩
    · rcases Nat.lt_or_ge j i with h5 | h5
      · exact hok j hj h5
      have e : j = i := by omega
      subst e; exact ht ▸ hti
    show L.length - ((i : Int) + 1).toNat < _
    rw [hm12]; simp [intOf]; omega
  try simp only [cs8] at c13
  have hi1 : i = L.length := by omega
  have hok2 : ∀ j (hj : j < L.length), tpOk L[j] (j : Int) := fun j hj => hok j hj (by omega)
  have htn := sc_tpn hok2
  refine W.exit ?_
  refine W.seq ?_
  refine W.seq ?_
  refine W.region ?_
  refine WL.c rfl (o_fa 0 TI34 rfl TI31 rfl h1 ?_)
  refine WL.c rfl (o_ld TI31 rfl rfl (cell_of hC1 rfl) ?_)
  refine WL.c rfl (o_call Try.call33 (lc rfl ln) ((tdeep_spec L tv V _ (hT.ext hx) hok2 hlL).mono ?_))
  rintro v26 w26 ⟨rfl, hx26⟩
  replace hx := hx.tr hx26
  replace hC1 := hx26.blk hC1 (fun h => h)
  replace hC2 := hx26.blk hC2 (fun h => h)
  refine WL.c rfl (o_alB TI28 ?_)
  intro wa hCa hxa hsa
  refine WL.u (o_stA TI28 rfl (show _ = Value.agg ([.int .i64 (dpV L).1, .int .i64 (dpV L).2]).toArray from rfl) rfl rfl hCa rfl ?_)
  intro wb5 hC5 hob hsb
  have hxb := Ext.own hxa (Nat.le_refl _) hob
  obtain ⟨b5, hb5⟩ : ∃ b, b = w26.heap.size := ⟨_, rfl⟩
  rw [← hb5] at hC5 ⊢
  clear hCa hxa hsa hob hsb
  replace hx := hx.tr hxb
  replace hC1 := hxb.blk hC1 (fun h => h)
  replace hC2 := hxb.blk hC2 (fun h => h)
  clear hxb
  refine WL.nil ?_
  refine W.seq ?_
  refine W.region ?_
  refine WL.c rfl (o_fa 0 TI28 rfl TI26 rfl rfl ?_)
  refine WL.c rfl (o_ld TI26 rfl rfl (cell_of hC5 rfl) ?_)
  refine WL.c rfl (o_ne rfl rfl ?_)
  refine WL.nil ?_
  refine W.cond rfl (fun c29 => ?_) (fun c29 => ?_)
  · try simp only [cs8] at c29
    have hdv : ¬ (dpV L).1 = 0 := by simpa using c29
    refine W.seq ?_
    skip
    skip
    refine W.region ?_
    refine WL.c rfl (o_ldA TI28 rfl rfl (show Cells _ b5 0 [.int .i64 (dpV L).1, .int .i64 (dpV L).2] from Cells.of hC5 0 _ (by simp)) rfl ?_)
    refine WL.u (o_stA TI28 h2 (show _ = Value.agg #[.int .i64 (dpV L).1, .int .i64 (dpV L).2] from rfl) rfl rfl hC2 rfl ?_)
    intro wz hCz hoz hsz
    replace hx := hx.trans' hoz (fun _ h => h) (fun b hb he => by omega)
    refine WL.nil ?_
    refine W.ret ?_
    refine retC rfl TI28 rfl h2 (show Cells _ c2 0 [.int .i64 (dpV L).1, .int .i64 (dpV L).2] from Cells.of hCz 0 _ (by simp)) rfl ?_
    exact ⟨by rw [sc_dp htn hdv], hx⟩
  try simp only [cs8] at c29
  have hdn : dpF L = none := dpV_iff.1 (by simpa using c29)
  refine W.skip ?_
  refine W.seq ?_
  refine W.region ?_
  refine WL.c rfl (o_mkM ?_)
  have hML := MapN.made Try.prog 9 3 enS wb5
  have hxm : Ext wb5 (wb5.alloc (.map #[] 0)) := Only.alloc wb5 _
  obtain ⟨lb, hlb⟩ : ∃ b, b = wb5.heap.size := ⟨_, rfl⟩
  have hzlb : w0.heap.size ≤ lb := by rw [hlb]; exact hx.size
  rw [← hlb] at hML ⊢
  generalize wb5.alloc (.map #[] 0) = wm at hML hxm ⊢
  replace hx := hx.tr hxm
  replace hC1 := hxm.blk hC1 (fun h => h)
  replace hC2 := hxm.blk hC2 (fun h => h)
  refine WL.c rfl (o_as ?_)
  refine WL.nil ?_
  refine W.seq ?_
  refine W.seq ?_
  refine W.region ?_
  refine WL.c rfl (o_fa 1 TI34 rfl TI32 rfl h1 ?_)
  refine WL.c rfl (o_ld TI32 rfl rfl (cell_of hC1 rfl) ?_)
  refine WL.c rfl (o_lenR TI32 rfl (hR0.ext hx) ?_)
  refine WL.c rfl (o_mvh (show _ = Value.int _ _ from rfl) ?_)
  refine WL.nil ?_
  refine W.block ?_
  refine W.loop (fun e w => ∃ (q : Nat) (gl : List UInt8 → Option Int), q ≤ R.length ∧ e 1 = .pointer (some ⟨b1, 0, none⟩) ∧ e 2 = .pointer (some ⟨c2, 0, none⟩) ∧ e 6 = .map (some lb) ∧ e 33 = rv ∧ e 34 = .int .i64 (R.length : Int) ∧ e 35 = .int .i64 (q : Int) ∧ (∀ j, j < q → roOk L.length R j) ∧ MapN Try.prog 9 3 enS w lb q gl ∧ (∀ s, (gl s).isSome = (R.take q).any (fun z => decide (z.name = s))) ∧ w.heap[b1]? = some (.cells #[tv, rv] 34 (0, 0)) ∧ w.heap[c2]? = some (.cells #[.int .i64 0, .int .i64 0] 28 (0, 0)) ∧ Ext w0 w) (fun e w => R.length - (intOf (e 35)).toNat) ?_ ?_
  · exact ⟨0, fun _ => none, Nat.zero_le _, h1, h2, rfl, rfl, rfl, rfl, fun j hj => by omega, hML, fun s => rfl, hC1, hC2, hx⟩
  rintro e w ⟨q, gl, hq, h1, h2, h6, h33, h34, h35, hno, hML, hgl, hC1, hC2, hx⟩
  have hm35 := h35
  refine W.seq ?_
  refine W.region ?_
  refine WL.c rfl (o_lt h35 h34 ?_)
  refine WL.nil ?_
  refine W.seq ?_
  refine W.cond rfl (fun c36 => ?_) (fun c36 => ?_)
  · try simp only [cs8] at c36
    have hq1 : q < R.length := by omega
    obtain ⟨ub, uo, uc, hrv, huc⟩ := Sl.roq (hR0.ext hx) hq1
    rw [hrv] at h33
    have hgl2 := gl_step hq1 hgl (q : Int)
    have hnl : R[q].name.length ≤ 9223372036854775807 := hlR.nm _ (List.getElem_mem hq1)
    obtain ⟨r, hr⟩ : ∃ r, r = R[q] := ⟨_, rfl⟩
    rw [← hr] at huc hgl2 hnl
    refine W.skip ?_
    refine W.seq ?_
    refine W.block ?_
    refine W.seq ?_
    refine W.region ?_
    refine WL.c rfl (o_mvh h35 ?_)
    refine WL.c rfl (o_ixB (i := q) TI32 TI47 h33 h35 (by omega) ?_)
    refine WL.c rfl (o_ldA TI47 rfl rfl huc rfl ?_)
    refine WL.c rfl (o_alB TI47 ?_)
    intro wa hCa hxa hsa
    refine WL.c rfl (o_ash (show _ = Value.int _ _ from rfl) ?_)
    refine WL.u (o_stA TI47 rfl (show _ = Value.agg (roV r).toArray from rfl) rfl rfl hCa rfl ?_)
    intro wb8 hC8 hob hsb
    have hxb := Ext.own hxa (Nat.le_refl _) hob
    obtain ⟨b8, hb8⟩ : ∃ b, b = w.heap.size := ⟨_, rfl⟩
    rw [← hb8] at hC8 ⊢
    clear hCa hxa hsa hob hsb
    replace hx := hx.tr hxb
    replace hC1 := hxb.blk hC1 (fun h => h)
    replace hC2 := hxb.blk hC2 (fun h => h)
    replace hML := hML.ext hxb
    clear hxb
    refine WL.nil ?_
    refine W.seq ?_
    refine W.region ?_
    refine WL.c rfl (o_mvh h6 ?_)
    refine WL.c rfl (o_fa 0 TI47 rfl TI9 rfl rfl ?_)
    refine WL.c rfl (o_ld TI9 rfl rfl (cell_of hC8 rfl) ?_)
    refine WL.c rfl (o_mvh (show _ = Value.int _ _ from rfl) ?_)
    refine WL.u (o_muN enS_inj MT88 rfl hML rfl (keyS Try.underlying9 (by rw [maxLen_eq]; omega)) rfl (wf_i64 (by omega)) (by rw [maxLen_eq]; omega) ?_)
    intro wq hMq hoq hsq
    replace hC1 := hoq.blk hC1 (map_blk_ne hML.is hC1)
    replace hC2 := hoq.blk hC2 (map_blk_ne hML.is hC2)
    replace hC8 := hoq.blk hC8 (map_blk_ne hML.is hC8)
    replace hx := hx.trans' hoq (fun _ h => h) (fun b hb e => by omega)
    replace hML : MapN Try.prog 9 3 enS wq lb (mN R q gl r.name) _ := hMq
    refine WL.nil ?_
    refine W.seq ?_
    by_cases hN : nameB r.name = true
    by_cases hD : mN R q gl r.name = q + 1
    by_cases hB : 0 ≤ r.ty
    by_cases hC : r.ty < (L.length : Int)
    by_cases hE : q < 256
    · skip
      refine W.region ?_
      refine WL.c rfl (o_fa 0 TI47 rfl TI9 rfl rfl ?_)
      refine WL.c rfl (o_ld TI9 rfl rfl (cell_of hC8 rfl) ?_)
      refine WL.c rfl (o_call Try.call34 (lc rfl ln) ((name_spec r.name _ hnl).mono ?_))
      rintro v46 w46 ⟨rfl, rfl⟩
      refine WL.c rfl (o_not' rfl ?_)
      refine WL.c rfl (o_mvh (show _ = Value.bool _ from rfl) ?_)
      refine WL.g rfl (by simp [hN]) rfl (o_mvh h6 ?_)
      refine WL.g rfl (by simp [hN]) rfl (o_lenM Try.underlying88 rfl hML ?_)
      refine WL.g rfl (by simp [hN]) rfl (o_mvh (show _ = Value.int _ _ from rfl) ?_)
      refine WL.g rfl (by simp [hN]) rfl (o_addi rfl rfl (by omega) ?_)
      refine WL.g rfl (by simp [hN]) rfl (o_ne rfl rfl ?_)
      refine WL.c rfl (o_pickO rfl rfl ?_)
      refine WL.c rfl (o_mvh (show _ = Value.bool _ from rfl) ?_)
      refine WL.g rfl (by simp [hN, hD]) rfl (o_fa 1 TI47 rfl TI3 rfl rfl ?_)
      refine WL.g rfl (by simp [hN, hD]) rfl (o_ld TI3 rfl rfl (cell_of hC8 rfl) ?_)
      refine WL.g rfl (by simp [hN, hD]) rfl (o_lt rfl rfl ?_)
      refine WL.c rfl (o_pickO rfl rfl ?_)
      refine WL.c rfl (o_mvh (show _ = Value.bool _ from rfl) ?_)
      refine WL.g rfl (by simp [hN, hD, hB]) rfl (o_fa 1 TI47 rfl TI3 rfl rfl ?_)
      refine WL.g rfl (by simp [hN, hD, hB]) rfl (o_ld TI3 rfl rfl (cell_of hC8 rfl) ?_)
      refine WL.g rfl (by simp [hN, hD, hB]) rfl (o_fa 0 TI34 rfl TI31 rfl h1 ?_)
      refine WL.g rfl (by simp [hN, hD, hB]) rfl (o_ld TI31 rfl rfl (cell_of hC1 rfl) ?_)
      refine WL.g rfl (by simp [hN, hD, hB]) rfl (o_lenR TI31 rfl (hT.ext hx).row ?_)
      refine WL.g rfl (by simp [hN, hD, hB]) rfl (o_ge rfl rfl ?_)
      refine WL.c rfl (o_pickO rfl rfl ?_)
      refine WL.c rfl (o_mvh (show _ = Value.bool _ from rfl) ?_)
      refine WL.g rfl (by simp [hN, hD, hB, hC]) rfl (o_mvh (show _ = Value.int _ _ from rfl) ?_)
      refine WL.g rfl (by simp [hN, hD, hB, hC]) rfl (o_ge rfl rfl ?_)
      refine WL.c rfl (o_pickO rfl rfl ?_)
      refine WL.nil ?_
      refine W.condF' rfl (by simp [hN, hD, hB, hC]; omega) ?_
      refine W.skip ?_
      refine W.region ?_
      refine WL.c rfl (o_addi h35 rfl (by omega) ?_)
      refine WL.c rfl (o_mvh (show _ = Value.int _ _ from rfl) ?_)
      refine WL.nil ?_
      refine ⟨⟨q + 1, _, by omega, h1, h2, h6, h33.trans hrv.symm, h34, rfl, fun j hj => ?_, (by rw [hD] at hML; exact hML), hgl2, hC1, hC2, hx⟩, ?_⟩
      · rcases Nat.lt_or_ge j q with h | h
        · exact hno j h
        rw [show j = q by omega]
        exact (ro_iff hq1 hgl).2 ⟨hE, hr ▸ hN, hr ▸ hB, hr ▸ hC, hr ▸ hD⟩
      show R.length - ((q : Int) + 1).toNat < _
      rw [hm35]; simp [intOf]; omega
    · skip
      have hbad : ¬ roOk L.length R q := fun hh => by
        have h4 := ((ro_iff hq1 hgl).1 hh).1
        exact hE h4
      refine W.region ?_
      refine WL.c rfl (o_fa 0 TI47 rfl TI9 rfl rfl ?_)
      refine WL.c rfl (o_ld TI9 rfl rfl (cell_of hC8 rfl) ?_)
      refine WL.c rfl (o_call Try.call34 (lc rfl ln) ((name_spec r.name _ hnl).mono ?_))
      rintro v46 w46 ⟨rfl, rfl⟩
      refine WL.c rfl (o_not' rfl ?_)
      refine WL.c rfl (o_mvh (show _ = Value.bool _ from rfl) ?_)
      refine WL.g rfl (by simp [hN]) rfl (o_mvh h6 ?_)
      refine WL.g rfl (by simp [hN]) rfl (o_lenM Try.underlying88 rfl hML ?_)
      refine WL.g rfl (by simp [hN]) rfl (o_mvh (show _ = Value.int _ _ from rfl) ?_)
      refine WL.g rfl (by simp [hN]) rfl (o_addi rfl rfl (by omega) ?_)
      refine WL.g rfl (by simp [hN]) rfl (o_ne rfl rfl ?_)
      refine WL.c rfl (o_pickO rfl rfl ?_)
      refine WL.c rfl (o_mvh (show _ = Value.bool _ from rfl) ?_)
      refine WL.g rfl (by simp [hN, hD]) rfl (o_fa 1 TI47 rfl TI3 rfl rfl ?_)
      refine WL.g rfl (by simp [hN, hD]) rfl (o_ld TI3 rfl rfl (cell_of hC8 rfl) ?_)
      refine WL.g rfl (by simp [hN, hD]) rfl (o_lt rfl rfl ?_)
      refine WL.c rfl (o_pickO rfl rfl ?_)
      refine WL.c rfl (o_mvh (show _ = Value.bool _ from rfl) ?_)
      refine WL.g rfl (by simp [hN, hD, hB]) rfl (o_fa 1 TI47 rfl TI3 rfl rfl ?_)
      refine WL.g rfl (by simp [hN, hD, hB]) rfl (o_ld TI3 rfl rfl (cell_of hC8 rfl) ?_)
      refine WL.g rfl (by simp [hN, hD, hB]) rfl (o_fa 0 TI34 rfl TI31 rfl h1 ?_)
      refine WL.g rfl (by simp [hN, hD, hB]) rfl (o_ld TI31 rfl rfl (cell_of hC1 rfl) ?_)
      refine WL.g rfl (by simp [hN, hD, hB]) rfl (o_lenR TI31 rfl (hT.ext hx).row ?_)
      refine WL.g rfl (by simp [hN, hD, hB]) rfl (o_ge rfl rfl ?_)
      refine WL.c rfl (o_pickO rfl rfl ?_)
      refine WL.c rfl (o_mvh (show _ = Value.bool _ from rfl) ?_)
      refine WL.g rfl (by simp [hN, hD, hB, hC]) rfl (o_mvh (show _ = Value.int _ _ from rfl) ?_)
      refine WL.g rfl (by simp [hN, hD, hB, hC]) rfl (o_ge rfl rfl ?_)
      refine WL.c rfl (o_pickO rfl rfl ?_)
      refine WL.nil ?_
      refine W.condT' rfl (by rw [decide_eq_true (show (256 : Int) ≤ (q : Int) by omega)]; simp) ?_
      refine W.seq ?_
      skip
      skip
      refine W.region ?_
      refine WL.c rfl (o_fa 0 TI34 rfl TI31 rfl h1 ?_)
      refine WL.c rfl (o_ld TI31 rfl rfl (cell_of hC1 rfl) ?_)
      refine WL.c rfl (o_lenR TI31 rfl (hT.ext hx).row ?_)
      refine WL.c rfl (o_mvh (show _ = Value.int _ _ from rfl) ?_)
      refine WL.c rfl (o_addi rfl rfl (by omega) ?_)
      refine WL.c rfl (o_bldC (cs := [(.int .i64 92), _]) TI28 (Sizes.cons TI26 (Sizes.cons TI3 Sizes.nil)) rfl (lcp (show _ = Value.int _ _ from rfl) (lcp (show _ = Value.int _ _ from rfl) lnp)) rfl rfl ?_)
      refine WL.u (o_stA TI28 h2 (show _ = Value.agg #[.int .i64 92, .int .i64 ((L.length : Int) + (q : Int))] from rfl) rfl rfl hC2 rfl ?_)
      intro wz hCz hoz hsz
      replace hx := hx.trans' hoz (fun _ h => h) (fun b hb he => by omega)
      refine WL.nil ?_
      refine W.ret ?_
      refine retC rfl TI28 rfl h2 (show Cells _ c2 0 [.int .i64 92, .int .i64 ((L.length : Int) + (q : Int))] from Cells.of hCz 0 _ (by simp)) rfl ?_
      exact ⟨by rw [sc_ro htn hdn hq1 hbad hno], hx⟩
    · skip
      have hbad : ¬ roOk L.length R q := fun hh => by
        have h4 := ((ro_iff hq1 hgl).1 hh).2.2.2.1
        rw [← hr] at h4
        exact hC h4
      refine W.region ?_
      refine WL.c rfl (o_fa 0 TI47 rfl TI9 rfl rfl ?_)
      refine WL.c rfl (o_ld TI9 rfl rfl (cell_of hC8 rfl) ?_)
      refine WL.c rfl (o_call Try.call34 (lc rfl ln) ((name_spec r.name _ hnl).mono ?_))
      rintro v46 w46 ⟨rfl, rfl⟩
      refine WL.c rfl (o_not' rfl ?_)
      refine WL.c rfl (o_mvh (show _ = Value.bool _ from rfl) ?_)
      refine WL.g rfl (by simp [hN]) rfl (o_mvh h6 ?_)
      refine WL.g rfl (by simp [hN]) rfl (o_lenM Try.underlying88 rfl hML ?_)
      refine WL.g rfl (by simp [hN]) rfl (o_mvh (show _ = Value.int _ _ from rfl) ?_)
      refine WL.g rfl (by simp [hN]) rfl (o_addi rfl rfl (by omega) ?_)
      refine WL.g rfl (by simp [hN]) rfl (o_ne rfl rfl ?_)
      refine WL.c rfl (o_pickO rfl rfl ?_)
      refine WL.c rfl (o_mvh (show _ = Value.bool _ from rfl) ?_)
      refine WL.g rfl (by simp [hN, hD]) rfl (o_fa 1 TI47 rfl TI3 rfl rfl ?_)
      refine WL.g rfl (by simp [hN, hD]) rfl (o_ld TI3 rfl rfl (cell_of hC8 rfl) ?_)
      refine WL.g rfl (by simp [hN, hD]) rfl (o_lt rfl rfl ?_)
      refine WL.c rfl (o_pickO rfl rfl ?_)
      refine WL.c rfl (o_mvh (show _ = Value.bool _ from rfl) ?_)
      refine WL.g rfl (by simp [hN, hD, hB]) rfl (o_fa 1 TI47 rfl TI3 rfl rfl ?_)
      refine WL.g rfl (by simp [hN, hD, hB]) rfl (o_ld TI3 rfl rfl (cell_of hC8 rfl) ?_)
      refine WL.g rfl (by simp [hN, hD, hB]) rfl (o_fa 0 TI34 rfl TI31 rfl h1 ?_)
      refine WL.g rfl (by simp [hN, hD, hB]) rfl (o_ld TI31 rfl rfl (cell_of hC1 rfl) ?_)
      refine WL.g rfl (by simp [hN, hD, hB]) rfl (o_lenR TI31 rfl (hT.ext hx).row ?_)
      refine WL.g rfl (by simp [hN, hD, hB]) rfl (o_ge rfl rfl ?_)
      refine WL.c rfl (o_pickO rfl rfl ?_)
      refine WL.c rfl (o_mvh (show _ = Value.bool _ from rfl) ?_)
      refine WL.s rfl (by rw [decide_eq_true (show (L.length : Int) ≤ r.ty by omega)]; simp) rfl ?_
      refine WL.s rfl (by rw [decide_eq_true (show (L.length : Int) ≤ r.ty by omega)]; simp) rfl ?_
      refine WL.c rfl (o_pickT rfl (by rw [decide_eq_true (show (L.length : Int) ≤ r.ty by omega)]; simp) ?_)
      refine WL.nil ?_
      refine W.condT' rfl (rfl) ?_
      refine W.seq ?_
      skip
      skip
      refine W.region ?_
      refine WL.c rfl (o_fa 0 TI34 rfl TI31 rfl h1 ?_)
      refine WL.c rfl (o_ld TI31 rfl rfl (cell_of hC1 rfl) ?_)
      refine WL.c rfl (o_lenR TI31 rfl (hT.ext hx).row ?_)
      refine WL.c rfl (o_mvh (show _ = Value.int _ _ from rfl) ?_)
      refine WL.c rfl (o_addi rfl rfl (by omega) ?_)
      refine WL.c rfl (o_bldC (cs := [(.int .i64 92), _]) TI28 (Sizes.cons TI26 (Sizes.cons TI3 Sizes.nil)) rfl (lcp (show _ = Value.int _ _ from rfl) (lcp (show _ = Value.int _ _ from rfl) lnp)) rfl rfl ?_)
      refine WL.u (o_stA TI28 h2 (show _ = Value.agg #[.int .i64 92, .int .i64 ((L.length : Int) + (q : Int))] from rfl) rfl rfl hC2 rfl ?_)
      intro wz hCz hoz hsz
      replace hx := hx.trans' hoz (fun _ h => h) (fun b hb he => by omega)
      refine WL.nil ?_
      refine W.ret ?_
      refine retC rfl TI28 rfl h2 (show Cells _ c2 0 [.int .i64 92, .int .i64 ((L.length : Int) + (q : Int))] from Cells.of hCz 0 _ (by simp)) rfl ?_
      exact ⟨by rw [sc_ro htn hdn hq1 hbad hno], hx⟩
    · skip
      have hbad : ¬ roOk L.length R q := fun hh => by
        have h4 := ((ro_iff hq1 hgl).1 hh).2.2.1
        rw [← hr] at h4
        exact hB h4
      refine W.region ?_
      refine WL.c rfl (o_fa 0 TI47 rfl TI9 rfl rfl ?_)
      refine WL.c rfl (o_ld TI9 rfl rfl (cell_of hC8 rfl) ?_)
      refine WL.c rfl (o_call Try.call34 (lc rfl ln) ((name_spec r.name _ hnl).mono ?_))
      rintro v46 w46 ⟨rfl, rfl⟩
      refine WL.c rfl (o_not' rfl ?_)
      refine WL.c rfl (o_mvh (show _ = Value.bool _ from rfl) ?_)
      refine WL.g rfl (by simp [hN]) rfl (o_mvh h6 ?_)
      refine WL.g rfl (by simp [hN]) rfl (o_lenM Try.underlying88 rfl hML ?_)
      refine WL.g rfl (by simp [hN]) rfl (o_mvh (show _ = Value.int _ _ from rfl) ?_)
      refine WL.g rfl (by simp [hN]) rfl (o_addi rfl rfl (by omega) ?_)
      refine WL.g rfl (by simp [hN]) rfl (o_ne rfl rfl ?_)
      refine WL.c rfl (o_pickO rfl rfl ?_)
      refine WL.c rfl (o_mvh (show _ = Value.bool _ from rfl) ?_)
      refine WL.g rfl (by simp [hN, hD]) rfl (o_fa 1 TI47 rfl TI3 rfl rfl ?_)
      refine WL.g rfl (by simp [hN, hD]) rfl (o_ld TI3 rfl rfl (cell_of hC8 rfl) ?_)
      refine WL.g rfl (by simp [hN, hD]) rfl (o_lt rfl rfl ?_)
      refine WL.c rfl (o_pickO rfl rfl ?_)
      refine WL.c rfl (o_mvh (show _ = Value.bool _ from rfl) ?_)
      refine WL.s rfl (by rw [decide_eq_true (show r.ty < 0 by omega)]; simp) rfl ?_
      refine WL.s rfl (by rw [decide_eq_true (show r.ty < 0 by omega)]; simp) rfl ?_
      refine WL.s rfl (by rw [decide_eq_true (show r.ty < 0 by omega)]; simp) rfl ?_
      refine WL.s rfl (by rw [decide_eq_true (show r.ty < 0 by omega)]; simp) rfl ?_
      refine WL.s rfl (by rw [decide_eq_true (show r.ty < 0 by omega)]; simp) rfl ?_
      refine WL.s rfl (by rw [decide_eq_true (show r.ty < 0 by omega)]; simp) rfl ?_
      refine WL.c rfl (o_pickT rfl (by rw [decide_eq_true (show r.ty < 0 by omega)]; simp) ?_)
      refine WL.c rfl (o_mvh (show _ = Value.bool _ from rfl) ?_)
      refine WL.s rfl (rfl) rfl ?_
      refine WL.s rfl (rfl) rfl ?_
      refine WL.c rfl (o_pickT rfl (rfl) ?_)
      refine WL.nil ?_
      refine W.condT' rfl (rfl) ?_
      refine W.seq ?_
      skip
      skip
      refine W.region ?_
      refine WL.c rfl (o_fa 0 TI34 rfl TI31 rfl h1 ?_)
      refine WL.c rfl (o_ld TI31 rfl rfl (cell_of hC1 rfl) ?_)
      refine WL.c rfl (o_lenR TI31 rfl (hT.ext hx).row ?_)
      refine WL.c rfl (o_mvh (show _ = Value.int _ _ from rfl) ?_)
      refine WL.c rfl (o_addi rfl rfl (by omega) ?_)
      refine WL.c rfl (o_bldC (cs := [(.int .i64 92), _]) TI28 (Sizes.cons TI26 (Sizes.cons TI3 Sizes.nil)) rfl (lcp (show _ = Value.int _ _ from rfl) (lcp (show _ = Value.int _ _ from rfl) lnp)) rfl rfl ?_)
      refine WL.u (o_stA TI28 h2 (show _ = Value.agg #[.int .i64 92, .int .i64 ((L.length : Int) + (q : Int))] from rfl) rfl rfl hC2 rfl ?_)
      intro wz hCz hoz hsz
      replace hx := hx.trans' hoz (fun _ h => h) (fun b hb he => by omega)
      refine WL.nil ?_
      refine W.ret ?_
      refine retC rfl TI28 rfl h2 (show Cells _ c2 0 [.int .i64 92, .int .i64 ((L.length : Int) + (q : Int))] from Cells.of hCz 0 _ (by simp)) rfl ?_
      exact ⟨by rw [sc_ro htn hdn hq1 hbad hno], hx⟩
    · skip
      have hbad : ¬ roOk L.length R q := fun hh => by
        have h4 := ((ro_iff hq1 hgl).1 hh).2.2.2.2
        rw [← hr] at h4
        exact hD h4
      refine W.region ?_
      refine WL.c rfl (o_fa 0 TI47 rfl TI9 rfl rfl ?_)
      refine WL.c rfl (o_ld TI9 rfl rfl (cell_of hC8 rfl) ?_)
      refine WL.c rfl (o_call Try.call34 (lc rfl ln) ((name_spec r.name _ hnl).mono ?_))
      rintro v46 w46 ⟨rfl, rfl⟩
      refine WL.c rfl (o_not' rfl ?_)
      refine WL.c rfl (o_mvh (show _ = Value.bool _ from rfl) ?_)
      refine WL.g rfl (by simp [hN]) rfl (o_mvh h6 ?_)
      refine WL.g rfl (by simp [hN]) rfl (o_lenM Try.underlying88 rfl hML ?_)
      refine WL.g rfl (by simp [hN]) rfl (o_mvh (show _ = Value.int _ _ from rfl) ?_)
      refine WL.g rfl (by simp [hN]) rfl (o_addi rfl rfl (by omega) ?_)
      refine WL.g rfl (by simp [hN]) rfl (o_ne rfl rfl ?_)
      refine WL.c rfl (o_pickO rfl rfl ?_)
      refine WL.c rfl (o_mvh (show _ = Value.bool _ from rfl) ?_)
      refine WL.s rfl (by rw [decide_eq_false (show ¬ ((mN R q gl r.name : Nat) : Int) = (q : Int) + 1 by omega)]; simp) rfl ?_
      refine WL.s rfl (by rw [decide_eq_false (show ¬ ((mN R q gl r.name : Nat) : Int) = (q : Int) + 1 by omega)]; simp) rfl ?_
      refine WL.s rfl (by rw [decide_eq_false (show ¬ ((mN R q gl r.name : Nat) : Int) = (q : Int) + 1 by omega)]; simp) rfl ?_
      refine WL.c rfl (o_pickT rfl (by rw [decide_eq_false (show ¬ ((mN R q gl r.name : Nat) : Int) = (q : Int) + 1 by omega)]; simp) ?_)
      refine WL.c rfl (o_mvh (show _ = Value.bool _ from rfl) ?_)
      refine WL.s rfl (rfl) rfl ?_
      refine WL.s rfl (rfl) rfl ?_
      refine WL.s rfl (rfl) rfl ?_
      refine WL.s rfl (rfl) rfl ?_
      refine WL.s rfl (rfl) rfl ?_
      refine WL.s rfl (rfl) rfl ?_
      refine WL.c rfl (o_pickT rfl (rfl) ?_)
      refine WL.c rfl (o_mvh (show _ = Value.bool _ from rfl) ?_)
      refine WL.s rfl (rfl) rfl ?_
      refine WL.s rfl (rfl) rfl ?_
      refine WL.c rfl (o_pickT rfl (rfl) ?_)
      refine WL.nil ?_
      refine W.condT' rfl (rfl) ?_
      refine W.seq ?_
      skip
      skip
      refine W.region ?_
      refine WL.c rfl (o_fa 0 TI34 rfl TI31 rfl h1 ?_)
      refine WL.c rfl (o_ld TI31 rfl rfl (cell_of hC1 rfl) ?_)
      refine WL.c rfl (o_lenR TI31 rfl (hT.ext hx).row ?_)
      refine WL.c rfl (o_mvh (show _ = Value.int _ _ from rfl) ?_)
      refine WL.c rfl (o_addi rfl rfl (by omega) ?_)
      refine WL.c rfl (o_bldC (cs := [(.int .i64 92), _]) TI28 (Sizes.cons TI26 (Sizes.cons TI3 Sizes.nil)) rfl (lcp (show _ = Value.int _ _ from rfl) (lcp (show _ = Value.int _ _ from rfl) lnp)) rfl rfl ?_)
      refine WL.u (o_stA TI28 h2 (show _ = Value.agg #[.int .i64 92, .int .i64 ((L.length : Int) + (q : Int))] from rfl) rfl rfl hC2 rfl ?_)
      intro wz hCz hoz hsz
      replace hx := hx.trans' hoz (fun _ h => h) (fun b hb he => by omega)
      refine WL.nil ?_
      refine W.ret ?_
      refine retC rfl TI28 rfl h2 (show Cells _ c2 0 [.int .i64 92, .int .i64 ((L.length : Int) + (q : Int))] from Cells.of hCz 0 _ (by simp)) rfl ?_
      exact ⟨by rw [sc_ro htn hdn hq1 hbad hno], hx⟩
    skip
    have hbad : ¬ roOk L.length R q := fun hh => by
      have h4 := ((ro_iff hq1 hgl).1 hh).2.1
      rw [← hr] at h4
      exact hN h4
    refine W.region ?_
    refine WL.c rfl (o_fa 0 TI47 rfl TI9 rfl rfl ?_)
    refine WL.c rfl (o_ld TI9 rfl rfl (cell_of hC8 rfl) ?_)
    refine WL.c rfl (o_call Try.call34 (lc rfl ln) ((name_spec r.name _ hnl).mono ?_))
    rintro v46 w46 ⟨rfl, rfl⟩
    refine WL.c rfl (o_not' rfl ?_)
    refine WL.c rfl (o_mvh (show _ = Value.bool _ from rfl) ?_)
    refine WL.s rfl (by simpa using hN) rfl ?_
    refine WL.s rfl (by simpa using hN) rfl ?_
    refine WL.s rfl (by simpa using hN) rfl ?_
    refine WL.s rfl (by simpa using hN) rfl ?_
    refine WL.s rfl (by simpa using hN) rfl ?_
    refine WL.c rfl (o_pickT rfl (by simpa using hN) ?_)
    refine WL.c rfl (o_mvh (show _ = Value.bool _ from rfl) ?_)
    refine WL.s rfl (rfl) rfl ?_
    refine WL.s rfl (rfl) rfl ?_
    refine WL.s rfl (rfl) rfl ?_
    refine WL.c rfl (o_pickT rfl (rfl) ?_)
    refine WL.c rfl (o_mvh (show _ = Value.bool _ from rfl) ?_)
    refine WL.s rfl (rfl) rfl ?_
    refine WL.s rfl (rfl) rfl ?_
    refine WL.s rfl (rfl) rfl ?_
    refine WL.s rfl (rfl) rfl ?_
    refine WL.s rfl (rfl) rfl ?_
    refine WL.s rfl (rfl) rfl ?_
    refine WL.c rfl (o_pickT rfl (rfl) ?_)
    refine WL.c rfl (o_mvh (show _ = Value.bool _ from rfl) ?_)
    refine WL.s rfl (rfl) rfl ?_
    refine WL.s rfl (rfl) rfl ?_
    refine WL.c rfl (o_pickT rfl (rfl) ?_)
    refine WL.nil ?_
    refine W.condT' rfl (rfl) ?_
    refine W.seq ?_
    skip
    skip
    refine W.region ?_
    refine WL.c rfl (o_fa 0 TI34 rfl TI31 rfl h1 ?_)
    refine WL.c rfl (o_ld TI31 rfl rfl (cell_of hC1 rfl) ?_)
    refine WL.c rfl (o_lenR TI31 rfl (hT.ext hx).row ?_)
    refine WL.c rfl (o_mvh (show _ = Value.int _ _ from rfl) ?_)
    refine WL.c rfl (o_addi rfl rfl (by omega) ?_)
    refine WL.c rfl (o_bldC (cs := [(.int .i64 92), _]) TI28 (Sizes.cons TI26 (Sizes.cons TI3 Sizes.nil)) rfl (lcp (show _ = Value.int _ _ from rfl) (lcp (show _ = Value.int _ _ from rfl) lnp)) rfl rfl ?_)
    refine WL.u (o_stA TI28 h2 (show _ = Value.agg #[.int .i64 92, .int .i64 ((L.length : Int) + (q : Int))] from rfl) rfl rfl hC2 rfl ?_)
    intro wz hCz hoz hsz
    replace hx := hx.trans' hoz (fun _ h => h) (fun b hb he => by omega)
    refine WL.nil ?_
    refine W.ret ?_
    refine retC rfl TI28 rfl h2 (show Cells _ c2 0 [.int .i64 92, .int .i64 ((L.length : Int) + (q : Int))] from Cells.of hCz 0 _ (by simp)) rfl ?_
    exact ⟨by rw [sc_ro htn hdn hq1 hbad hno], hx⟩
  try simp only [cs8] at c36
  have hq1 : q = R.length := by omega
  rw [hq1] at hno
  refine W.exit ?_
  refine W.seq ?_
  skip
  skip
  refine W.region ?_
  refine WL.c rfl (o_bldC (cs := [(.int .i64 0), (.int .i64 0)]) TI28 (Sizes.cons TI26 (Sizes.cons TI3 Sizes.nil)) rfl lnp rfl rfl ?_)
  refine WL.u (o_stA TI28 h2 (show _ = Value.agg #[.int .i64 0, .int .i64 0] from rfl) rfl rfl hC2 rfl ?_)
  intro wz hCz hoz hsz
  replace hx := hx.trans' hoz (fun _ h => h) (fun b hb he => by omega)
  refine WL.nil ?_
  refine W.ret ?_
  refine retC rfl TI28 rfl h2 (show Cells _ c2 0 [.int .i64 0, .int .i64 0] from Cells.of hCz 0 _ (by simp)) rfl ?_
  exact ⟨by rw [sc_ok htn hdn hno], hx⟩
end Go.Proofs.Ytpbflfgigfdohaa

set_option linter.unusedSimpArgs false
set_option linter.unusedVariables false
set_option maxRecDepth 100000
namespace Go.Proofs.Ytpbflfgigfdohaa
open Go Go.Vc Go.RowKit Go.Proofs

theorem pa_in {t : Tp} {at_ : Int} {q : Nat} (hq : q < t.parts.length) (h : ¬ (0 ≤ t.parts[q].ty ∧ t.parts[q].ty ≤ at_ - 1)) : ¬ paOk t at_ q := by
  rintro ⟨_, -, h2, h3, -⟩
  omega
theorem pa_va {t : Tp} {at_ : Int} {q : Nat} (hq : q < t.parts.length) (h8 : t.kind = 8) (h : ¬ (nameB t.parts[q].label = true ∧ t.parts[q].tag = 0)) : ¬ paOk t at_ q := by
  rintro ⟨_, h1, -⟩
  rw [if_pos h8] at h1
  exact h h1
theorem pa_vb {t : Tp} {at_ : Int} {q : Nat} (hq : q < t.parts.length) (h8 : ¬ t.kind = 8) (h : ¬ (t.parts[q].label = [] ∧ 0 ≤ t.parts[q].tag ∧ t.parts[q].tag ≤ 255)) : ¬ paOk t at_ q := by
  rintro ⟨_, h1, -⟩
  rw [if_neg h8] at h1
  exact h h1
theorem pa_dup {t : Tp} {at_ : Int} {q j : Nat} (hq : q < t.parts.length) (hj : j < q) (h : t.parts[j].label = t.parts[q].label ∧ t.parts[j].tag = t.parts[q].tag) : ¬ paOk t at_ q := by
  rintro ⟨_, -, -, -, h4⟩
  exact h4 j hj h
theorem pa_yes {t : Tp} {at_ : Int} {q : Nat} (hq : q < t.parts.length) (h1 : if t.kind = 8 then nameB t.parts[q].label = true ∧ t.parts[q].tag = 0 else t.parts[q].label = [] ∧ 0 ≤ t.parts[q].tag ∧ t.parts[q].tag ≤ 255) (h2 : 0 ≤ t.parts[q].ty ∧ t.parts[q].ty ≤ at_ - 1)
    (h3 : ∀ j (hj : j < q), ¬ (t.parts[j].label = t.parts[q].label ∧ t.parts[j].tag = t.parts[q].tag)) : paOk t at_ q := ⟨hq, h1, h2.1, by omega, h3⟩
theorem tq_1 {t : Tp} {at_ : Int} (hk : t.kind = 1) : tpOk t at_ ↔ (t.n = 1 ∨ t.n = 2 ∨ t.n = 4 ∨ t.n = 8) ∧ t.elem = 0 ∧ ((t.parts.length : Nat) : Int) = 0 := by
  rw [tpOk, if_pos (by omega), numOk, if_pos hk, len0]
theorem tq_23 {t : Tp} {at_ : Int} (hk : t.kind = 2 ∨ t.kind = 3) : tpOk t at_ ↔ t.n = 0 ∧ t.elem = 0 ∧ ((t.parts.length : Nat) : Int) = 0 := by
  rw [tpOk, if_pos (by omega), numOk, if_neg (by omega), if_neg (by omega), len0]
theorem tq_45 {t : Tp} {at_ : Int} (hk : t.kind = 4 ∨ t.kind = 5) : tpOk t at_ ↔ (1 ≤ t.n ∧ t.n ≤ 1048576) ∧ (0 ≤ t.elem ∧ t.elem ≤ at_ - 1) ∧ ((t.parts.length : Nat) : Int) = 0 := by
  rw [tpOk, if_neg (by omega), if_pos (by omega), numOk, if_neg (by omega), if_pos hk, len0]
  constructor
  · rintro ⟨h1, h2, h3, h4⟩; exact ⟨h1, ⟨h2, by omega⟩, h4⟩
  rintro ⟨h1, ⟨h2, h3⟩, h4⟩; exact ⟨h1, h2, by omega, h4⟩
theorem tq_6 {t : Tp} {at_ : Int} (hk : t.kind = 6) : tpOk t at_ ↔ t.n = 0 ∧ (0 ≤ t.elem ∧ t.elem ≤ at_ - 1) ∧ ((t.parts.length : Nat) : Int) = 0 := by
  rw [tpOk, if_neg (by omega), if_pos (by omega), numOk, if_neg (by omega), if_neg (by omega), len0]
  constructor
  · rintro ⟨h1, h2, h3, h4⟩; exact ⟨h1, ⟨h2, by omega⟩, h4⟩
  rintro ⟨h1, ⟨h2, h3⟩, h4⟩; exact ⟨h1, h2, by omega, h4⟩
theorem tq_78 {t : Tp} {at_ : Int} (hk : t.kind = 7 ∨ t.kind = 8) : tpOk t at_ ↔ t.n = 0 ∧ t.elem = 0 ∧ partsB t at_ 64 = true := by
  rw [tpOk, if_neg (by omega), if_neg (by omega), numOk, if_neg (by omega), if_neg (by omega), partsB_iff]
  exact ⟨fun h => ⟨h.1, h.2.2⟩, fun h => ⟨h.1, hk, h.2⟩⟩

set_option maxHeartbeats 4000000 in
theorem trparts_spec (t : Tp) (pv : Value) (at_ : Int) (w0 : World) (hS00 : Sl w0 3 pv t.parts.length (pas t.parts)) (hl : TLim t) (hkd : t.kind = 7 ∨ t.kind = 8) (hat : 0 ≤ at_ ∧ at_ ≤ 9223372036854775807) : Ca Try.prog 70 #[.agg (tcell t pv).toArray, .int .i64 at_] w0 (fun v w' => v = .bool (partsB t at_ 64) ∧ Ext w0 w') := by
  have hlen := hl.len
  refine Ca.of Try.func70 Try.ntmps70 rfl rfl ?_
  refine W.seq ?_
  refine W.region ?_
  refine WL.c rfl (o_boxB rfl ?_)
  intro w2 hC2 hx2 hs2
  obtain ⟨b2, hb2⟩ : ∃ b, b = w0.heap.size := ⟨_, rfl⟩
  rw [← hb2] at hC2 ⊢
  replace hC2 : w2.heap[b2]? = some (.cells (tcell t pv).toArray 50 (0, 0)) := hC2
  have hx := hx2
  refine WL.c rfl (o_ash (show _ = Value.bool _ from rfl) ?_)
  refine WL.nil ?_
  refine W.seq ?_
  refine W.region ?_
  refine WL.c rfl (o_ash (show _ = Value.int _ _ from rfl) ?_)
  refine WL.nil ?_
  refine W.seq ?_
  refine W.seq ?_
  refine W.region ?_
  refine WL.c rfl (o_fa 0 TI50 rfl TI3 rfl rfl ?_)
  refine WL.c rfl (o_ld TI3 rfl rfl (cell_of hC2 rfl) ?_)
  refine WL.c rfl (o_eq rfl rfl ?_)
  refine WL.nil ?_
  refine W.cut (fun e1 w1 => e1 1 = .int .i64 at_ ∧ e1 2 = .pointer (some ⟨b2, 0, none⟩) ∧ e1 5 = .int .i64 64 ∧ w1.heap[b2]? = some (.cells (tcell t pv).toArray 50 (0, 0)) ∧ Ext w0 w1) ?_ ?_
  · -- both ways
    refine W.cond rfl (fun c11 => ?_) (fun c11 => ?_)
    · try simp only [cs8] at c11
      refine W.region ?_
      refine WL.c rfl (o_ash (show _ = Value.int _ _ from rfl) ?_)
      refine WL.nil ?_
      exact ⟨rfl, rfl, rfl, hC2, hx⟩
    try simp only [cs8] at c11
    refine W.skip ?_
    exact ⟨rfl, rfl, rfl, hC2, hx⟩
  rintro e w ⟨h1, h2, h5, hC2, hx⟩
  refine W.seq ?_
  refine W.seq ?_
  refine W.region ?_
  refine WL.c rfl (o_fa 3 TI50 rfl TI48 rfl h2 ?_)
  refine WL.c rfl (o_ld TI48 rfl rfl (cell_of hC2 rfl) ?_)
  refine WL.c rfl (o_lenR TI48 rfl (hS00.ext hx) ?_)
  refine WL.c rfl (o_mvh h5 ?_)
  refine WL.c rfl (o_call Try.call42 (lc rfl (lc rfl (lc rfl ln))) ((tin_spec ((t.parts.length : Nat) : Int) 1 64 _).mono ?_))
  rintro v16 w16 ⟨rfl, rfl⟩
  refine WL.c rfl (o_not' rfl ?_)
  refine WL.nil ?_
  refine W.cond rfl (fun c17 => ?_) (fun c17 => ?_)
  · try simp only [cs8] at c17
    have hbl : ¬ (1 ≤ t.parts.length ∧ (t.parts.length : Int) ≤ 64) := by
      have h9 : ¬ ((1 : Int) ≤ (t.parts.length : Int) ∧ (t.parts.length : Int) ≤ 64) := by simpa using c17
      omega
    refine W.seq ?_
    refine W.region ?_
    refine WL.c rfl (o_ash (show _ = Value.bool _ from rfl) ?_)
    refine WL.nil ?_
    refine W.ret ?_
    refine ret1v rfl (show _ = Value.bool _ from rfl) ?_
    exact ⟨congrArg Value.bool (partsB_len hbl).symm, hx⟩
  try simp only [cs8] at c17
  have hbl : 1 ≤ t.parts.length ∧ (t.parts.length : Int) ≤ 64 := by
    have h9 : (1 : Int) ≤ (t.parts.length : Int) ∧ (t.parts.length : Int) ≤ 64 := by simpa using c17
    omega
  refine W.skip ?_
  refine W.seq ?_
  refine W.seq ?_
  refine W.region ?_
  refine WL.c rfl (o_ash (show _ = Value.int _ _ from rfl) ?_)
  refine WL.nil ?_
  refine W.block ?_
  refine W.loop (fun e w => ∃ k : Nat, k ≤ t.parts.length ∧ e 1 = .int .i64 at_ ∧ e 2 = .pointer (some ⟨b2, 0, none⟩) ∧ e 6 = .int .i64 (k : Int) ∧ (∀ j, j < k → paOk t at_ j) ∧ w.heap[b2]? = some (.cells (tcell t pv).toArray 50 (0, 0)) ∧ Ext w0 w) (fun e w => t.parts.length - (intOf (e 6)).toNat) ?_ ?_
  · exact ⟨0, Nat.zero_le _, h1, h2, rfl, fun j hj => by omega, hC2, hx⟩
  rintro e w ⟨k, hk, h1, h2, h6, hno, hC2, hx⟩
  have hm6 := h6
  refine W.seq ?_
  refine W.seq ?_
  refine W.region ?_
  refine WL.c rfl (o_mvh h6 ?_)
  refine WL.c rfl (o_fa 3 TI50 rfl TI48 rfl h2 ?_)
  refine WL.c rfl (o_ld TI48 rfl rfl (cell_of hC2 rfl) ?_)
  refine WL.c rfl (o_lenR TI48 rfl (hS00.ext hx) ?_)
  refine WL.c rfl (o_lt rfl rfl ?_)
  refine WL.nil ?_
  refine W.cond rfl (fun c22 => ?_) (fun c22 => ?_)
  · try simp only [cs8] at c22
    have hk1 : k < t.parts.length := by omega
    obtain ⟨ub, uo, uc, hpv, huc⟩ := Sl.paq (hS00.ext hx) hk1
    have hC2s := hC2
    rw [hpv] at hC2s
    obtain ⟨p, hp⟩ : ∃ p, p = t.parts[k] := ⟨_, rfl⟩
    rw [← hp] at huc
    have hlbl : p.label.length ≤ 9223372036854775807 := by rw [hp]; exact hl.lb _ (List.getElem_mem hk1)
    refine W.skip ?_
    refine W.seq ?_
    refine W.block ?_
    refine W.seq ?_
    refine W.region ?_
    refine WL.c rfl (o_fa 3 TI50 rfl TI48 rfl h2 ?_)
    refine WL.c rfl (o_ld TI48 rfl rfl (cell_of hC2s rfl) ?_)
    refine WL.c rfl (o_mvh h6 ?_)
    refine WL.c rfl (o_ixB (i := k) TI48 TI52 (show _ = Value.slice (some ⟨ub, uo, none⟩) t.parts.length uc from rfl) (show _ = Value.int .i64 (k : Int) from rfl) (by omega) ?_)
    refine WL.c rfl (o_ldA TI52 rfl rfl huc rfl ?_)
    refine WL.c rfl (o_alB TI52 ?_)
    intro wa hCa hxa hsa
    refine WL.u (o_stA TI52 rfl (show _ = Value.agg (paV p).toArray from rfl) rfl rfl hCa rfl ?_)
    intro wb7 hC7 hob hsb
    have hxb := Ext.own hxa (Nat.le_refl _) hob
    obtain ⟨b7, hb7⟩ : ∃ b, b = w.heap.size := ⟨_, rfl⟩
    rw [← hb7] at hC7 ⊢
    clear hCa hxa hsa hob hsb
    replace hx := hx.tr hxb
    replace hC2 := hxb.blk hC2 (fun h => h)
    clear hxb
    refine WL.nil ?_
    refine W.seq ?_
    refine W.seq ?_
    refine W.region ?_
    refine WL.c rfl (o_fa 2 TI52 rfl TI3 rfl rfl ?_)
    refine WL.c rfl (o_ld TI3 rfl rfl (cell_of hC7 rfl) ?_)
    refine WL.c rfl (o_mvh h1 ?_)
    refine WL.c rfl (o_subi rfl rfl (by omega) ?_)
    refine WL.c rfl (o_call Try.call42 (lc rfl (lc rfl (lc rfl ln))) ((tin_spec p.ty 0 (at_ - 1) _).mono ?_))
    rintro v34 w34 ⟨rfl, rfl⟩
    refine WL.c rfl (o_not' rfl ?_)
    refine WL.nil ?_
    refine W.cond rfl (fun c35 => ?_) (fun c35 => ?_)
    · try simp only [cs8] at c35
      have hin : ¬ (0 ≤ p.ty ∧ p.ty ≤ at_ - 1) := by simpa using c35
      refine W.seq ?_
      refine W.region ?_
      refine WL.c rfl (o_ash (show _ = Value.bool _ from rfl) ?_)
      refine WL.nil ?_
      refine W.ret ?_
      refine ret1v rfl (show _ = Value.bool _ from rfl) ?_
      exact ⟨congrArg Value.bool (partsB_no hk1 (pa_in hk1 (hp ▸ hin))).symm, hx⟩
    try simp only [cs8] at c35
    have hin : 0 ≤ p.ty ∧ p.ty ≤ at_ - 1 := by simpa using c35
    refine W.skip ?_
    refine W.seq ?_
    refine W.seq ?_
    by_cases h8 : t.kind = 8
    by_cases hN : nameB p.label = true
    by_cases hT : p.tag = 0
    rotate_left
    rotate_left
    rotate_left
    by_cases hL : p.label = []
    by_cases hT : 0 ≤ p.tag ∧ p.tag ≤ 255
    · skip
      have hva : if t.kind = 8 then nameB p.label = true ∧ p.tag = 0 else p.label = [] ∧ 0 ≤ p.tag ∧ p.tag ≤ 255 := by rw [if_neg h8]; exact ⟨hL, hT⟩
      refine W.region ?_
      refine WL.c rfl (o_fa 0 TI50 rfl TI3 rfl h2 ?_)
      refine WL.c rfl (o_ld TI3 rfl rfl (cell_of hC2 rfl) ?_)
      refine WL.c rfl (o_eq rfl rfl ?_)
      refine WL.c rfl (o_mvh (show _ = Value.bool _ from rfl) ?_)
      refine WL.s rfl (by simp [h8]) rfl ?_
      refine WL.s rfl (by simp [h8]) rfl ?_
      refine WL.s rfl (by simp [h8]) rfl ?_
      refine WL.s rfl (by simp [h8]) rfl ?_
      refine WL.s rfl (by simp [h8]) rfl ?_
      refine WL.z rfl rfl ?_
      refine WL.z rfl rfl ?_
      refine WL.z rfl rfl ?_
      refine WL.s rfl (by simp [h8]) rfl ?_
      refine WL.c rfl (o_pickF rfl (by simp [h8]) ?_)
      refine WL.c rfl (o_mvh (show _ = Value.bool _ from rfl) ?_)
      refine WL.g rfl (rfl) rfl (o_fa 0 TI50 rfl TI3 rfl h2 ?_)
      refine WL.g rfl (rfl) rfl (o_ld TI3 rfl rfl (cell_of hC2 rfl) ?_)
      refine WL.g rfl (rfl) rfl (o_eq rfl rfl ?_)
      refine WL.g rfl (rfl) rfl (o_mvh (show _ = Value.bool _ from rfl) ?_)
      refine WL.g rfl (by simp; omega) rfl (o_fa 0 TI52 rfl TI9 rfl rfl ?_)
      refine WL.g rfl (by simp; omega) rfl (o_ld TI9 rfl rfl (cell_of hC7 rfl) ?_)
      refine WL.g rfl (by simp; omega) rfl (o_neT rfl rfl ?_)
      refine WL.g rfl (by simp; omega) rfl (o_mvh (show _ = Value.bool _ from rfl) ?_)
      refine WL.g rfl (by simp [hL]) rfl (o_fa 1 TI52 rfl TI3 rfl rfl ?_)
      refine WL.g rfl (by simp [hL]) rfl (o_ld TI3 rfl rfl (cell_of hC7 rfl) ?_)
      refine WL.g rfl (by simp [hL]) rfl (o_call Try.call42 (lc rfl (lc rfl (lc rfl ln))) ((tin_spec p.tag 0 255 _).mono ?_))
      rintro v61 w61 ⟨rfl, rfl⟩
      refine WL.g rfl (by simp [hL]) rfl (o_not' rfl ?_)
      refine WL.g rfl (by simp; omega) rfl (o_pickO rfl rfl ?_)
      refine WL.g rfl (rfl) rfl (o_pickA rfl rfl ?_)
      refine WL.c rfl (o_pickO rfl rfl ?_)
      refine WL.nil ?_
      refine W.condF' rfl (by simp [hL, hT]) ?_
      refine W.skip ?_
      refine W.seq ?_
      refine W.region ?_
      refine WL.c rfl (o_ash (show _ = Value.int _ _ from rfl) ?_)
      refine WL.nil ?_
      refine W.block ?_
      refine W.loop (fun e w => ∃ j : Nat, j ≤ k ∧ e 1 = .int .i64 at_ ∧ e 2 = .pointer (some ⟨b2, 0, none⟩) ∧ e 6 = .int .i64 (k : Int) ∧ e 7 = .pointer (some ⟨b7, 0, none⟩) ∧ e 8 = .int .i64 (j : Int) ∧ (∀ m (hm : m < j) (hm2 : m < t.parts.length), ¬ (t.parts[m].label = p.label ∧ t.parts[m].tag = p.tag)) ∧ w.heap[b2]? = some (.cells (tcell t pv).toArray 50 (0, 0)) ∧ w.heap[b7]? = some (.cells (paV p).toArray 52 (0, 0)) ∧ Ext w0 w) (fun e w => k - (intOf (e 8)).toNat) ?_ ?_
      · exact ⟨0, Nat.zero_le _, h1, h2, h6, rfl, rfl, fun m hm => by omega, hC2, hC7, hx⟩
      rintro e w ⟨j, hj, h1, h2, h6, h7, h8_, hnd, hC2, hC7, hx⟩
      have hm8 := h8_
      have h8 := h8_
      have hC2s := hC2
      rw [hpv] at hC2s
      refine W.seq ?_
      refine W.seq ?_
      refine W.region ?_
      refine WL.c rfl (o_mvh h8 ?_)
      refine WL.c rfl (o_mvh h6 ?_)
      refine WL.c rfl (o_lt rfl rfl ?_)
      refine WL.nil ?_
      refine W.cond rfl (fun c68 => ?_) (fun c68 => ?_)
      · try simp only [cs8] at c68
        have hj1 : j < k := by omega
        have hj2 : j < t.parts.length := by omega
        have huj := Sl.paw (show Sl w 3 (.slice (some ⟨ub, uo, none⟩) t.parts.length uc) t.parts.length (pas t.parts) from hpv ▸ hS00.ext hx) hj2
        obtain ⟨pj, hpj⟩ : ∃ x, x = t.parts[j] := ⟨_, rfl⟩
        rw [← hpj] at huj
        refine W.skip ?_
        refine W.seq ?_
        refine W.block ?_
        refine W.seq ?_
        by_cases hA : pj.label = p.label
        · skip
          refine W.quiet rfl (by kernel_rfl) ?_
          refine WQ.c rfl ((QO.o rfl fun _ => o_fa 3 TI50 rfl TI48 rfl h2 ⟨rfl, rfl⟩)) ?_
          refine WQ.c rfl ((QO.o rfl fun _ => o_ld TI48 rfl rfl (cell_of hC2s rfl) ⟨rfl, rfl⟩)) ?_
          refine WQ.c rfl ((QO.o rfl fun _ => o_mvh h8 ⟨rfl, rfl⟩)) ?_
          refine WQ.c rfl ((QO.o rfl fun _ => o_ixB (i := j) TI48 TI52 (show _ = Value.slice (some ⟨ub, uo, none⟩) t.parts.length uc from rfl) (show _ = Value.int .i64 (j : Int) from rfl) (by omega) ⟨rfl, rfl⟩)) ?_
          refine WQ.c rfl ((QO.o rfl fun _ => o_fa 0 TI52 rfl TI9 rfl rfl ⟨rfl, rfl⟩)) ?_
          refine WQ.c rfl ((QO.o rfl fun _ => o_ld TI9 rfl rfl (huj 0 _ rfl) ⟨rfl, rfl⟩)) ?_
          refine WQ.c rfl ((QO.o rfl fun _ => o_fa 0 TI52 rfl TI9 rfl h7 ⟨rfl, rfl⟩)) ?_
          refine WQ.c rfl ((QO.o rfl fun _ => o_ld TI9 rfl rfl (cell_of hC7 rfl) ⟨rfl, rfl⟩)) ?_
          refine WQ.c rfl ((QO.o rfl fun _ => o_eqT rfl rfl ⟨rfl, rfl⟩)) ?_
          refine WQ.c rfl ((QO.o rfl fun _ => o_mvh (show _ = Value.bool _ from rfl) ⟨rfl, rfl⟩)) ?_
          refine WQ.g rfl (by simp [hA]) rfl ((QO.o rfl fun _ => o_fa 3 TI50 rfl TI48 rfl h2 ⟨rfl, rfl⟩)) ?_
          refine WQ.g rfl (by simp [hA]) rfl ((QO.o rfl fun _ => o_ld TI48 rfl rfl (cell_of hC2s rfl) ⟨rfl, rfl⟩)) ?_
          refine WQ.g rfl (by simp [hA]) rfl ((QO.o rfl fun _ => o_mvh h8 ⟨rfl, rfl⟩)) ?_
          refine WQ.g rfl (by simp [hA]) rfl ((QO.o rfl fun _ => o_ixB (i := j) TI48 TI52 (show _ = Value.slice (some ⟨ub, uo, none⟩) t.parts.length uc from rfl) (show _ = Value.int .i64 (j : Int) from rfl) (by omega) ⟨rfl, rfl⟩)) ?_
          refine WQ.g rfl (by simp [hA]) rfl ((QO.o rfl fun _ => o_fa 1 TI52 rfl TI3 rfl rfl ⟨rfl, rfl⟩)) ?_
          refine WQ.g rfl (by simp [hA]) rfl ((QO.o rfl fun _ => o_ld TI3 rfl rfl (huj 1 _ rfl) ⟨rfl, rfl⟩)) ?_
          refine WQ.g rfl (by simp [hA]) rfl ((QO.o rfl fun _ => o_fa 1 TI52 rfl TI3 rfl h7 ⟨rfl, rfl⟩)) ?_
          refine WQ.g rfl (by simp [hA]) rfl ((QO.o rfl fun _ => o_ld TI3 rfl rfl (cell_of hC7 rfl) ⟨rfl, rfl⟩)) ?_
          refine WQ.g rfl (by simp [hA]) rfl ((QO.o rfl fun _ => o_eq rfl rfl ⟨rfl, rfl⟩)) ?_
          refine WQ.c rfl ((QO.r fun _ => r_pickA rfl rfl)) ?_
          refine WQ.nil ?_
          intro nq
          refine W.cond rfl (fun c90 => ?_) (fun c90 => ?_)
          · try simp only [cs8] at c90
            have hdup : t.parts[j].label = p.label ∧ t.parts[j].tag = p.tag := by rw [← hpj]; simpa using c90
            refine W.seq ?_
            refine W.region ?_
            refine WL.c rfl (o_ash (show _ = Value.bool _ from rfl) ?_)
            refine WL.nil ?_
            refine W.ret ?_
            refine ret1v rfl (show _ = Value.bool _ from rfl) ?_
            exact ⟨congrArg Value.bool (partsB_no hk1 (pa_dup hk1 hj1 (by rw [← hp]; exact hdup))).symm, hx.tr (Only.drewN _ _)⟩
          try simp only [cs8] at c90
          have hnj : ¬ (t.parts[j].label = p.label ∧ t.parts[j].tag = p.tag) := by rw [← hpj]; rintro ⟨a1, a2⟩; simp [a1, a2] at c90
          refine W.skip ?_
          refine W.region ?_
          refine WL.c rfl (o_mvh h8 ?_)
          refine WL.c rfl (o_addi rfl rfl (by omega) ?_)
          refine WL.c rfl (o_ash (show _ = Value.int _ _ from rfl) ?_)
          refine WL.nil ?_
          refine ⟨⟨j + 1, by omega, h1, h2, h6, h7, rfl, fun m hm hm2 => ?_, hC2, hC7, hx.tr (Only.drewN _ _)⟩, ?_⟩
          · rcases Nat.lt_or_ge m j with h | h
            · exact hnd m h hm2
            have e : m = j := by omega
            subst e; exact hnj
          show k - ((j : Int) + 1).toNat < _
          rw [hm8]; simp [intOf]; omega
        skip
        have hnj : ¬ (t.parts[j].label = p.label ∧ t.parts[j].tag = p.tag) := by rw [← hpj]; exact fun h => hA h.1
        refine W.quiet rfl (by kernel_rfl) ?_
        refine WQ.c rfl ((QO.o rfl fun _ => o_fa 3 TI50 rfl TI48 rfl h2 ⟨rfl, rfl⟩)) ?_
        refine WQ.c rfl ((QO.o rfl fun _ => o_ld TI48 rfl rfl (cell_of hC2s rfl) ⟨rfl, rfl⟩)) ?_
        refine WQ.c rfl ((QO.o rfl fun _ => o_mvh h8 ⟨rfl, rfl⟩)) ?_
        refine WQ.c rfl ((QO.o rfl fun _ => o_ixB (i := j) TI48 TI52 (show _ = Value.slice (some ⟨ub, uo, none⟩) t.parts.length uc from rfl) (show _ = Value.int .i64 (j : Int) from rfl) (by omega) ⟨rfl, rfl⟩)) ?_
        refine WQ.c rfl ((QO.o rfl fun _ => o_fa 0 TI52 rfl TI9 rfl rfl ⟨rfl, rfl⟩)) ?_
        refine WQ.c rfl ((QO.o rfl fun _ => o_ld TI9 rfl rfl (huj 0 _ rfl) ⟨rfl, rfl⟩)) ?_
        refine WQ.c rfl ((QO.o rfl fun _ => o_fa 0 TI52 rfl TI9 rfl h7 ⟨rfl, rfl⟩)) ?_
        refine WQ.c rfl ((QO.o rfl fun _ => o_ld TI9 rfl rfl (cell_of hC7 rfl) ⟨rfl, rfl⟩)) ?_
        refine WQ.c rfl ((QO.o rfl fun _ => o_eqT rfl rfl ⟨rfl, rfl⟩)) ?_
        refine WQ.c rfl ((QO.o rfl fun _ => o_mvh (show _ = Value.bool _ from rfl) ⟨rfl, rfl⟩)) ?_
        refine WQ.s rfl (by simp [hA]) rfl ?_
        refine WQ.s rfl (by simp [hA]) rfl ?_
        refine WQ.s rfl (by simp [hA]) rfl ?_
        refine WQ.s rfl (by simp [hA]) rfl ?_
        refine WQ.s rfl (by simp [hA]) rfl ?_
        refine WQ.s rfl (by simp [hA]) rfl ?_
        refine WQ.s rfl (by simp [hA]) rfl ?_
        refine WQ.s rfl (by simp [hA]) rfl ?_
        refine WQ.s rfl (by simp [hA]) rfl ?_
        refine WQ.c rfl ((QO.r fun _ => r_pickF rfl (by simp [hA]))) ?_
        refine WQ.nil ?_
        intro nq
        refine W.condF' rfl (rfl) ?_
        refine W.skip ?_
        refine W.region ?_
        refine WL.c rfl (o_mvh h8 ?_)
        refine WL.c rfl (o_addi rfl rfl (by omega) ?_)
        refine WL.c rfl (o_ash (show _ = Value.int _ _ from rfl) ?_)
        refine WL.nil ?_
        refine ⟨⟨j + 1, by omega, h1, h2, h6, h7, rfl, fun m hm hm2 => ?_, hC2, hC7, hx.tr (Only.drewN _ _)⟩, ?_⟩
        · rcases Nat.lt_or_ge m j with h | h
          · exact hnd m h hm2
          have e : m = j := by omega
          subst e; exact hnj
        show k - ((j : Int) + 1).toNat < _
        rw [hm8]; simp [intOf]; omega
      try simp only [cs8] at c68
      have hj1 : j = k := by omega
      rw [hj1] at hnd
      replace hnd : ∀ m (hm : m < k), ¬ ((t.parts[m]'(by omega)).label = p.label ∧ (t.parts[m]'(by omega)).tag = p.tag) := fun m hm => hnd m hm (by omega)
      refine W.exit ?_
      refine W.region ?_
      refine WL.c rfl (o_mvh h6 ?_)
      refine WL.c rfl (o_addi rfl rfl (by omega) ?_)
      refine WL.c rfl (o_ash (show _ = Value.int _ _ from rfl) ?_)
      refine WL.nil ?_
      refine ⟨⟨k + 1, by omega, h1, h2, rfl, fun j hj => ?_, hC2, hx⟩, ?_⟩
      · rcases Nat.lt_or_ge j k with h | h
        · exact hno j h
        rw [show j = k by omega]; exact pa_yes hk1 (hp ▸ hva) (hp ▸ hin) (fun m hm => by rw [← hp]; exact hnd m (by omega))
      show t.parts.length - ((k : Int) + 1).toNat < _
      rw [hm6]; simp [intOf]; omega
    · skip
      have hva : ¬ (p.label = [] ∧ 0 ≤ p.tag ∧ p.tag ≤ 255) := fun h => hT h.2
      refine W.region ?_
      refine WL.c rfl (o_fa 0 TI50 rfl TI3 rfl h2 ?_)
      refine WL.c rfl (o_ld TI3 rfl rfl (cell_of hC2 rfl) ?_)
      refine WL.c rfl (o_eq rfl rfl ?_)
      refine WL.c rfl (o_mvh (show _ = Value.bool _ from rfl) ?_)
      refine WL.s rfl (by simp [h8]) rfl ?_
      refine WL.s rfl (by simp [h8]) rfl ?_
      refine WL.s rfl (by simp [h8]) rfl ?_
      refine WL.s rfl (by simp [h8]) rfl ?_
      refine WL.s rfl (by simp [h8]) rfl ?_
      refine WL.z rfl rfl ?_
      refine WL.z rfl rfl ?_
      refine WL.z rfl rfl ?_
      refine WL.s rfl (by simp [h8]) rfl ?_
      refine WL.c rfl (o_pickF rfl (by simp [h8]) ?_)
      refine WL.c rfl (o_mvh (show _ = Value.bool _ from rfl) ?_)
      refine WL.g rfl (rfl) rfl (o_fa 0 TI50 rfl TI3 rfl h2 ?_)
      refine WL.g rfl (rfl) rfl (o_ld TI3 rfl rfl (cell_of hC2 rfl) ?_)
      refine WL.g rfl (rfl) rfl (o_eq rfl rfl ?_)
      refine WL.g rfl (rfl) rfl (o_mvh (show _ = Value.bool _ from rfl) ?_)
      refine WL.g rfl (by simp; omega) rfl (o_fa 0 TI52 rfl TI9 rfl rfl ?_)
      refine WL.g rfl (by simp; omega) rfl (o_ld TI9 rfl rfl (cell_of hC7 rfl) ?_)
      refine WL.g rfl (by simp; omega) rfl (o_neT rfl rfl ?_)
      refine WL.g rfl (by simp; omega) rfl (o_mvh (show _ = Value.bool _ from rfl) ?_)
      refine WL.g rfl (by simp [hL]) rfl (o_fa 1 TI52 rfl TI3 rfl rfl ?_)
      refine WL.g rfl (by simp [hL]) rfl (o_ld TI3 rfl rfl (cell_of hC7 rfl) ?_)
      refine WL.g rfl (by simp [hL]) rfl (o_call Try.call42 (lc rfl (lc rfl (lc rfl ln))) ((tin_spec p.tag 0 255 _).mono ?_))
      rintro v61 w61 ⟨rfl, rfl⟩
      refine WL.g rfl (by simp [hL]) rfl (o_not' rfl ?_)
      refine WL.g rfl (by simp; omega) rfl (o_pickO rfl rfl ?_)
      refine WL.g rfl (rfl) rfl (o_pickA rfl rfl ?_)
      refine WL.c rfl (o_pickO rfl rfl ?_)
      refine WL.nil ?_
      refine W.condT' rfl (by simp [hL, hT]; omega) ?_
      refine W.seq ?_
      refine W.region ?_
      refine WL.c rfl (o_ash (show _ = Value.bool _ from rfl) ?_)
      refine WL.nil ?_
      refine W.ret ?_
      refine ret1v rfl (show _ = Value.bool _ from rfl) ?_
      first | exact ⟨congrArg Value.bool (partsB_no hk1 (pa_va hk1 h8 (hp ▸ hva))).symm, hx⟩ | exact ⟨congrArg Value.bool (partsB_no hk1 (pa_vb hk1 h8 (hp ▸ hva))).symm, hx⟩
    · skip
      have hva : ¬ (p.label = [] ∧ 0 ≤ p.tag ∧ p.tag ≤ 255) := fun h => hL h.1
      refine W.region ?_
      refine WL.c rfl (o_fa 0 TI50 rfl TI3 rfl h2 ?_)
      refine WL.c rfl (o_ld TI3 rfl rfl (cell_of hC2 rfl) ?_)
      refine WL.c rfl (o_eq rfl rfl ?_)
      refine WL.c rfl (o_mvh (show _ = Value.bool _ from rfl) ?_)
      refine WL.s rfl (by simp [h8]) rfl ?_
      refine WL.s rfl (by simp [h8]) rfl ?_
      refine WL.s rfl (by simp [h8]) rfl ?_
      refine WL.s rfl (by simp [h8]) rfl ?_
      refine WL.s rfl (by simp [h8]) rfl ?_
      refine WL.z rfl rfl ?_
      refine WL.z rfl rfl ?_
      refine WL.z rfl rfl ?_
      refine WL.s rfl (by simp [h8]) rfl ?_
      refine WL.c rfl (o_pickF rfl (by simp [h8]) ?_)
      refine WL.c rfl (o_mvh (show _ = Value.bool _ from rfl) ?_)
      refine WL.g rfl (rfl) rfl (o_fa 0 TI50 rfl TI3 rfl h2 ?_)
      refine WL.g rfl (rfl) rfl (o_ld TI3 rfl rfl (cell_of hC2 rfl) ?_)
      refine WL.g rfl (rfl) rfl (o_eq rfl rfl ?_)
      refine WL.g rfl (rfl) rfl (o_mvh (show _ = Value.bool _ from rfl) ?_)
      refine WL.g rfl (by simp; omega) rfl (o_fa 0 TI52 rfl TI9 rfl rfl ?_)
      refine WL.g rfl (by simp; omega) rfl (o_ld TI9 rfl rfl (cell_of hC7 rfl) ?_)
      refine WL.g rfl (by simp; omega) rfl (o_neT rfl rfl ?_)
      refine WL.g rfl (by simp; omega) rfl (o_mvh (show _ = Value.bool _ from rfl) ?_)
      refine WL.s rfl (by simp [hL]) rfl ?_
      refine WL.s rfl (by simp [hL]) rfl ?_
      refine WL.s rfl (by simp [hL]) rfl ?_
      refine WL.s rfl (by simp [hL]) rfl ?_
      refine WL.g rfl (by simp; omega) rfl (o_pickT rfl (by simp [hL]) ?_)
      refine WL.g rfl (rfl) rfl (o_pickA rfl rfl ?_)
      refine WL.c rfl (o_pickO rfl rfl ?_)
      refine WL.nil ?_
      refine W.condT' rfl (by simp [hL]; omega) ?_
      refine W.seq ?_
      refine W.region ?_
      refine WL.c rfl (o_ash (show _ = Value.bool _ from rfl) ?_)
      refine WL.nil ?_
      refine W.ret ?_
      refine ret1v rfl (show _ = Value.bool _ from rfl) ?_
      first | exact ⟨congrArg Value.bool (partsB_no hk1 (pa_va hk1 h8 (hp ▸ hva))).symm, hx⟩ | exact ⟨congrArg Value.bool (partsB_no hk1 (pa_vb hk1 h8 (hp ▸ hva))).symm, hx⟩
    · skip
      have hva : if t.kind = 8 then nameB p.label = true ∧ p.tag = 0 else p.label = [] ∧ 0 ≤ p.tag ∧ p.tag ≤ 255 := by rw [if_pos h8]; exact ⟨hN, hT⟩
      refine W.region ?_
      refine WL.c rfl (o_fa 0 TI50 rfl TI3 rfl h2 ?_)
      refine WL.c rfl (o_ld TI3 rfl rfl (cell_of hC2 rfl) ?_)
      refine WL.c rfl (o_eq rfl rfl ?_)
      refine WL.c rfl (o_mvh (show _ = Value.bool _ from rfl) ?_)
      refine WL.g rfl (by simp [h8]) rfl (o_fa 0 TI52 rfl TI9 rfl rfl ?_)
      refine WL.g rfl (by simp [h8]) rfl (o_ld TI9 rfl rfl (cell_of hC7 rfl) ?_)
      refine WL.g rfl (by simp [h8]) rfl (o_call Try.call41 (lc rfl ln) ((rname_spec p.label _ hlbl).mono ?_))
      rintro v42 w42 ⟨rfl, rfl⟩
      refine WL.g rfl (by simp [h8]) rfl (o_not' rfl ?_)
      refine WL.g rfl (by simp [h8]) rfl (o_mvh (show _ = Value.bool _ from rfl) ?_)
      refine WL.g rfl (by simp [hN]) rfl (o_fa 1 TI52 rfl TI3 rfl rfl ?_)
      refine WL.g rfl (by simp [hN]) rfl (o_ld TI3 rfl rfl (cell_of hC7 rfl) ?_)
      refine WL.g rfl (by simp [hN]) rfl (o_ne rfl rfl ?_)
      refine WL.g rfl (by simp [h8]) rfl (o_pickO rfl rfl ?_)
      refine WL.c rfl (o_pickA rfl rfl ?_)
      refine WL.c rfl (o_mvh (show _ = Value.bool _ from rfl) ?_)
      refine WL.g rfl (by simp [hN, hT]) rfl (o_fa 0 TI50 rfl TI3 rfl h2 ?_)
      refine WL.g rfl (by simp [hN, hT]) rfl (o_ld TI3 rfl rfl (cell_of hC2 rfl) ?_)
      refine WL.g rfl (by simp [hN, hT]) rfl (o_eq rfl rfl ?_)
      refine WL.g rfl (by simp [hN, hT]) rfl (o_mvh (show _ = Value.bool _ from rfl) ?_)
      refine WL.s rfl (by simp [h8]) rfl ?_
      refine WL.s rfl (by simp [h8]) rfl ?_
      refine WL.s rfl (by simp [h8]) rfl ?_
      refine WL.s rfl (by simp [h8]) rfl ?_
      refine WL.z rfl rfl ?_
      refine WL.z rfl rfl ?_
      refine WL.z rfl rfl ?_
      refine WL.z rfl rfl ?_
      refine WL.s rfl (by simp [h8]) rfl ?_
      refine WL.g rfl (by simp [hN, hT]) rfl (o_pickF rfl (by simp [h8]) ?_)
      refine WL.c rfl (o_pickO rfl rfl ?_)
      refine WL.nil ?_
      refine W.condF' rfl (by simp [hN, hT]) ?_
      refine W.skip ?_
      refine W.seq ?_
      refine W.region ?_
      refine WL.c rfl (o_ash (show _ = Value.int _ _ from rfl) ?_)
      refine WL.nil ?_
      refine W.block ?_
      refine W.loop (fun e w => ∃ j : Nat, j ≤ k ∧ e 1 = .int .i64 at_ ∧ e 2 = .pointer (some ⟨b2, 0, none⟩) ∧ e 6 = .int .i64 (k : Int) ∧ e 7 = .pointer (some ⟨b7, 0, none⟩) ∧ e 8 = .int .i64 (j : Int) ∧ (∀ m (hm : m < j) (hm2 : m < t.parts.length), ¬ (t.parts[m].label = p.label ∧ t.parts[m].tag = p.tag)) ∧ w.heap[b2]? = some (.cells (tcell t pv).toArray 50 (0, 0)) ∧ w.heap[b7]? = some (.cells (paV p).toArray 52 (0, 0)) ∧ Ext w0 w) (fun e w => k - (intOf (e 8)).toNat) ?_ ?_
      · exact ⟨0, Nat.zero_le _, h1, h2, h6, rfl, rfl, fun m hm => by omega, hC2, hC7, hx⟩
      rintro e w ⟨j, hj, h1, h2, h6, h7, h8_, hnd, hC2, hC7, hx⟩
      have hm8 := h8_
      have h8 := h8_
      have hC2s := hC2
      rw [hpv] at hC2s
      refine W.seq ?_
      refine W.seq ?_
      refine W.region ?_
      refine WL.c rfl (o_mvh h8 ?_)
      refine WL.c rfl (o_mvh h6 ?_)
      refine WL.c rfl (o_lt rfl rfl ?_)
      refine WL.nil ?_
      refine W.cond rfl (fun c68 => ?_) (fun c68 => ?_)
      · try simp only [cs8] at c68
        have hj1 : j < k := by omega
        have hj2 : j < t.parts.length := by omega
        have huj := Sl.paw (show Sl w 3 (.slice (some ⟨ub, uo, none⟩) t.parts.length uc) t.parts.length (pas t.parts) from hpv ▸ hS00.ext hx) hj2
        obtain ⟨pj, hpj⟩ : ∃ x, x = t.parts[j] := ⟨_, rfl⟩
        rw [← hpj] at huj
        refine W.skip ?_
        refine W.seq ?_
        refine W.block ?_
        refine W.seq ?_
        by_cases hA : pj.label = p.label
        · skip
          refine W.quiet rfl (by kernel_rfl) ?_
          refine WQ.c rfl ((QO.o rfl fun _ => o_fa 3 TI50 rfl TI48 rfl h2 ⟨rfl, rfl⟩)) ?_
          refine WQ.c rfl ((QO.o rfl fun _ => o_ld TI48 rfl rfl (cell_of hC2s rfl) ⟨rfl, rfl⟩)) ?_
          refine WQ.c rfl ((QO.o rfl fun _ => o_mvh h8 ⟨rfl, rfl⟩)) ?_
          refine WQ.c rfl ((QO.o rfl fun _ => o_ixB (i := j) TI48 TI52 (show _ = Value.slice (some ⟨ub, uo, none⟩) t.parts.length uc from rfl) (show _ = Value.int .i64 (j : Int) from rfl) (by omega) ⟨rfl, rfl⟩)) ?_
          refine WQ.c rfl ((QO.o rfl fun _ => o_fa 0 TI52 rfl TI9 rfl rfl ⟨rfl, rfl⟩)) ?_
          refine WQ.c rfl ((QO.o rfl fun _ => o_ld TI9 rfl rfl (huj 0 _ rfl) ⟨rfl, rfl⟩)) ?_
          refine WQ.c rfl ((QO.o rfl fun _ => o_fa 0 TI52 rfl TI9 rfl h7 ⟨rfl, rfl⟩)) ?_
          refine WQ.c rfl ((QO.o rfl fun _ => o_ld TI9 rfl rfl (cell_of hC7 rfl) ⟨rfl, rfl⟩)) ?_
          refine WQ.c rfl ((QO.o rfl fun _ => o_eqT rfl rfl ⟨rfl, rfl⟩)) ?_
          refine WQ.c rfl ((QO.o rfl fun _ => o_mvh (show _ = Value.bool _ from rfl) ⟨rfl, rfl⟩)) ?_
          refine WQ.g rfl (by simp [hA]) rfl ((QO.o rfl fun _ => o_fa 3 TI50 rfl TI48 rfl h2 ⟨rfl, rfl⟩)) ?_
          refine WQ.g rfl (by simp [hA]) rfl ((QO.o rfl fun _ => o_ld TI48 rfl rfl (cell_of hC2s rfl) ⟨rfl, rfl⟩)) ?_
          refine WQ.g rfl (by simp [hA]) rfl ((QO.o rfl fun _ => o_mvh h8 ⟨rfl, rfl⟩)) ?_
          refine WQ.g rfl (by simp [hA]) rfl ((QO.o rfl fun _ => o_ixB (i := j) TI48 TI52 (show _ = Value.slice (some ⟨ub, uo, none⟩) t.parts.length uc from rfl) (show _ = Value.int .i64 (j : Int) from rfl) (by omega) ⟨rfl, rfl⟩)) ?_
          refine WQ.g rfl (by simp [hA]) rfl ((QO.o rfl fun _ => o_fa 1 TI52 rfl TI3 rfl rfl ⟨rfl, rfl⟩)) ?_
          refine WQ.g rfl (by simp [hA]) rfl ((QO.o rfl fun _ => o_ld TI3 rfl rfl (huj 1 _ rfl) ⟨rfl, rfl⟩)) ?_
          refine WQ.g rfl (by simp [hA]) rfl ((QO.o rfl fun _ => o_fa 1 TI52 rfl TI3 rfl h7 ⟨rfl, rfl⟩)) ?_
          refine WQ.g rfl (by simp [hA]) rfl ((QO.o rfl fun _ => o_ld TI3 rfl rfl (cell_of hC7 rfl) ⟨rfl, rfl⟩)) ?_
          refine WQ.g rfl (by simp [hA]) rfl ((QO.o rfl fun _ => o_eq rfl rfl ⟨rfl, rfl⟩)) ?_
          refine WQ.c rfl ((QO.r fun _ => r_pickA rfl rfl)) ?_
          refine WQ.nil ?_
          intro nq
          refine W.cond rfl (fun c90 => ?_) (fun c90 => ?_)
          · try simp only [cs8] at c90
            have hdup : t.parts[j].label = p.label ∧ t.parts[j].tag = p.tag := by rw [← hpj]; simpa using c90
            refine W.seq ?_
            refine W.region ?_
            refine WL.c rfl (o_ash (show _ = Value.bool _ from rfl) ?_)
            refine WL.nil ?_
            refine W.ret ?_
            refine ret1v rfl (show _ = Value.bool _ from rfl) ?_
            exact ⟨congrArg Value.bool (partsB_no hk1 (pa_dup hk1 hj1 (by rw [← hp]; exact hdup))).symm, hx.tr (Only.drewN _ _)⟩
          try simp only [cs8] at c90
          have hnj : ¬ (t.parts[j].label = p.label ∧ t.parts[j].tag = p.tag) := by rw [← hpj]; rintro ⟨a1, a2⟩; simp [a1, a2] at c90
          refine W.skip ?_
          refine W.region ?_
          refine WL.c rfl (o_mvh h8 ?_)
          refine WL.c rfl (o_addi rfl rfl (by omega) ?_)
          refine WL.c rfl (o_ash (show _ = Value.int _ _ from rfl) ?_)
          refine WL.nil ?_
          refine ⟨⟨j + 1, by omega, h1, h2, h6, h7, rfl, fun m hm hm2 => ?_, hC2, hC7, hx.tr (Only.drewN _ _)⟩, ?_⟩
          · rcases Nat.lt_or_ge m j with h | h
            · exact hnd m h hm2
            have e : m = j := by omega
            subst e; exact hnj
          show k - ((j : Int) + 1).toNat < _
          rw [hm8]; simp [intOf]; omega
        skip
        have hnj : ¬ (t.parts[j].label = p.label ∧ t.parts[j].tag = p.tag) := by rw [← hpj]; exact fun h => hA h.1
        refine W.quiet rfl (by kernel_rfl) ?_
        refine WQ.c rfl ((QO.o rfl fun _ => o_fa 3 TI50 rfl TI48 rfl h2 ⟨rfl, rfl⟩)) ?_
        refine WQ.c rfl ((QO.o rfl fun _ => o_ld TI48 rfl rfl (cell_of hC2s rfl) ⟨rfl, rfl⟩)) ?_
        refine WQ.c rfl ((QO.o rfl fun _ => o_mvh h8 ⟨rfl, rfl⟩)) ?_
        refine WQ.c rfl ((QO.o rfl fun _ => o_ixB (i := j) TI48 TI52 (show _ = Value.slice (some ⟨ub, uo, none⟩) t.parts.length uc from rfl) (show _ = Value.int .i64 (j : Int) from rfl) (by omega) ⟨rfl, rfl⟩)) ?_
        refine WQ.c rfl ((QO.o rfl fun _ => o_fa 0 TI52 rfl TI9 rfl rfl ⟨rfl, rfl⟩)) ?_
        refine WQ.c rfl ((QO.o rfl fun _ => o_ld TI9 rfl rfl (huj 0 _ rfl) ⟨rfl, rfl⟩)) ?_
        refine WQ.c rfl ((QO.o rfl fun _ => o_fa 0 TI52 rfl TI9 rfl h7 ⟨rfl, rfl⟩)) ?_
        refine WQ.c rfl ((QO.o rfl fun _ => o_ld TI9 rfl rfl (cell_of hC7 rfl) ⟨rfl, rfl⟩)) ?_
        refine WQ.c rfl ((QO.o rfl fun _ => o_eqT rfl rfl ⟨rfl, rfl⟩)) ?_
        refine WQ.c rfl ((QO.o rfl fun _ => o_mvh (show _ = Value.bool _ from rfl) ⟨rfl, rfl⟩)) ?_
        refine WQ.s rfl (by simp [hA]) rfl ?_
        refine WQ.s rfl (by simp [hA]) rfl ?_
        refine WQ.s rfl (by simp [hA]) rfl ?_
        refine WQ.s rfl (by simp [hA]) rfl ?_
        refine WQ.s rfl (by simp [hA]) rfl ?_
        refine WQ.s rfl (by simp [hA]) rfl ?_
        refine WQ.s rfl (by simp [hA]) rfl ?_
        refine WQ.s rfl (by simp [hA]) rfl ?_
        refine WQ.s rfl (by simp [hA]) rfl ?_
        refine WQ.c rfl ((QO.r fun _ => r_pickF rfl (by simp [hA]))) ?_
        refine WQ.nil ?_
        intro nq
        refine W.condF' rfl (rfl) ?_
        refine W.skip ?_
        refine W.region ?_
        refine WL.c rfl (o_mvh h8 ?_)
        refine WL.c rfl (o_addi rfl rfl (by omega) ?_)
        refine WL.c rfl (o_ash (show _ = Value.int _ _ from rfl) ?_)
        refine WL.nil ?_
        refine ⟨⟨j + 1, by omega, h1, h2, h6, h7, rfl, fun m hm hm2 => ?_, hC2, hC7, hx.tr (Only.drewN _ _)⟩, ?_⟩
        · rcases Nat.lt_or_ge m j with h | h
          · exact hnd m h hm2
          have e : m = j := by omega
          subst e; exact hnj
        show k - ((j : Int) + 1).toNat < _
        rw [hm8]; simp [intOf]; omega
      try simp only [cs8] at c68
      have hj1 : j = k := by omega
      rw [hj1] at hnd
      replace hnd : ∀ m (hm : m < k), ¬ ((t.parts[m]'(by omega)).label = p.label ∧ (t.parts[m]'(by omega)).tag = p.tag) := fun m hm => hnd m hm (by omega)
      refine W.exit ?_
      refine W.region ?_
      refine WL.c rfl (o_mvh h6 ?_)
      refine WL.c rfl (o_addi rfl rfl (by omega) ?_)
      refine WL.c rfl (o_ash (show _ = Value.int _ _ from rfl) ?_)
      refine WL.nil ?_
      refine ⟨⟨k + 1, by omega, h1, h2, rfl, fun j hj => ?_, hC2, hx⟩, ?_⟩
      · rcases Nat.lt_or_ge j k with h | h
        · exact hno j h
        rw [show j = k by omega]; exact pa_yes hk1 (hp ▸ hva) (hp ▸ hin) (fun m hm => by rw [← hp]; exact hnd m (by omega))
      show t.parts.length - ((k : Int) + 1).toNat < _
      rw [hm6]; simp [intOf]; omega
    · skip
      have hva : ¬ (nameB p.label = true ∧ p.tag = 0) := fun h => hT h.2
      refine W.region ?_
      refine WL.c rfl (o_fa 0 TI50 rfl TI3 rfl h2 ?_)
      refine WL.c rfl (o_ld TI3 rfl rfl (cell_of hC2 rfl) ?_)
      refine WL.c rfl (o_eq rfl rfl ?_)
      refine WL.c rfl (o_mvh (show _ = Value.bool _ from rfl) ?_)
      refine WL.g rfl (by simp [h8]) rfl (o_fa 0 TI52 rfl TI9 rfl rfl ?_)
      refine WL.g rfl (by simp [h8]) rfl (o_ld TI9 rfl rfl (cell_of hC7 rfl) ?_)
      refine WL.g rfl (by simp [h8]) rfl (o_call Try.call41 (lc rfl ln) ((rname_spec p.label _ hlbl).mono ?_))
      rintro v42 w42 ⟨rfl, rfl⟩
      refine WL.g rfl (by simp [h8]) rfl (o_not' rfl ?_)
      refine WL.g rfl (by simp [h8]) rfl (o_mvh (show _ = Value.bool _ from rfl) ?_)
      refine WL.g rfl (by simp [hN]) rfl (o_fa 1 TI52 rfl TI3 rfl rfl ?_)
      refine WL.g rfl (by simp [hN]) rfl (o_ld TI3 rfl rfl (cell_of hC7 rfl) ?_)
      refine WL.g rfl (by simp [hN]) rfl (o_ne rfl rfl ?_)
      refine WL.g rfl (by simp [h8]) rfl (o_pickO rfl rfl ?_)
      refine WL.c rfl (o_pickA rfl rfl ?_)
      refine WL.c rfl (o_mvh (show _ = Value.bool _ from rfl) ?_)
      refine WL.s rfl (by simp [h8, hT]) rfl ?_
      refine WL.s rfl (by simp [h8, hT]) rfl ?_
      refine WL.s rfl (by simp [h8, hT]) rfl ?_
      refine WL.s rfl (by simp [h8, hT]) rfl ?_
      refine WL.z rfl rfl ?_
      refine WL.z rfl rfl ?_
      refine WL.z rfl rfl ?_
      refine WL.z rfl rfl ?_
      refine WL.z rfl rfl ?_
      refine WL.z rfl rfl ?_
      refine WL.z rfl rfl ?_
      refine WL.z rfl rfl ?_
      refine WL.z rfl rfl ?_
      refine WL.s rfl (by simp [h8, hT]) rfl ?_
      refine WL.c rfl (o_pickT rfl (by simp [h8, hT]) ?_)
      refine WL.nil ?_
      refine W.condT' rfl (rfl) ?_
      refine W.seq ?_
      refine W.region ?_
      refine WL.c rfl (o_ash (show _ = Value.bool _ from rfl) ?_)
      refine WL.nil ?_
      refine W.ret ?_
      refine ret1v rfl (show _ = Value.bool _ from rfl) ?_
      first | exact ⟨congrArg Value.bool (partsB_no hk1 (pa_va hk1 h8 (hp ▸ hva))).symm, hx⟩ | exact ⟨congrArg Value.bool (partsB_no hk1 (pa_vb hk1 h8 (hp ▸ hva))).symm, hx⟩
    skip
    have hva : ¬ (nameB p.label = true ∧ p.tag = 0) := fun h => hN h.1
    refine W.region ?_
    refine WL.c rfl (o_fa 0 TI50 rfl TI3 rfl h2 ?_)
    refine WL.c rfl (o_ld TI3 rfl rfl (cell_of hC2 rfl) ?_)
    refine WL.c rfl (o_eq rfl rfl ?_)
    refine WL.c rfl (o_mvh (show _ = Value.bool _ from rfl) ?_)
    refine WL.g rfl (by simp [h8]) rfl (o_fa 0 TI52 rfl TI9 rfl rfl ?_)
    refine WL.g rfl (by simp [h8]) rfl (o_ld TI9 rfl rfl (cell_of hC7 rfl) ?_)
    refine WL.g rfl (by simp [h8]) rfl (o_call Try.call41 (lc rfl ln) ((rname_spec p.label _ hlbl).mono ?_))
    rintro v42 w42 ⟨rfl, rfl⟩
    refine WL.g rfl (by simp [h8]) rfl (o_not' rfl ?_)
    refine WL.g rfl (by simp [h8]) rfl (o_mvh (show _ = Value.bool _ from rfl) ?_)
    refine WL.s rfl (by simpa using hN) rfl ?_
    refine WL.s rfl (by simpa using hN) rfl ?_
    refine WL.s rfl (by simpa using hN) rfl ?_
    refine WL.g rfl (by simp [h8]) rfl (o_pickT rfl (by simpa using hN) ?_)
    refine WL.c rfl (o_pickA rfl rfl ?_)
    refine WL.c rfl (o_mvh (show _ = Value.bool _ from rfl) ?_)
    refine WL.s rfl (by simp [h8]) rfl ?_
    refine WL.s rfl (by simp [h8]) rfl ?_
    refine WL.s rfl (by simp [h8]) rfl ?_
    refine WL.s rfl (by simp [h8]) rfl ?_
    refine WL.z rfl rfl ?_
    refine WL.z rfl rfl ?_
    refine WL.z rfl rfl ?_
    refine WL.z rfl rfl ?_
    refine WL.z rfl rfl ?_
    refine WL.z rfl rfl ?_
    refine WL.z rfl rfl ?_
    refine WL.z rfl rfl ?_
    refine WL.z rfl rfl ?_
    refine WL.s rfl (by simp [h8]) rfl ?_
    refine WL.c rfl (o_pickT rfl (by simp [h8]) ?_)
    refine WL.nil ?_
    refine W.condT' rfl (rfl) ?_
    refine W.seq ?_
    refine W.region ?_
    refine WL.c rfl (o_ash (show _ = Value.bool _ from rfl) ?_)
    refine WL.nil ?_
    refine W.ret ?_
    refine ret1v rfl (show _ = Value.bool _ from rfl) ?_
    first | exact ⟨congrArg Value.bool (partsB_no hk1 (pa_va hk1 h8 (hp ▸ hva))).symm, hx⟩ | exact ⟨congrArg Value.bool (partsB_no hk1 (pa_vb hk1 h8 (hp ▸ hva))).symm, hx⟩
  try simp only [cs8] at c22
  have hk1 : k = t.parts.length := by omega
  rw [hk1] at hno
  refine W.exit ?_
  refine W.seq ?_
  refine W.region ?_
  refine WL.c rfl (o_ash (show _ = Value.bool _ from rfl) ?_)
  refine WL.nil ?_
  refine W.ret ?_
  refine ret1v rfl (show _ = Value.bool _ from rfl) ?_
  exact ⟨congrArg Value.bool (partsB_yes hbl hno).symm, hx⟩
set_option maxHeartbeats 4000000 in
theorem trright_spec (t : Tp) (pv : Value) (at_ : Int) (w0 : World) (hS00 : Sl w0 3 pv t.parts.length (pas t.parts)) (hl : TLim t) (hat : 0 ≤ at_ ∧ at_ ≤ 9223372036854775807) : Ca Try.prog 39 #[.agg (tcell t pv).toArray, .int .i64 at_] w0 (fun v w' => v = .bool (tpB t at_) ∧ Ext w0 w') := by
  refine Ca.of Try.func39 Try.ntmps39 rfl rfl ?_
  refine W.seq ?_
  refine W.region ?_
  refine WL.c rfl (o_boxB rfl ?_)
  intro w2 hC2 hx2 hs2
  obtain ⟨b2, hb2⟩ : ∃ b, b = w0.heap.size := ⟨_, rfl⟩
  rw [← hb2] at hC2 ⊢
  replace hC2 : w2.heap[b2]? = some (.cells (tcell t pv).toArray 50 (0, 0)) := hC2
  have hx := hx2
  refine WL.c rfl (o_ash (show _ = Value.bool _ from rfl) ?_)
  refine WL.nil ?_
  refine W.seq ?_
  refine W.seq ?_
  by_cases k1 : t.kind = 1
  rotate_left
  by_cases k2 : t.kind = 2
  rotate_left
  by_cases k3 : t.kind = 3
  rotate_left
  by_cases k4 : t.kind = 4
  rotate_left
  by_cases k5 : t.kind = 5
  rotate_left
  by_cases k6 : t.kind = 6
  rotate_left
  by_cases k7 : t.kind = 7
  rotate_left
  by_cases k8 : t.kind = 8
  · skip
    refine W.region ?_
    refine WL.c rfl (o_fa 0 TI50 rfl TI3 rfl rfl ?_)
    refine WL.c rfl (o_ld TI3 rfl rfl (cell_of hC2 rfl) ?_)
    refine WL.nil ?_
    refine W.block ?_
    refine W.seq ?_
    refine W.region ?_
    refine WL.c rfl (o_eq rfl rfl ?_)
    refine WL.c rfl (o_ash (show _ = Value.bool _ from rfl) ?_)
    refine WL.nil ?_
    refine W.condF' rfl (decide_eq_false k1) ?_
    refine W.seq ?_
    refine W.seq ?_
    refine W.region ?_
    refine WL.c rfl (o_eq rfl rfl ?_)
    refine WL.c rfl (o_ash (show _ = Value.bool _ from rfl) ?_)
    refine WL.nil ?_
    refine W.condF' rfl (decide_eq_false k2) ?_
    refine W.region ?_
    refine WL.c rfl (o_eq rfl rfl ?_)
    refine WL.c rfl (o_ash (show _ = Value.bool _ from rfl) ?_)
    refine WL.nil ?_
    refine W.condF' rfl (decide_eq_false k3) ?_
    refine W.seq ?_
    refine W.seq ?_
    refine W.region ?_
    refine WL.c rfl (o_eq rfl rfl ?_)
    refine WL.c rfl (o_ash (show _ = Value.bool _ from rfl) ?_)
    refine WL.nil ?_
    refine W.condF' rfl (decide_eq_false k4) ?_
    refine W.region ?_
    refine WL.c rfl (o_eq rfl rfl ?_)
    refine WL.c rfl (o_ash (show _ = Value.bool _ from rfl) ?_)
    refine WL.nil ?_
    refine W.condF' rfl (decide_eq_false k5) ?_
    refine W.seq ?_
    refine W.region ?_
    refine WL.c rfl (o_eq rfl rfl ?_)
    refine WL.c rfl (o_ash (show _ = Value.bool _ from rfl) ?_)
    refine WL.nil ?_
    refine W.condF' rfl (decide_eq_false k6) ?_
    refine W.seq ?_
    refine W.seq ?_
    refine W.region ?_
    refine WL.c rfl (o_eq rfl rfl ?_)
    refine WL.c rfl (o_ash (show _ = Value.bool _ from rfl) ?_)
    refine WL.nil ?_
    refine W.condF' rfl (decide_eq_false k7) ?_
    refine W.region ?_
    refine WL.c rfl (o_eq rfl rfl ?_)
    refine WL.c rfl (o_ash (show _ = Value.bool _ from rfl) ?_)
    refine WL.nil ?_
    refine W.condT' rfl (decide_eq_true k8) ?_
    refine W.seq ?_
    refine W.region ?_
    refine WL.c rfl (o_fa 1 TI50 rfl TI3 rfl rfl ?_)
    refine WL.c rfl (o_ld TI3 rfl rfl (cell_of hC2 rfl) ?_)
    refine WL.c rfl (o_eq rfl rfl ?_)
    refine WL.c rfl (o_mvh (show _ = Value.bool _ from rfl) ?_)
    refine WL.sp 3 rfl (fun g98 => ?_) (fun g98 => ?_)
    · skip
      refine WL.g rfl (g98) rfl (o_fa 2 TI50 rfl TI3 rfl rfl ?_)
      refine WL.g rfl (g98) rfl (o_ld TI3 rfl rfl (cell_of hC2 rfl) ?_)
      refine WL.g rfl (g98) rfl (o_eq rfl rfl ?_)
      refine WL.c rfl (o_pickA rfl rfl ?_)
      refine WL.c rfl (o_mvh (show _ = Value.bool _ from rfl) ?_)
      refine WL.sp 8 rfl (fun g103 => ?_) (fun g103 => ?_)
      · skip
        refine WL.g rfl (g103) rfl (o_ldA TI50 rfl rfl (show Cells _ b2 0 (tcell t pv) from Cells.of hC2 0 _ (by simp)) rfl ?_)
        refine WL.g rfl (g103) rfl (o_mvh (show _ = Value.int _ _ from rfl) ?_)
        refine WL.g rfl (g103) rfl (o_call Try.call70 (lc rfl (lc rfl ln)) ((trparts_spec t pv at_ _ (hS00.ext hx) hl (by omega) hat).mono ?_))
        rintro v106 w106 ⟨rfl, hx106⟩
        replace hx := hx.tr hx106
        refine WL.c rfl (o_pickA rfl rfl ?_)
        refine WL.c rfl (o_ash (show _ = Value.bool _ from rfl) ?_)
        refine WL.nil ?_
        refine W.ret ?_
        refine ret1v rfl (show _ = Value.bool _ from rfl) ?_
        refine ⟨congrArg Value.bool ?_, hx⟩
        rw [Bool.eq_iff_iff, tpB_iff, tq_78 (by omega)]
        clear hx hC2 hS00 hl
        simp_all <;> omega
      skip
      refine WL.s rfl (g103) rfl ?_
      refine WL.s rfl (g103) rfl ?_
      refine WL.s rfl (g103) rfl ?_
      refine WL.c rfl (o_pickF rfl (g103) ?_)
      refine WL.c rfl (o_ash (show _ = Value.bool _ from rfl) ?_)
      refine WL.nil ?_
      refine W.ret ?_
      refine ret1v rfl (show _ = Value.bool _ from rfl) ?_
      refine ⟨congrArg Value.bool ?_, hx⟩
      rw [Bool.eq_iff_iff, tpB_iff, tq_78 (by omega)]
      clear hx hC2 hS00 hl
      simp_all <;> omega
    skip
    refine WL.s rfl (g98) rfl ?_
    refine WL.s rfl (g98) rfl ?_
    refine WL.s rfl (g98) rfl ?_
    refine WL.c rfl (o_pickF rfl (g98) ?_)
    refine WL.c rfl (o_mvh (show _ = Value.bool _ from rfl) ?_)
    refine WL.s rfl (rfl) rfl ?_
    refine WL.s rfl (rfl) rfl ?_
    refine WL.s rfl (rfl) rfl ?_
    refine WL.c rfl (o_pickF rfl (rfl) ?_)
    refine WL.c rfl (o_ash (show _ = Value.bool _ from rfl) ?_)
    refine WL.nil ?_
    refine W.ret ?_
    refine ret1v rfl (show _ = Value.bool _ from rfl) ?_
    refine ⟨congrArg Value.bool ?_, hx⟩
    rw [Bool.eq_iff_iff, tpB_iff, tq_78 (by omega)]
    clear hx hC2 hS00 hl
    simp_all <;> omega
  · skip
    refine W.region ?_
    refine WL.c rfl (o_fa 0 TI50 rfl TI3 rfl rfl ?_)
    refine WL.c rfl (o_ld TI3 rfl rfl (cell_of hC2 rfl) ?_)
    refine WL.nil ?_
    refine W.block ?_
    refine W.seq ?_
    refine W.region ?_
    refine WL.c rfl (o_eq rfl rfl ?_)
    refine WL.c rfl (o_ash (show _ = Value.bool _ from rfl) ?_)
    refine WL.nil ?_
    refine W.condF' rfl (decide_eq_false k1) ?_
    refine W.seq ?_
    refine W.seq ?_
    refine W.region ?_
    refine WL.c rfl (o_eq rfl rfl ?_)
    refine WL.c rfl (o_ash (show _ = Value.bool _ from rfl) ?_)
    refine WL.nil ?_
    refine W.condF' rfl (decide_eq_false k2) ?_
    refine W.region ?_
    refine WL.c rfl (o_eq rfl rfl ?_)
    refine WL.c rfl (o_ash (show _ = Value.bool _ from rfl) ?_)
    refine WL.nil ?_
    refine W.condF' rfl (decide_eq_false k3) ?_
    refine W.seq ?_
    refine W.seq ?_
    refine W.region ?_
    refine WL.c rfl (o_eq rfl rfl ?_)
    refine WL.c rfl (o_ash (show _ = Value.bool _ from rfl) ?_)
    refine WL.nil ?_
    refine W.condF' rfl (decide_eq_false k4) ?_
    refine W.region ?_
    refine WL.c rfl (o_eq rfl rfl ?_)
    refine WL.c rfl (o_ash (show _ = Value.bool _ from rfl) ?_)
    refine WL.nil ?_
    refine W.condF' rfl (decide_eq_false k5) ?_
    refine W.seq ?_
    refine W.region ?_
    refine WL.c rfl (o_eq rfl rfl ?_)
    refine WL.c rfl (o_ash (show _ = Value.bool _ from rfl) ?_)
    refine WL.nil ?_
    refine W.condF' rfl (decide_eq_false k6) ?_
    refine W.seq ?_
    refine W.seq ?_
    refine W.region ?_
    refine WL.c rfl (o_eq rfl rfl ?_)
    refine WL.c rfl (o_ash (show _ = Value.bool _ from rfl) ?_)
    refine WL.nil ?_
    refine W.condF' rfl (decide_eq_false k7) ?_
    refine W.region ?_
    refine WL.c rfl (o_eq rfl rfl ?_)
    refine WL.c rfl (o_ash (show _ = Value.bool _ from rfl) ?_)
    refine WL.nil ?_
    refine W.condF' rfl (decide_eq_false k8) ?_
    refine W.skip ?_
    refine W.seq ?_
    refine W.region ?_
    refine WL.c rfl (o_ash (show _ = Value.bool _ from rfl) ?_)
    refine WL.nil ?_
    refine W.ret ?_
    refine ret1v rfl (show _ = Value.bool _ from rfl) ?_
    exact ⟨congrArg Value.bool (tpB_else ⟨by omega, by omega, by omega⟩).symm, hx⟩
  · skip
    refine W.region ?_
    refine WL.c rfl (o_fa 0 TI50 rfl TI3 rfl rfl ?_)
    refine WL.c rfl (o_ld TI3 rfl rfl (cell_of hC2 rfl) ?_)
    refine WL.nil ?_
    refine W.block ?_
    refine W.seq ?_
    refine W.region ?_
    refine WL.c rfl (o_eq rfl rfl ?_)
    refine WL.c rfl (o_ash (show _ = Value.bool _ from rfl) ?_)
    refine WL.nil ?_
    refine W.condT' rfl (decide_eq_true k1) ?_
    refine W.seq ?_
    refine W.region ?_
    refine WL.c rfl (o_fa 1 TI50 rfl TI3 rfl rfl ?_)
    refine WL.c rfl (o_ld TI3 rfl rfl (cell_of hC2 rfl) ?_)
    refine WL.c rfl (o_eq rfl rfl ?_)
    refine WL.c rfl (o_mvh (show _ = Value.bool _ from rfl) ?_)
    refine WL.sp 3 rfl (fun g12 => ?_) (fun g12 => ?_)
    · skip
      refine WL.s rfl (g12) rfl ?_
      refine WL.s rfl (g12) rfl ?_
      refine WL.s rfl (g12) rfl ?_
      refine WL.c rfl (o_pickT rfl (g12) ?_)
      refine WL.c rfl (o_mvh (show _ = Value.bool _ from rfl) ?_)
      refine WL.s rfl (rfl) rfl ?_
      refine WL.s rfl (rfl) rfl ?_
      refine WL.s rfl (rfl) rfl ?_
      refine WL.c rfl (o_pickT rfl (rfl) ?_)
      refine WL.c rfl (o_mvh (show _ = Value.bool _ from rfl) ?_)
      refine WL.s rfl (rfl) rfl ?_
      refine WL.s rfl (rfl) rfl ?_
      refine WL.s rfl (rfl) rfl ?_
      refine WL.c rfl (o_pickT rfl (rfl) ?_)
      refine WL.c rfl (o_mvh (show _ = Value.bool _ from rfl) ?_)
      refine WL.g rfl (rfl) rfl (o_fa 2 TI50 rfl TI3 rfl rfl ?_)
      refine WL.g rfl (rfl) rfl (o_ld TI3 rfl rfl (cell_of hC2 rfl) ?_)
      refine WL.g rfl (rfl) rfl (o_eq rfl rfl ?_)
      refine WL.c rfl (o_pickA rfl rfl ?_)
      refine WL.c rfl (o_mvh (show _ = Value.bool _ from rfl) ?_)
      refine WL.sp 23 rfl (fun g32 => ?_) (fun g32 => ?_)
      · skip
        refine WL.g rfl (g32) rfl (o_fa 3 TI50 rfl TI48 rfl rfl ?_)
        refine WL.g rfl (g32) rfl (o_ld TI48 rfl rfl (cell_of hC2 rfl) ?_)
        refine WL.g rfl (g32) rfl (o_lenR TI48 rfl (hS00.ext hx) ?_)
        refine WL.g rfl (g32) rfl (o_eq rfl rfl ?_)
        refine WL.c rfl (o_pickA rfl rfl ?_)
        refine WL.c rfl (o_ash (show _ = Value.bool _ from rfl) ?_)
        refine WL.nil ?_
        refine W.ret ?_
        refine ret1v rfl (show _ = Value.bool _ from rfl) ?_
        refine ⟨congrArg Value.bool ?_, hx⟩
        rw [Bool.eq_iff_iff, tpB_iff, tq_1 (k1)]
        clear hx hC2 hS00 hl
        simp_all <;> omega
      skip
      refine WL.s rfl (g32) rfl ?_
      refine WL.s rfl (g32) rfl ?_
      refine WL.s rfl (g32) rfl ?_
      refine WL.s rfl (g32) rfl ?_
      refine WL.c rfl (o_pickF rfl (g32) ?_)
      refine WL.c rfl (o_ash (show _ = Value.bool _ from rfl) ?_)
      refine WL.nil ?_
      refine W.ret ?_
      refine ret1v rfl (show _ = Value.bool _ from rfl) ?_
      refine ⟨congrArg Value.bool ?_, hx⟩
      rw [Bool.eq_iff_iff, tpB_iff, tq_1 (k1)]
      clear hx hC2 hS00 hl
      simp_all <;> omega
    skip
    refine WL.g rfl (g12) rfl (o_fa 1 TI50 rfl TI3 rfl rfl ?_)
    refine WL.g rfl (g12) rfl (o_ld TI3 rfl rfl (cell_of hC2 rfl) ?_)
    refine WL.g rfl (g12) rfl (o_eq rfl rfl ?_)
    refine WL.c rfl (o_pickO rfl rfl ?_)
    refine WL.c rfl (o_mvh (show _ = Value.bool _ from rfl) ?_)
    refine WL.sp 8 rfl (fun g17 => ?_) (fun g17 => ?_)
    · skip
      refine WL.s rfl (g17) rfl ?_
      refine WL.s rfl (g17) rfl ?_
      refine WL.s rfl (g17) rfl ?_
      refine WL.c rfl (o_pickT rfl (g17) ?_)
      refine WL.c rfl (o_mvh (show _ = Value.bool _ from rfl) ?_)
      refine WL.s rfl (rfl) rfl ?_
      refine WL.s rfl (rfl) rfl ?_
      refine WL.s rfl (rfl) rfl ?_
      refine WL.c rfl (o_pickT rfl (rfl) ?_)
      refine WL.c rfl (o_mvh (show _ = Value.bool _ from rfl) ?_)
      refine WL.g rfl (rfl) rfl (o_fa 2 TI50 rfl TI3 rfl rfl ?_)
      refine WL.g rfl (rfl) rfl (o_ld TI3 rfl rfl (cell_of hC2 rfl) ?_)
      refine WL.g rfl (rfl) rfl (o_eq rfl rfl ?_)
      refine WL.c rfl (o_pickA rfl rfl ?_)
      refine WL.c rfl (o_mvh (show _ = Value.bool _ from rfl) ?_)
      refine WL.sp 23 rfl (fun g32 => ?_) (fun g32 => ?_)
      · skip
        refine WL.g rfl (g32) rfl (o_fa 3 TI50 rfl TI48 rfl rfl ?_)
        refine WL.g rfl (g32) rfl (o_ld TI48 rfl rfl (cell_of hC2 rfl) ?_)
        refine WL.g rfl (g32) rfl (o_lenR TI48 rfl (hS00.ext hx) ?_)
        refine WL.g rfl (g32) rfl (o_eq rfl rfl ?_)
        refine WL.c rfl (o_pickA rfl rfl ?_)
        refine WL.c rfl (o_ash (show _ = Value.bool _ from rfl) ?_)
        refine WL.nil ?_
        refine W.ret ?_
        refine ret1v rfl (show _ = Value.bool _ from rfl) ?_
        refine ⟨congrArg Value.bool ?_, hx⟩
        rw [Bool.eq_iff_iff, tpB_iff, tq_1 (k1)]
        clear hx hC2 hS00 hl
        simp_all <;> omega
      skip
      refine WL.s rfl (g32) rfl ?_
      refine WL.s rfl (g32) rfl ?_
      refine WL.s rfl (g32) rfl ?_
      refine WL.s rfl (g32) rfl ?_
      refine WL.c rfl (o_pickF rfl (g32) ?_)
      refine WL.c rfl (o_ash (show _ = Value.bool _ from rfl) ?_)
      refine WL.nil ?_
      refine W.ret ?_
      refine ret1v rfl (show _ = Value.bool _ from rfl) ?_
      refine ⟨congrArg Value.bool ?_, hx⟩
      rw [Bool.eq_iff_iff, tpB_iff, tq_1 (k1)]
      clear hx hC2 hS00 hl
      simp_all <;> omega
    skip
    refine WL.g rfl (g17) rfl (o_fa 1 TI50 rfl TI3 rfl rfl ?_)
    refine WL.g rfl (g17) rfl (o_ld TI3 rfl rfl (cell_of hC2 rfl) ?_)
    refine WL.g rfl (g17) rfl (o_eq rfl rfl ?_)
    refine WL.c rfl (o_pickO rfl rfl ?_)
    refine WL.c rfl (o_mvh (show _ = Value.bool _ from rfl) ?_)
    refine WL.sp 13 rfl (fun g22 => ?_) (fun g22 => ?_)
    · skip
      refine WL.s rfl (g22) rfl ?_
      refine WL.s rfl (g22) rfl ?_
      refine WL.s rfl (g22) rfl ?_
      refine WL.c rfl (o_pickT rfl (g22) ?_)
      refine WL.c rfl (o_mvh (show _ = Value.bool _ from rfl) ?_)
      refine WL.g rfl (rfl) rfl (o_fa 2 TI50 rfl TI3 rfl rfl ?_)
      refine WL.g rfl (rfl) rfl (o_ld TI3 rfl rfl (cell_of hC2 rfl) ?_)
      refine WL.g rfl (rfl) rfl (o_eq rfl rfl ?_)
      refine WL.c rfl (o_pickA rfl rfl ?_)
      refine WL.c rfl (o_mvh (show _ = Value.bool _ from rfl) ?_)
      refine WL.sp 23 rfl (fun g32 => ?_) (fun g32 => ?_)
      · skip
        refine WL.g rfl (g32) rfl (o_fa 3 TI50 rfl TI48 rfl rfl ?_)
        refine WL.g rfl (g32) rfl (o_ld TI48 rfl rfl (cell_of hC2 rfl) ?_)
        refine WL.g rfl (g32) rfl (o_lenR TI48 rfl (hS00.ext hx) ?_)
        refine WL.g rfl (g32) rfl (o_eq rfl rfl ?_)
        refine WL.c rfl (o_pickA rfl rfl ?_)
        refine WL.c rfl (o_ash (show _ = Value.bool _ from rfl) ?_)
        refine WL.nil ?_
        refine W.ret ?_
        refine ret1v rfl (show _ = Value.bool _ from rfl) ?_
        refine ⟨congrArg Value.bool ?_, hx⟩
        rw [Bool.eq_iff_iff, tpB_iff, tq_1 (k1)]
        clear hx hC2 hS00 hl
        simp_all <;> omega
      skip
      refine WL.s rfl (g32) rfl ?_
      refine WL.s rfl (g32) rfl ?_
      refine WL.s rfl (g32) rfl ?_
      refine WL.s rfl (g32) rfl ?_
      refine WL.c rfl (o_pickF rfl (g32) ?_)
      refine WL.c rfl (o_ash (show _ = Value.bool _ from rfl) ?_)
      refine WL.nil ?_
      refine W.ret ?_
      refine ret1v rfl (show _ = Value.bool _ from rfl) ?_
      refine ⟨congrArg Value.bool ?_, hx⟩
      rw [Bool.eq_iff_iff, tpB_iff, tq_1 (k1)]
      clear hx hC2 hS00 hl
      simp_all <;> omega
    skip
    refine WL.g rfl (g22) rfl (o_fa 1 TI50 rfl TI3 rfl rfl ?_)
    refine WL.g rfl (g22) rfl (o_ld TI3 rfl rfl (cell_of hC2 rfl) ?_)
    refine WL.g rfl (g22) rfl (o_eq rfl rfl ?_)
    refine WL.c rfl (o_pickO rfl rfl ?_)
    refine WL.c rfl (o_mvh (show _ = Value.bool _ from rfl) ?_)
    refine WL.sp 18 rfl (fun g27 => ?_) (fun g27 => ?_)
    · skip
      refine WL.g rfl (g27) rfl (o_fa 2 TI50 rfl TI3 rfl rfl ?_)
      refine WL.g rfl (g27) rfl (o_ld TI3 rfl rfl (cell_of hC2 rfl) ?_)
      refine WL.g rfl (g27) rfl (o_eq rfl rfl ?_)
      refine WL.c rfl (o_pickA rfl rfl ?_)
      refine WL.c rfl (o_mvh (show _ = Value.bool _ from rfl) ?_)
      refine WL.sp 23 rfl (fun g32 => ?_) (fun g32 => ?_)
      · skip
        refine WL.g rfl (g32) rfl (o_fa 3 TI50 rfl TI48 rfl rfl ?_)
        refine WL.g rfl (g32) rfl (o_ld TI48 rfl rfl (cell_of hC2 rfl) ?_)
        refine WL.g rfl (g32) rfl (o_lenR TI48 rfl (hS00.ext hx) ?_)
        refine WL.g rfl (g32) rfl (o_eq rfl rfl ?_)
        refine WL.c rfl (o_pickA rfl rfl ?_)
        refine WL.c rfl (o_ash (show _ = Value.bool _ from rfl) ?_)
        refine WL.nil ?_
        refine W.ret ?_
        refine ret1v rfl (show _ = Value.bool _ from rfl) ?_
        refine ⟨congrArg Value.bool ?_, hx⟩
        rw [Bool.eq_iff_iff, tpB_iff, tq_1 (k1)]
        clear hx hC2 hS00 hl
        simp_all <;> omega
      skip
      refine WL.s rfl (g32) rfl ?_
      refine WL.s rfl (g32) rfl ?_
      refine WL.s rfl (g32) rfl ?_
      refine WL.s rfl (g32) rfl ?_
      refine WL.c rfl (o_pickF rfl (g32) ?_)
      refine WL.c rfl (o_ash (show _ = Value.bool _ from rfl) ?_)
      refine WL.nil ?_
      refine W.ret ?_
      refine ret1v rfl (show _ = Value.bool _ from rfl) ?_
      refine ⟨congrArg Value.bool ?_, hx⟩
      rw [Bool.eq_iff_iff, tpB_iff, tq_1 (k1)]
      clear hx hC2 hS00 hl
      simp_all <;> omega
    skip
    refine WL.s rfl (g27) rfl ?_
    refine WL.s rfl (g27) rfl ?_
    refine WL.s rfl (g27) rfl ?_
    refine WL.c rfl (o_pickF rfl (g27) ?_)
    refine WL.c rfl (o_mvh (show _ = Value.bool _ from rfl) ?_)
    refine WL.s rfl (rfl) rfl ?_
    refine WL.s rfl (rfl) rfl ?_
    refine WL.s rfl (rfl) rfl ?_
    refine WL.s rfl (rfl) rfl ?_
    refine WL.c rfl (o_pickF rfl (rfl) ?_)
    refine WL.c rfl (o_ash (show _ = Value.bool _ from rfl) ?_)
    refine WL.nil ?_
    refine W.ret ?_
    refine ret1v rfl (show _ = Value.bool _ from rfl) ?_
    refine ⟨congrArg Value.bool ?_, hx⟩
    rw [Bool.eq_iff_iff, tpB_iff, tq_1 (k1)]
    clear hx hC2 hS00 hl
    simp_all <;> omega
  · skip
    refine W.region ?_
    refine WL.c rfl (o_fa 0 TI50 rfl TI3 rfl rfl ?_)
    refine WL.c rfl (o_ld TI3 rfl rfl (cell_of hC2 rfl) ?_)
    refine WL.nil ?_
    refine W.block ?_
    refine W.seq ?_
    refine W.region ?_
    refine WL.c rfl (o_eq rfl rfl ?_)
    refine WL.c rfl (o_ash (show _ = Value.bool _ from rfl) ?_)
    refine WL.nil ?_
    refine W.condF' rfl (decide_eq_false k1) ?_
    refine W.seq ?_
    refine W.seq ?_
    refine W.region ?_
    refine WL.c rfl (o_eq rfl rfl ?_)
    refine WL.c rfl (o_ash (show _ = Value.bool _ from rfl) ?_)
    refine WL.nil ?_
    refine W.condT' rfl (decide_eq_true k2) ?_
    refine W.skip ?_
    refine W.condT' rfl (decide_eq_true k2) ?_
    refine W.seq ?_
    refine W.region ?_
    refine WL.c rfl (o_fa 1 TI50 rfl TI3 rfl rfl ?_)
    refine WL.c rfl (o_ld TI3 rfl rfl (cell_of hC2 rfl) ?_)
    refine WL.c rfl (o_eq rfl rfl ?_)
    refine WL.c rfl (o_mvh (show _ = Value.bool _ from rfl) ?_)
    refine WL.sp 3 rfl (fun g44 => ?_) (fun g44 => ?_)
    · skip
      refine WL.g rfl (g44) rfl (o_fa 2 TI50 rfl TI3 rfl rfl ?_)
      refine WL.g rfl (g44) rfl (o_ld TI3 rfl rfl (cell_of hC2 rfl) ?_)
      refine WL.g rfl (g44) rfl (o_eq rfl rfl ?_)
      refine WL.c rfl (o_pickA rfl rfl ?_)
      refine WL.c rfl (o_mvh (show _ = Value.bool _ from rfl) ?_)
      refine WL.sp 8 rfl (fun g49 => ?_) (fun g49 => ?_)
      · skip
        refine WL.g rfl (g49) rfl (o_fa 3 TI50 rfl TI48 rfl rfl ?_)
        refine WL.g rfl (g49) rfl (o_ld TI48 rfl rfl (cell_of hC2 rfl) ?_)
        refine WL.g rfl (g49) rfl (o_lenR TI48 rfl (hS00.ext hx) ?_)
        refine WL.g rfl (g49) rfl (o_eq rfl rfl ?_)
        refine WL.c rfl (o_pickA rfl rfl ?_)
        refine WL.c rfl (o_ash (show _ = Value.bool _ from rfl) ?_)
        refine WL.nil ?_
        refine W.ret ?_
        refine ret1v rfl (show _ = Value.bool _ from rfl) ?_
        refine ⟨congrArg Value.bool ?_, hx⟩
        rw [Bool.eq_iff_iff, tpB_iff, tq_23 (by omega)]
        clear hx hC2 hS00 hl
        simp_all <;> omega
      skip
      refine WL.s rfl (g49) rfl ?_
      refine WL.s rfl (g49) rfl ?_
      refine WL.s rfl (g49) rfl ?_
      refine WL.s rfl (g49) rfl ?_
      refine WL.c rfl (o_pickF rfl (g49) ?_)
      refine WL.c rfl (o_ash (show _ = Value.bool _ from rfl) ?_)
      refine WL.nil ?_
      refine W.ret ?_
      refine ret1v rfl (show _ = Value.bool _ from rfl) ?_
      refine ⟨congrArg Value.bool ?_, hx⟩
      rw [Bool.eq_iff_iff, tpB_iff, tq_23 (by omega)]
      clear hx hC2 hS00 hl
      simp_all <;> omega
    skip
    refine WL.s rfl (g44) rfl ?_
    refine WL.s rfl (g44) rfl ?_
    refine WL.s rfl (g44) rfl ?_
    refine WL.c rfl (o_pickF rfl (g44) ?_)
    refine WL.c rfl (o_mvh (show _ = Value.bool _ from rfl) ?_)
    refine WL.s rfl (rfl) rfl ?_
    refine WL.s rfl (rfl) rfl ?_
    refine WL.s rfl (rfl) rfl ?_
    refine WL.s rfl (rfl) rfl ?_
    refine WL.c rfl (o_pickF rfl (rfl) ?_)
    refine WL.c rfl (o_ash (show _ = Value.bool _ from rfl) ?_)
    refine WL.nil ?_
    refine W.ret ?_
    refine ret1v rfl (show _ = Value.bool _ from rfl) ?_
    refine ⟨congrArg Value.bool ?_, hx⟩
    rw [Bool.eq_iff_iff, tpB_iff, tq_23 (by omega)]
    clear hx hC2 hS00 hl
    simp_all <;> omega
  · skip
    refine W.region ?_
    refine WL.c rfl (o_fa 0 TI50 rfl TI3 rfl rfl ?_)
    refine WL.c rfl (o_ld TI3 rfl rfl (cell_of hC2 rfl) ?_)
    refine WL.nil ?_
    refine W.block ?_
    refine W.seq ?_
    refine W.region ?_
    refine WL.c rfl (o_eq rfl rfl ?_)
    refine WL.c rfl (o_ash (show _ = Value.bool _ from rfl) ?_)
    refine WL.nil ?_
    refine W.condF' rfl (decide_eq_false k1) ?_
    refine W.seq ?_
    refine W.seq ?_
    refine W.region ?_
    refine WL.c rfl (o_eq rfl rfl ?_)
    refine WL.c rfl (o_ash (show _ = Value.bool _ from rfl) ?_)
    refine WL.nil ?_
    refine W.condF' rfl (decide_eq_false k2) ?_
    refine W.region ?_
    refine WL.c rfl (o_eq rfl rfl ?_)
    refine WL.c rfl (o_ash (show _ = Value.bool _ from rfl) ?_)
    refine WL.nil ?_
    refine W.condT' rfl (decide_eq_true k3) ?_
    refine W.seq ?_
    refine W.region ?_
    refine WL.c rfl (o_fa 1 TI50 rfl TI3 rfl rfl ?_)
    refine WL.c rfl (o_ld TI3 rfl rfl (cell_of hC2 rfl) ?_)
    refine WL.c rfl (o_eq rfl rfl ?_)
    refine WL.c rfl (o_mvh (show _ = Value.bool _ from rfl) ?_)
    refine WL.sp 3 rfl (fun g44 => ?_) (fun g44 => ?_)
    · skip
      refine WL.g rfl (g44) rfl (o_fa 2 TI50 rfl TI3 rfl rfl ?_)
      refine WL.g rfl (g44) rfl (o_ld TI3 rfl rfl (cell_of hC2 rfl) ?_)
      refine WL.g rfl (g44) rfl (o_eq rfl rfl ?_)
      refine WL.c rfl (o_pickA rfl rfl ?_)
      refine WL.c rfl (o_mvh (show _ = Value.bool _ from rfl) ?_)
      refine WL.sp 8 rfl (fun g49 => ?_) (fun g49 => ?_)
      · skip
        refine WL.g rfl (g49) rfl (o_fa 3 TI50 rfl TI48 rfl rfl ?_)
        refine WL.g rfl (g49) rfl (o_ld TI48 rfl rfl (cell_of hC2 rfl) ?_)
        refine WL.g rfl (g49) rfl (o_lenR TI48 rfl (hS00.ext hx) ?_)
        refine WL.g rfl (g49) rfl (o_eq rfl rfl ?_)
        refine WL.c rfl (o_pickA rfl rfl ?_)
        refine WL.c rfl (o_ash (show _ = Value.bool _ from rfl) ?_)
        refine WL.nil ?_
        refine W.ret ?_
        refine ret1v rfl (show _ = Value.bool _ from rfl) ?_
        refine ⟨congrArg Value.bool ?_, hx⟩
        rw [Bool.eq_iff_iff, tpB_iff, tq_23 (by omega)]
        clear hx hC2 hS00 hl
        simp_all <;> omega
      skip
      refine WL.s rfl (g49) rfl ?_
      refine WL.s rfl (g49) rfl ?_
      refine WL.s rfl (g49) rfl ?_
      refine WL.s rfl (g49) rfl ?_
      refine WL.c rfl (o_pickF rfl (g49) ?_)
      refine WL.c rfl (o_ash (show _ = Value.bool _ from rfl) ?_)
      refine WL.nil ?_
      refine W.ret ?_
      refine ret1v rfl (show _ = Value.bool _ from rfl) ?_
      refine ⟨congrArg Value.bool ?_, hx⟩
      rw [Bool.eq_iff_iff, tpB_iff, tq_23 (by omega)]
      clear hx hC2 hS00 hl
      simp_all <;> omega
    skip
    refine WL.s rfl (g44) rfl ?_
    refine WL.s rfl (g44) rfl ?_
    refine WL.s rfl (g44) rfl ?_
    refine WL.c rfl (o_pickF rfl (g44) ?_)
    refine WL.c rfl (o_mvh (show _ = Value.bool _ from rfl) ?_)
    refine WL.s rfl (rfl) rfl ?_
    refine WL.s rfl (rfl) rfl ?_
    refine WL.s rfl (rfl) rfl ?_
    refine WL.s rfl (rfl) rfl ?_
    refine WL.c rfl (o_pickF rfl (rfl) ?_)
    refine WL.c rfl (o_ash (show _ = Value.bool _ from rfl) ?_)
    refine WL.nil ?_
    refine W.ret ?_
    refine ret1v rfl (show _ = Value.bool _ from rfl) ?_
    refine ⟨congrArg Value.bool ?_, hx⟩
    rw [Bool.eq_iff_iff, tpB_iff, tq_23 (by omega)]
    clear hx hC2 hS00 hl
    simp_all <;> omega
  · skip
    refine W.region ?_
    refine WL.c rfl (o_fa 0 TI50 rfl TI3 rfl rfl ?_)
    refine WL.c rfl (o_ld TI3 rfl rfl (cell_of hC2 rfl) ?_)
    refine WL.nil ?_
    refine W.block ?_
    refine W.seq ?_
    refine W.region ?_
    refine WL.c rfl (o_eq rfl rfl ?_)
    refine WL.c rfl (o_ash (show _ = Value.bool _ from rfl) ?_)
    refine WL.nil ?_
    refine W.condF' rfl (decide_eq_false k1) ?_
    refine W.seq ?_
    refine W.seq ?_
    refine W.region ?_
    refine WL.c rfl (o_eq rfl rfl ?_)
    refine WL.c rfl (o_ash (show _ = Value.bool _ from rfl) ?_)
    refine WL.nil ?_
    refine W.condF' rfl (decide_eq_false k2) ?_
    refine W.region ?_
    refine WL.c rfl (o_eq rfl rfl ?_)
    refine WL.c rfl (o_ash (show _ = Value.bool _ from rfl) ?_)
    refine WL.nil ?_
    refine W.condF' rfl (decide_eq_false k3) ?_
    refine W.seq ?_
    refine W.seq ?_
    refine W.region ?_
    refine WL.c rfl (o_eq rfl rfl ?_)
    refine WL.c rfl (o_ash (show _ = Value.bool _ from rfl) ?_)
    refine WL.nil ?_
    refine W.condT' rfl (decide_eq_true k4) ?_
    refine W.skip ?_
    refine W.condT' rfl (decide_eq_true k4) ?_
    refine W.seq ?_
    refine W.region ?_
    refine WL.c rfl (o_fa 1 TI50 rfl TI3 rfl rfl ?_)
    refine WL.c rfl (o_ld TI3 rfl rfl (cell_of hC2 rfl) ?_)
    refine WL.c rfl (o_call Try.call42 (lc rfl (lc rfl (lc rfl ln))) ((tin_spec t.n 1 1048576 _).mono ?_))
    rintro v60 w60 ⟨rfl, rfl⟩
    refine WL.c rfl (o_mvh (show _ = Value.bool _ from rfl) ?_)
    refine WL.sp 3 rfl (fun g61 => ?_) (fun g61 => ?_)
    · skip
      refine WL.g rfl (g61) rfl (o_fa 2 TI50 rfl TI3 rfl rfl ?_)
      refine WL.g rfl (g61) rfl (o_ld TI3 rfl rfl (cell_of hC2 rfl) ?_)
      refine WL.g rfl (g61) rfl (o_mvh (show _ = Value.int _ _ from rfl) ?_)
      refine WL.g rfl (g61) rfl (o_subi rfl rfl (by omega) ?_)
      refine WL.g rfl (g61) rfl (o_call Try.call42 (lc rfl (lc rfl (lc rfl ln))) ((tin_spec t.elem 0 (at_ - 1) _).mono ?_))
      rintro v66 w66 ⟨rfl, rfl⟩
      refine WL.c rfl (o_pickA rfl rfl ?_)
      refine WL.c rfl (o_mvh (show _ = Value.bool _ from rfl) ?_)
      refine WL.sp 10 rfl (fun g68 => ?_) (fun g68 => ?_)
      · skip
        refine WL.g rfl (g68) rfl (o_fa 3 TI50 rfl TI48 rfl rfl ?_)
        refine WL.g rfl (g68) rfl (o_ld TI48 rfl rfl (cell_of hC2 rfl) ?_)
        refine WL.g rfl (g68) rfl (o_lenR TI48 rfl (hS00.ext hx) ?_)
        refine WL.g rfl (g68) rfl (o_eq rfl rfl ?_)
        refine WL.c rfl (o_pickA rfl rfl ?_)
        refine WL.c rfl (o_ash (show _ = Value.bool _ from rfl) ?_)
        refine WL.nil ?_
        refine W.ret ?_
        refine ret1v rfl (show _ = Value.bool _ from rfl) ?_
        refine ⟨congrArg Value.bool ?_, hx⟩
        rw [Bool.eq_iff_iff, tpB_iff, tq_45 (by omega)]
        clear hx hC2 hS00 hl
        simp_all <;> omega
      skip
      refine WL.s rfl (g68) rfl ?_
      refine WL.s rfl (g68) rfl ?_
      refine WL.s rfl (g68) rfl ?_
      refine WL.s rfl (g68) rfl ?_
      refine WL.c rfl (o_pickF rfl (g68) ?_)
      refine WL.c rfl (o_ash (show _ = Value.bool _ from rfl) ?_)
      refine WL.nil ?_
      refine W.ret ?_
      refine ret1v rfl (show _ = Value.bool _ from rfl) ?_
      refine ⟨congrArg Value.bool ?_, hx⟩
      rw [Bool.eq_iff_iff, tpB_iff, tq_45 (by omega)]
      clear hx hC2 hS00 hl
      simp_all <;> omega
    skip
    refine WL.s rfl (g61) rfl ?_
    refine WL.s rfl (g61) rfl ?_
    refine WL.s rfl (g61) rfl ?_
    refine WL.s rfl (g61) rfl ?_
    refine WL.s rfl (g61) rfl ?_
    refine WL.c rfl (o_pickF rfl (g61) ?_)
    refine WL.c rfl (o_mvh (show _ = Value.bool _ from rfl) ?_)
    refine WL.s rfl (rfl) rfl ?_
    refine WL.s rfl (rfl) rfl ?_
    refine WL.s rfl (rfl) rfl ?_
    refine WL.s rfl (rfl) rfl ?_
    refine WL.c rfl (o_pickF rfl (rfl) ?_)
    refine WL.c rfl (o_ash (show _ = Value.bool _ from rfl) ?_)
    refine WL.nil ?_
    refine W.ret ?_
    refine ret1v rfl (show _ = Value.bool _ from rfl) ?_
    refine ⟨congrArg Value.bool ?_, hx⟩
    rw [Bool.eq_iff_iff, tpB_iff, tq_45 (by omega)]
    clear hx hC2 hS00 hl
    simp_all <;> omega
  · skip
    refine W.region ?_
    refine WL.c rfl (o_fa 0 TI50 rfl TI3 rfl rfl ?_)
    refine WL.c rfl (o_ld TI3 rfl rfl (cell_of hC2 rfl) ?_)
    refine WL.nil ?_
    refine W.block ?_
    refine W.seq ?_
    refine W.region ?_
    refine WL.c rfl (o_eq rfl rfl ?_)
    refine WL.c rfl (o_ash (show _ = Value.bool _ from rfl) ?_)
    refine WL.nil ?_
    refine W.condF' rfl (decide_eq_false k1) ?_
    refine W.seq ?_
    refine W.seq ?_
    refine W.region ?_
    refine WL.c rfl (o_eq rfl rfl ?_)
    refine WL.c rfl (o_ash (show _ = Value.bool _ from rfl) ?_)
    refine WL.nil ?_
    refine W.condF' rfl (decide_eq_false k2) ?_
    refine W.region ?_
    refine WL.c rfl (o_eq rfl rfl ?_)
    refine WL.c rfl (o_ash (show _ = Value.bool _ from rfl) ?_)
    refine WL.nil ?_
    refine W.condF' rfl (decide_eq_false k3) ?_
    refine W.seq ?_
    refine W.seq ?_
    refine W.region ?_
    refine WL.c rfl (o_eq rfl rfl ?_)
    refine WL.c rfl (o_ash (show _ = Value.bool _ from rfl) ?_)
    refine WL.nil ?_
    refine W.condF' rfl (decide_eq_false k4) ?_
    refine W.region ?_
    refine WL.c rfl (o_eq rfl rfl ?_)
    refine WL.c rfl (o_ash (show _ = Value.bool _ from rfl) ?_)
    refine WL.nil ?_
    refine W.condT' rfl (decide_eq_true k5) ?_
    refine W.seq ?_
    refine W.region ?_
    refine WL.c rfl (o_fa 1 TI50 rfl TI3 rfl rfl ?_)
    refine WL.c rfl (o_ld TI3 rfl rfl (cell_of hC2 rfl) ?_)
    refine WL.c rfl (o_call Try.call42 (lc rfl (lc rfl (lc rfl ln))) ((tin_spec t.n 1 1048576 _).mono ?_))
    rintro v60 w60 ⟨rfl, rfl⟩
    refine WL.c rfl (o_mvh (show _ = Value.bool _ from rfl) ?_)
    refine WL.sp 3 rfl (fun g61 => ?_) (fun g61 => ?_)
    · skip
      refine WL.g rfl (g61) rfl (o_fa 2 TI50 rfl TI3 rfl rfl ?_)
      refine WL.g rfl (g61) rfl (o_ld TI3 rfl rfl (cell_of hC2 rfl) ?_)
      refine WL.g rfl (g61) rfl (o_mvh (show _ = Value.int _ _ from rfl) ?_)
      refine WL.g rfl (g61) rfl (o_subi rfl rfl (by omega) ?_)
      refine WL.g rfl (g61) rfl (o_call Try.call42 (lc rfl (lc rfl (lc rfl ln))) ((tin_spec t.elem 0 (at_ - 1) _).mono ?_))
      rintro v66 w66 ⟨rfl, rfl⟩
      refine WL.c rfl (o_pickA rfl rfl ?_)
      refine WL.c rfl (o_mvh (show _ = Value.bool _ from rfl) ?_)
      refine WL.sp 10 rfl (fun g68 => ?_) (fun g68 => ?_)
      · skip
        refine WL.g rfl (g68) rfl (o_fa 3 TI50 rfl TI48 rfl rfl ?_)
        refine WL.g rfl (g68) rfl (o_ld TI48 rfl rfl (cell_of hC2 rfl) ?_)
        refine WL.g rfl (g68) rfl (o_lenR TI48 rfl (hS00.ext hx) ?_)
        refine WL.g rfl (g68) rfl (o_eq rfl rfl ?_)
        refine WL.c rfl (o_pickA rfl rfl ?_)
        refine WL.c rfl (o_ash (show _ = Value.bool _ from rfl) ?_)
        refine WL.nil ?_
        refine W.ret ?_
        refine ret1v rfl (show _ = Value.bool _ from rfl) ?_
        refine ⟨congrArg Value.bool ?_, hx⟩
        rw [Bool.eq_iff_iff, tpB_iff, tq_45 (by omega)]
        clear hx hC2 hS00 hl
        simp_all <;> omega
      skip
      refine WL.s rfl (g68) rfl ?_
      refine WL.s rfl (g68) rfl ?_
      refine WL.s rfl (g68) rfl ?_
      refine WL.s rfl (g68) rfl ?_
      refine WL.c rfl (o_pickF rfl (g68) ?_)
      refine WL.c rfl (o_ash (show _ = Value.bool _ from rfl) ?_)
      refine WL.nil ?_
      refine W.ret ?_
      refine ret1v rfl (show _ = Value.bool _ from rfl) ?_
      refine ⟨congrArg Value.bool ?_, hx⟩
      rw [Bool.eq_iff_iff, tpB_iff, tq_45 (by omega)]
      clear hx hC2 hS00 hl
      simp_all <;> omega
    skip
    refine WL.s rfl (g61) rfl ?_
    refine WL.s rfl (g61) rfl ?_
    refine WL.s rfl (g61) rfl ?_
    refine WL.s rfl (g61) rfl ?_
    refine WL.s rfl (g61) rfl ?_
    refine WL.c rfl (o_pickF rfl (g61) ?_)
    refine WL.c rfl (o_mvh (show _ = Value.bool _ from rfl) ?_)
    refine WL.s rfl (rfl) rfl ?_
    refine WL.s rfl (rfl) rfl ?_
    refine WL.s rfl (rfl) rfl ?_
    refine WL.s rfl (rfl) rfl ?_
    refine WL.c rfl (o_pickF rfl (rfl) ?_)
    refine WL.c rfl (o_ash (show _ = Value.bool _ from rfl) ?_)
    refine WL.nil ?_
    refine W.ret ?_
    refine ret1v rfl (show _ = Value.bool _ from rfl) ?_
    refine ⟨congrArg Value.bool ?_, hx⟩
    rw [Bool.eq_iff_iff, tpB_iff, tq_45 (by omega)]
    clear hx hC2 hS00 hl
    simp_all <;> omega
  · skip
    refine W.region ?_
    refine WL.c rfl (o_fa 0 TI50 rfl TI3 rfl rfl ?_)
    refine WL.c rfl (o_ld TI3 rfl rfl (cell_of hC2 rfl) ?_)
    refine WL.nil ?_
    refine W.block ?_
    refine W.seq ?_
    refine W.region ?_
    refine WL.c rfl (o_eq rfl rfl ?_)
    refine WL.c rfl (o_ash (show _ = Value.bool _ from rfl) ?_)
    refine WL.nil ?_
    refine W.condF' rfl (decide_eq_false k1) ?_
    refine W.seq ?_
    refine W.seq ?_
    refine W.region ?_
    refine WL.c rfl (o_eq rfl rfl ?_)
    refine WL.c rfl (o_ash (show _ = Value.bool _ from rfl) ?_)
    refine WL.nil ?_
    refine W.condF' rfl (decide_eq_false k2) ?_
    refine W.region ?_
    refine WL.c rfl (o_eq rfl rfl ?_)
    refine WL.c rfl (o_ash (show _ = Value.bool _ from rfl) ?_)
    refine WL.nil ?_
    refine W.condF' rfl (decide_eq_false k3) ?_
    refine W.seq ?_
    refine W.seq ?_
    refine W.region ?_
    refine WL.c rfl (o_eq rfl rfl ?_)
    refine WL.c rfl (o_ash (show _ = Value.bool _ from rfl) ?_)
    refine WL.nil ?_
    refine W.condF' rfl (decide_eq_false k4) ?_
    refine W.region ?_
    refine WL.c rfl (o_eq rfl rfl ?_)
    refine WL.c rfl (o_ash (show _ = Value.bool _ from rfl) ?_)
    refine WL.nil ?_
    refine W.condF' rfl (decide_eq_false k5) ?_
    refine W.seq ?_
    refine W.region ?_
    refine WL.c rfl (o_eq rfl rfl ?_)
    refine WL.c rfl (o_ash (show _ = Value.bool _ from rfl) ?_)
    refine WL.nil ?_
    refine W.condT' rfl (decide_eq_true k6) ?_
    refine W.seq ?_
    refine W.region ?_
    refine WL.c rfl (o_fa 1 TI50 rfl TI3 rfl rfl ?_)
    refine WL.c rfl (o_ld TI3 rfl rfl (cell_of hC2 rfl) ?_)
    refine WL.c rfl (o_eq rfl rfl ?_)
    refine WL.c rfl (o_mvh (show _ = Value.bool _ from rfl) ?_)
    refine WL.sp 3 rfl (fun g79 => ?_) (fun g79 => ?_)
    · skip
      refine WL.g rfl (g79) rfl (o_fa 2 TI50 rfl TI3 rfl rfl ?_)
      refine WL.g rfl (g79) rfl (o_ld TI3 rfl rfl (cell_of hC2 rfl) ?_)
      refine WL.g rfl (g79) rfl (o_mvh (show _ = Value.int _ _ from rfl) ?_)
      refine WL.g rfl (g79) rfl (o_subi rfl rfl (by omega) ?_)
      refine WL.g rfl (g79) rfl (o_call Try.call42 (lc rfl (lc rfl (lc rfl ln))) ((tin_spec t.elem 0 (at_ - 1) _).mono ?_))
      rintro v84 w84 ⟨rfl, rfl⟩
      refine WL.c rfl (o_pickA rfl rfl ?_)
      refine WL.c rfl (o_mvh (show _ = Value.bool _ from rfl) ?_)
      refine WL.sp 10 rfl (fun g86 => ?_) (fun g86 => ?_)
      · skip
        refine WL.g rfl (g86) rfl (o_fa 3 TI50 rfl TI48 rfl rfl ?_)
        refine WL.g rfl (g86) rfl (o_ld TI48 rfl rfl (cell_of hC2 rfl) ?_)
        refine WL.g rfl (g86) rfl (o_lenR TI48 rfl (hS00.ext hx) ?_)
        refine WL.g rfl (g86) rfl (o_eq rfl rfl ?_)
        refine WL.c rfl (o_pickA rfl rfl ?_)
        refine WL.c rfl (o_ash (show _ = Value.bool _ from rfl) ?_)
        refine WL.nil ?_
        refine W.ret ?_
        refine ret1v rfl (show _ = Value.bool _ from rfl) ?_
        refine ⟨congrArg Value.bool ?_, hx⟩
        rw [Bool.eq_iff_iff, tpB_iff, tq_6 (by omega)]
        clear hx hC2 hS00 hl
        simp_all <;> omega
      skip
      refine WL.s rfl (g86) rfl ?_
      refine WL.s rfl (g86) rfl ?_
      refine WL.s rfl (g86) rfl ?_
      refine WL.s rfl (g86) rfl ?_
      refine WL.c rfl (o_pickF rfl (g86) ?_)
      refine WL.c rfl (o_ash (show _ = Value.bool _ from rfl) ?_)
      refine WL.nil ?_
      refine W.ret ?_
      refine ret1v rfl (show _ = Value.bool _ from rfl) ?_
      refine ⟨congrArg Value.bool ?_, hx⟩
      rw [Bool.eq_iff_iff, tpB_iff, tq_6 (by omega)]
      clear hx hC2 hS00 hl
      simp_all <;> omega
    skip
    refine WL.s rfl (g79) rfl ?_
    refine WL.s rfl (g79) rfl ?_
    refine WL.s rfl (g79) rfl ?_
    refine WL.s rfl (g79) rfl ?_
    refine WL.s rfl (g79) rfl ?_
    refine WL.c rfl (o_pickF rfl (g79) ?_)
    refine WL.c rfl (o_mvh (show _ = Value.bool _ from rfl) ?_)
    refine WL.s rfl (rfl) rfl ?_
    refine WL.s rfl (rfl) rfl ?_
    refine WL.s rfl (rfl) rfl ?_
    refine WL.s rfl (rfl) rfl ?_
    refine WL.c rfl (o_pickF rfl (rfl) ?_)
    refine WL.c rfl (o_ash (show _ = Value.bool _ from rfl) ?_)
    refine WL.nil ?_
    refine W.ret ?_
    refine ret1v rfl (show _ = Value.bool _ from rfl) ?_
    refine ⟨congrArg Value.bool ?_, hx⟩
    rw [Bool.eq_iff_iff, tpB_iff, tq_6 (by omega)]
    clear hx hC2 hS00 hl
    simp_all <;> omega
  skip
  refine W.region ?_
  refine WL.c rfl (o_fa 0 TI50 rfl TI3 rfl rfl ?_)
  refine WL.c rfl (o_ld TI3 rfl rfl (cell_of hC2 rfl) ?_)
  refine WL.nil ?_
  refine W.block ?_
  refine W.seq ?_
  refine W.region ?_
  refine WL.c rfl (o_eq rfl rfl ?_)
  refine WL.c rfl (o_ash (show _ = Value.bool _ from rfl) ?_)
  refine WL.nil ?_
  refine W.condF' rfl (decide_eq_false k1) ?_
  refine W.seq ?_
  refine W.seq ?_
  refine W.region ?_
  refine WL.c rfl (o_eq rfl rfl ?_)
  refine WL.c rfl (o_ash (show _ = Value.bool _ from rfl) ?_)
  refine WL.nil ?_
  refine W.condF' rfl (decide_eq_false k2) ?_
  refine W.region ?_
  refine WL.c rfl (o_eq rfl rfl ?_)
  refine WL.c rfl (o_ash (show _ = Value.bool _ from rfl) ?_)
  refine WL.nil ?_
  refine W.condF' rfl (decide_eq_false k3) ?_
  refine W.seq ?_
  refine W.seq ?_
  refine W.region ?_
  refine WL.c rfl (o_eq rfl rfl ?_)
  refine WL.c rfl (o_ash (show _ = Value.bool _ from rfl) ?_)
  refine WL.nil ?_
  refine W.condF' rfl (decide_eq_false k4) ?_
  refine W.region ?_
  refine WL.c rfl (o_eq rfl rfl ?_)
  refine WL.c rfl (o_ash (show _ = Value.bool _ from rfl) ?_)
  refine WL.nil ?_
  refine W.condF' rfl (decide_eq_false k5) ?_
  refine W.seq ?_
  refine W.region ?_
  refine WL.c rfl (o_eq rfl rfl ?_)
  refine WL.c rfl (o_ash (show _ = Value.bool _ from rfl) ?_)
  refine WL.nil ?_
  refine W.condF' rfl (decide_eq_false k6) ?_
  refine W.seq ?_
  refine W.seq ?_
  refine W.region ?_
  refine WL.c rfl (o_eq rfl rfl ?_)
  refine WL.c rfl (o_ash (show _ = Value.bool _ from rfl) ?_)
  refine WL.nil ?_
  refine W.condT' rfl (decide_eq_true k7) ?_
  refine W.skip ?_
  refine W.condT' rfl (decide_eq_true k7) ?_
  refine W.seq ?_
  refine W.region ?_
  refine WL.c rfl (o_fa 1 TI50 rfl TI3 rfl rfl ?_)
  refine WL.c rfl (o_ld TI3 rfl rfl (cell_of hC2 rfl) ?_)
  refine WL.c rfl (o_eq rfl rfl ?_)
  refine WL.c rfl (o_mvh (show _ = Value.bool _ from rfl) ?_)
  refine WL.sp 3 rfl (fun g98 => ?_) (fun g98 => ?_)
  · skip
    refine WL.g rfl (g98) rfl (o_fa 2 TI50 rfl TI3 rfl rfl ?_)
    refine WL.g rfl (g98) rfl (o_ld TI3 rfl rfl (cell_of hC2 rfl) ?_)
    refine WL.g rfl (g98) rfl (o_eq rfl rfl ?_)
    refine WL.c rfl (o_pickA rfl rfl ?_)
    refine WL.c rfl (o_mvh (show _ = Value.bool _ from rfl) ?_)
    refine WL.sp 8 rfl (fun g103 => ?_) (fun g103 => ?_)
    · skip
      refine WL.g rfl (g103) rfl (o_ldA TI50 rfl rfl (show Cells _ b2 0 (tcell t pv) from Cells.of hC2 0 _ (by simp)) rfl ?_)
      refine WL.g rfl (g103) rfl (o_mvh (show _ = Value.int _ _ from rfl) ?_)
      refine WL.g rfl (g103) rfl (o_call Try.call70 (lc rfl (lc rfl ln)) ((trparts_spec t pv at_ _ (hS00.ext hx) hl (by omega) hat).mono ?_))
      rintro v106 w106 ⟨rfl, hx106⟩
      replace hx := hx.tr hx106
      refine WL.c rfl (o_pickA rfl rfl ?_)
      refine WL.c rfl (o_ash (show _ = Value.bool _ from rfl) ?_)
      refine WL.nil ?_
      refine W.ret ?_
      refine ret1v rfl (show _ = Value.bool _ from rfl) ?_
      refine ⟨congrArg Value.bool ?_, hx⟩
      rw [Bool.eq_iff_iff, tpB_iff, tq_78 (by omega)]
      clear hx hC2 hS00 hl
      simp_all <;> omega
    skip
    refine WL.s rfl (g103) rfl ?_
    refine WL.s rfl (g103) rfl ?_
    refine WL.s rfl (g103) rfl ?_
    refine WL.c rfl (o_pickF rfl (g103) ?_)
    refine WL.c rfl (o_ash (show _ = Value.bool _ from rfl) ?_)
    refine WL.nil ?_
    refine W.ret ?_
    refine ret1v rfl (show _ = Value.bool _ from rfl) ?_
    refine ⟨congrArg Value.bool ?_, hx⟩
    rw [Bool.eq_iff_iff, tpB_iff, tq_78 (by omega)]
    clear hx hC2 hS00 hl
    simp_all <;> omega
  skip
  refine WL.s rfl (g98) rfl ?_
  refine WL.s rfl (g98) rfl ?_
  refine WL.s rfl (g98) rfl ?_
  refine WL.c rfl (o_pickF rfl (g98) ?_)
  refine WL.c rfl (o_mvh (show _ = Value.bool _ from rfl) ?_)
  refine WL.s rfl (rfl) rfl ?_
  refine WL.s rfl (rfl) rfl ?_
  refine WL.s rfl (rfl) rfl ?_
  refine WL.c rfl (o_pickF rfl (rfl) ?_)
  refine WL.c rfl (o_ash (show _ = Value.bool _ from rfl) ?_)
  refine WL.nil ?_
  refine W.ret ?_
  refine ret1v rfl (show _ = Value.bool _ from rfl) ?_
  refine ⟨congrArg Value.bool ?_, hx⟩
  rw [Bool.eq_iff_iff, tpB_iff, tq_78 (by omega)]
  clear hx hC2 hS00 hl
  simp_all <;> omega
end Go.Proofs.Ytpbflfgigfdohaa
