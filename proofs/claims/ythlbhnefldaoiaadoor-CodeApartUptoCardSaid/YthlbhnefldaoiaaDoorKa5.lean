/-
  Walks and lemmas. Written by program out of specs of mine.
-/
import Derived.WalkKit
import Derived.WalkSpells
import Derived.WalkLawsBesides
import Derived.Deep.Quiet
import Derived.StillTail
import Derived.StringKeys
import Derived.Laws.StructEq
import Derived.Laws.Externs
import Derived.Laws.Tables
import Derived.Scope
import Derived.Laws.AppendOwn
import Derived.Maps.AppendAt
import Derived.Recover
import Derived.Test.YthlbhnefldaoiaaDoorProg
import Derived.Shelf.Strconv.Itoa0
import Derived.Shelf.Strconv.Itoa1
import Derived.Shelf.LaysM
import Derived.Shelf.Strconv.Itoa2
import Derived.Shelf.Strconv.Itoa3
import Derived.Shelf.Strings.Builder1
import Derived.Shelf.Strings.OnBuilder
import Derived.Lib.Builder
import Derived.Lib.UnsafeStr
import Derived.Lib.ItoaLen
import Derived.SizedLaws
import Derived.ChangeArms
import Derived.ChangeSlices
import Derived.Lib.ConvBytes
import Derived.Test.YthlbhnefldaoiaaDoorRows
import Derived.ProofKit
import Derived.OpenShut
import Derived.ShutString
import Derived.ChangeOld
import Derived.Below
import Derived.JoinedCond
import Derived.SliceStrings
import Derived.Test.YthlbhnefldaoiaaDoorCards
import Derived.Test.YthlbhnefldaoiaaDoorTie
import Derived.Deep.DeepHandedRow
import Derived.Lib.LaidTab
import Derived.Test.YthlbhnefldaoiaaDoorKa4
set_option linter.unusedSimpArgs false
set_option linter.unusedVariables false
set_option maxRecDepth 100000
set_option linter.unusedSimpArgs false
set_option linter.unusedVariables false
set_option maxRecDepth 100000
namespace Go.Proofs.YthlbhnefldaoiaaDoor
open Go Go.Vc Go.RowKit Go.Proofs

/-- only these blocks change, and shapes stay -/
def SF (F : Nat → Prop) (a b : World) : Prop := Only F a b ∧ ∀ (k : Nat) (cs : Array Value) (T : TypeId), a.heap[k]? = some (.cells cs T (0, 0)) → ∃ cs' : Array Value, b.heap[k]? = some (.cells cs' T (0, 0)) ∧ cs'.size = cs.size
theorem SF.refl (F : Nat → Prop) (w : World) : SF F w w := ⟨Only.refl _ w, fun k cs T h => ⟨cs, h, rfl⟩⟩
theorem SF.trans (F : Nat → Prop) (a b c : World) (h : SF F a b) (k : SF F b c) : SF F a c := ⟨h.1.trans k.1, fun j cs T hj => by
  obtain ⟨c1, h1, h2⟩ := h.2 j cs T hj
  obtain ⟨c2, h3, h4⟩ := k.2 j c1 T h1
  exact ⟨c2, h3, h4.trans h2⟩⟩
theorem SF.ext (F : Nat → Prop) (a b : World) (h : Ext a b) : SF F a b := ⟨h.mono (fun _ _ h => h.elim), fun k cs T hk => ⟨cs, h.blk hk (fun h => h), rfl⟩⟩
theorem SF.put {F : Nat → Prop} {a b : World} {q : Nat} {cs cs' : Array Value} {T : TypeId} (hq : F q) (ho : Only (fun k => k = q) a b) (h1 : a.heap[q]? = some (.cells cs T (0, 0))) (h2 : b.heap[q]? = some (.cells cs' T (0, 0))) (hs : cs'.size = cs.size) : SF F a b :=
  ⟨ho.mono (fun k _ he => by subst he; exact hq), fun k c1 T1 hk => by
    by_cases he : k = q
    · subst he
      rw [h1] at hk
      cases hk
      exact ⟨cs', h2, hs⟩
    · exact ⟨c1, ho.blk hk he, rfl⟩⟩
def Two (b2 b3 : Nat) (T2 T3 : TypeId) (A2 A3 : List Value) (t : Nat) (_ : Value) (w : World) : Prop := (1 ≤ t → w.heap[b2]? = some (.cells A2.toArray T2 (0, 0))) ∧ (2 ≤ t → w.heap[b3]? = some (.cells A3.toArray T3 (0, 0)))
theorem Two.ext {b2 b3 : Nat} {T2 T3 : TypeId} {A2 A3 : List Value} (t : Nat) (v : Value) (a b : World) (h : Two b2 b3 T2 T3 A2 A3 t v a) (ho : Ext a b) : Two b2 b3 T2 T3 A2 A3 t v b := ⟨fun h1 => ho.blk (h.1 h1) (fun h => h), fun h1 => ho.blk (h.2 h1) (fun h => h)⟩
theorem Two.zero {b2 b3 : Nat} {T2 T3 : TypeId} {A2 A3 : List Value} {v : Value} {w : World} : Two b2 b3 T2 T3 A2 A3 0 v w := ⟨fun h => absurd h (by omega), fun h => absurd h (by omega)⟩
theorem retAA {fn : Func} {P : Program} {e : Env} {w : World} {R : Value → World → Prop} {a1 a2 : Tmp} {T1 T2 : TypeId} {d1 d2 : TypeDesc} {s1 s2 bs1 bs2 b1 b2 o1 o2 : Nat} {z1 z2 : Value} {xs ys : List Value} (hr : fn.results = #[.cell a1 T1, .cell a2 T2]) (ht1 : Ty P T1 d1 s1 bs1 z1) (hd1 : isAggD d1 = true) (ht2 : Ty P T2 d2 s2 bs2 z2) (hd2 : isAggD d2 = true)
    (h1 : e a1 = .pointer (some ⟨b1, o1, none⟩)) (h2 : e a2 = .pointer (some ⟨b2, o2, none⟩)) (hc1 : Cells w b1 o1 xs) (hl1 : xs.length = s1) (hc2 : Cells w b2 o2 ys) (hl2 : ys.length = s2) (h : R (.tuple #[.agg xs.toArray, .agg ys.toArray]) w) : Rt fn P R e w :=
  ⟨fun _ ac ha => ⟨.tuple #[.agg xs.toArray, .agg ys.toArray], by
    have g1 : ac.tmps.getD a1 undef = .pointer (some ⟨b1, o1, none⟩) := by rw [ha.get]; exact h1
    have g2 : ac.tmps.getD a2 undef = .pointer (some ⟨b2, o2, none⟩) := by rw [ha.get]; exact h2
    simp only [Array.getD_eq_getD_getElem?] at g1 g2
    simp [results, hr, asAddr, g1, g2, run_loadA ht1 hd1 hc1 hl1, run_loadA ht2 hd2 hc2 hl2], h⟩⟩
theorem decA_hdr {T : List UInt8} (h : (hdrS T).1 ≠ 0) : decA T = hdrS T := by unfold decA; rw [if_pos h]
theorem decA_er {T : List UInt8} (h : (hdrS T).1 = 0) {e p : Nat} (h1 : (decI (encS T) T).1 = .er e p) : decA T = (e, p) := by unfold decA; rw [if_neg (by omega), h1]
theorem decA_tail {T : List UInt8} (h : (hdrS T).1 = 0) {k : Nat} (h1 : (decI (encS T) T).1 = .ok k) (hk : k < T.length) : decA T = (124, k) := by unfold decA; rw [if_neg (by omega), h1]; simp only [if_pos hk]
theorem decA_end {T : List UInt8} (h : (hdrS T).1 = 0) {k : Nat} (h1 : (decI (encS T) T).1 = .ok k) (hk : ¬ k < T.length) : decA T = if (chk (pgS T)).1 = 140 then (140, (decI (encS T) T).2.2.getD (chk (pgS T)).2 0) else if (chk (pgS T)).1 = 3 then (3, (decE T).2.2.getD (chk (pgS T)).2 0) else (0, 0) := by unfold decA; rw [if_neg (by omega), h1]; simp only [if_neg hk]
noncomputable def decQ (T : List UInt8) : Pg := if (decA T).1 = 0 then pgS T else ⟨false, [], []⟩
theorem chk_read {p : Pg} (h : ReadP p) : ((chk p).1 = 140 ∧ (chk p).2 < p.code.length) ∨ ((chk p).1 = 3 ∧ (chk p).2 < p.ent.length) ∨ ((chk p).1 = 0 ∧ (chk p).2 = 0) := by
  have hb := h.big
  rcases chk_ok p with ⟨h0, -⟩ | ⟨-, h1, -, -, h2⟩ | ⟨-, -, h1, -, -, h2⟩ | ⟨-, -, -, h1, h2⟩
  · exact absurd h0 hb
  · exact .inl ⟨h2, h1⟩
  · exact .inr (.inl ⟨h2, h1⟩)
  · exact .inr (.inr ⟨h1, h2⟩)
theorem hdr_zero {T : List UInt8} (h0 : 2 ≤ T.length) (h1 : T.getD 0 0 = 109) (h2 : (T.getD 1 0).toNat ≤ 1) : (hdrS T).1 = 0 := by
  unfold hdrS
  rw [if_neg (by omega), if_neg (by simpa using h1), if_neg (by omega), if_neg (by omega)]
theorem RdM.row {w w' : World} {F : Nat → Prop} {ty : TypeId} {b H : Nat} {ta : Option Addr} {tc : Nat} {T : List UInt8} {s : Rs} (h : RdM w ty b ta tc T s) (ho : Only F w w') (hb : ¬ F b) (ht : TxtLt T ta H) (hF : ∀ k, k < H → ¬ F k) : RdM w' ty b ta tc T s := by
  obtain ⟨a, e, q, h1, h2⟩ := h.cell
  refine ⟨⟨a, e, q, ho.blk h1 hb, h2⟩, Sl.only0 h.txt ho (fun h0 k hk hFk => ?_)⟩
  cases ta with
  | none => simp [Value.ownBlock] at hk
  | some x =>
    simp only [Value.ownBlock, Option.some.injEq] at hk
    have := ht h0 x rfl
    exact hF k (by omega) hFk
theorem RdM.far {T : List UInt8} {ta : Option Addr} {H b : Nat} (h : TxtLt T ta H) (hb : H ≤ b) : FarB b ta T := fun h0 q hq => by have := h h0 q hq; omega
theorem getD8 {T : List UInt8} {k : Nat} (h : k < T.length) : T.getD k 0 = T[k] := by rw [List.getD_eq_getElem?_getD, List.getElem?_eq_getElem h]; rfl
theorem ints_snoc (l : List Nat) (n : Nat) : ints (l ++ [n]) = ints l ++ [.int .i64 (n : Int)] := by simp [ints]
theorem decQ_ne {T : List UInt8} {e a : Nat} (h : decA T = (e, a)) (he : e ≠ 0) : decQ T = ⟨false, [], []⟩ := by unfold decQ; rw [h]; exact if_neg he
theorem entsS_end {T : List UInt8} {n : Nat} {s : Rs} {es : List Int} {ps : List Nat} (h : ¬ (0 < n ∧ ∃ k, s = .ok k)) : entsS T n s es ps = (s, es, ps) := by
  cases n with
  | zero => rfl
  | succ n =>
    cases s with
    | er a b => rfl
    | ok k => exact absurd ⟨Nat.succ_pos n, k, rfl⟩ h
theorem inssS_end {enc : Bool} {T : List UInt8} {n : Nat} {s : Rs} {es : List Ins} {ps : List Nat} (h : ¬ (0 < n ∧ ∃ k, s = .ok k)) : inssS enc T n s es ps = (s, es, ps) := by
  cases n with
  | zero => rfl
  | succ n =>
    cases s with
    | er a b => rfl
    | ok k => exact absurd ⟨Nat.succ_pos n, k, rfl⟩ h
theorem StP.okc {n : Nat} {s : Rs} {a e q : Nat} (h : StP n s a e q) : e = 0 ↔ ∃ k, s = .ok k := by
  cases s with
  | ok k => exact ⟨fun _ => ⟨k, rfl⟩, fun _ => h.2.1⟩
  | er a b => exact ⟨fun h0 => absurd (h.1.symm.trans h0) h.2.2, fun ⟨k, hk⟩ => by cases hk⟩

set_option maxHeartbeats 32000000 in
theorem decode_spec (ta : Option Addr) (tc : Nat) (T : List UInt8) (w0 : World) (hB : By w0 (.slice ta T.length tc) T) (hT : T.length ≤ 4611686018427387904) : Ca Tryd.prog 14 #[.slice ta T.length tc] w0 (fun r w' => ∃ cv ev_, r = .tuple #[.agg (pgV (decQ T) cv ev_).toArray, .agg #[.int .i64 ((decA T).1 : Int), .int .i64 ((decA T).2 : Int)]] ∧ w'.ownsRow w0.heap.size 28 4 cv (decQ T).code.length (inss (decQ T).code) ∧ w'.ownsRow w0.heap.size 3 1 ev_ (decQ T).ent.length (zs (decQ T).ent) ∧ Ext w0 w') := by
  obtain ⟨H0, hH0⟩ : ∃ H, H = w0.heap.size := ⟨_, rfl⟩
  rw [← hH0]
  have htl : TxtLt T ta H0 := fun h0 q hq => by subst hq; rw [hH0]; exact hB.lt (by omega) rfl
  have hcap := slice_cap hB
  refine Ca.of Tryd.func14 Tryd.ntmps14 rfl rfl ?_
  refine W.seq ?_
  refine W.region ?_
  refine WL.c rfl (o_alB TI26 ?_)
  intro w2 hC2 hx2 hs2
  obtain ⟨b2, hb2⟩ : ∃ b, b = w0.heap.size := ⟨_, rfl⟩
  rw [← hb2] at hC2 ⊢
  replace hC2 : w2.heap[b2]? = some (.cells ([.bool false, .slice none 0 0, .slice none 0 0]).toArray 26 (0, 0)) := hC2
  have hx : Ext w0 w2 := hx2
  refine WL.c rfl (o_alB TI32 ?_)
  intro w3 hC3 hx3 hs3
  obtain ⟨b3, hb3⟩ : ∃ b, b = w2.heap.size := ⟨_, rfl⟩
  rw [← hb3] at hC3 ⊢
  replace hC3 : w3.heap[b3]? = some (.cells ([.int .i64 0, .int .i64 0]).toArray 32 (0, 0)) := hC3
  replace hx := hx.tr hx3
  replace hC2 := hx3.blk hC2 (fun h => h)
  have hb2g : H0 ≤ b2 := by omega
  have hb3g : H0 ≤ b3 := by have := hx.size; omega
  have hb23 : b2 < b3 := by omega
  have hB0 := hB.ext hx
  refine WL.nil ?_
  refine W.seq ?_
  refine W.seq ?_
  refine W.region ?_
  refine WL.c rfl (o_mvh (show _ = Value.int _ _ from rfl) ?_)
  refine WL.nil ?_
  refine W.block ?_
  refine W.loop (fun e w => ∃ k : Nat, k ≤ 2 ∧ e 0 = .slice ta T.length tc ∧ e 2 = .pointer (some ⟨b2, 0, none⟩) ∧ e 3 = .pointer (some ⟨b3, 0, none⟩) ∧ e 12 = .int .i64 (k : Int) ∧ (1 ≤ k → 1 ≤ T.length ∧ T.getD 0 0 = 109) ∧ (2 ≤ k → 2 ≤ T.length ∧ (T.getD 1 0).toNat ≤ 1) ∧ w = w3) (fun e w => 2 - (intOf (e 12)).toNat) ?_ ?_
  · exact ⟨0, by omega, rfl, rfl, rfl, rfl, fun h => absurd h (by omega), fun h => absurd h (by omega), rfl⟩
  rintro e w ⟨k, hk, h0, h2, h3, h12, hk1, hk2, hw3⟩
  have hm12 := h12
  subst hw3
  refine W.seq ?_
  refine W.region ?_
  refine WL.c rfl (o_lt h12 rfl ?_)
  refine WL.nil ?_
  refine W.seq ?_
  refine W.cond rfl (fun c13 => ?_) (fun c13 => ?_)
  · try simp only [decide_eq_true_eq, decide_eq_false_iff_not, Bool.not_eq_true', Bool.not_eq_false', Bool.and_eq_true, Bool.or_eq_true, Bool.and_eq_false_iff, Bool.or_eq_false_iff] at c13
    have hkl : k < 2 := by omega
    refine W.skip ?_
    refine W.seq ?_
    refine W.block ?_
    refine W.seq ?_
    refine W.region ?_
    refine WL.c rfl (o_mvh h12 ?_)
    refine WL.c rfl (o_ash (show _ = Value.int _ _ from rfl) ?_)
    refine WL.nil ?_
    refine W.seq ?_
    refine W.seq ?_
    refine W.region ?_
    refine WL.c rfl (o_mvh h0 ?_)
    refine WL.c rfl (o_len TI34 rfl ?_)
    refine WL.c rfl (o_mvh (show _ = Value.int _ _ from rfl) ?_)
    refine WL.c rfl (o_le rfl rfl ?_)
    refine WL.nil ?_
    refine W.cond rfl (fun c18 => ?_) (fun c18 => ?_)
    · try simp only [decide_eq_true_eq, decide_eq_false_iff_not, Bool.not_eq_true', Bool.not_eq_false', Bool.and_eq_true, Bool.or_eq_true, Bool.and_eq_false_iff, Bool.or_eq_false_iff] at c18
      have hA : decA T = (20, k) := by
        have hz : hdrS T = (20, k) := by
          unfold hdrS
          rcases Nat.eq_zero_or_pos k with rfl | h
          · rw [if_pos (by omega)]
          · obtain ⟨g1, g2⟩ := hk1 (by omega)
            rw [if_neg (by omega), if_neg (by simpa using g2), if_pos (by omega), show k = 1 by omega]
        rw [decA_hdr (by rw [hz]; simp), hz]
      have hQ := decQ_ne hA (by decide)
      refine W.seq ?_
      refine W.region ?_
      refine WL.c rfl (o_bldC (cs := [(.bool false), (.slice none 0 0), (.slice none 0 0)]) TI26 (Sizes.cons TI4 (Sizes.cons TI23 (Sizes.cons TI24 Sizes.nil))) rfl lnp rfl rfl ?_)
      refine WL.c rfl (o_mvh (show _ = Value.int _ _ from rfl) ?_)
      refine WL.c rfl (o_bldC (cs := [(.int .i64 20), _]) TI32 (Sizes.cons TI30 (Sizes.cons TI3 Sizes.nil)) rfl (lcp (show _ = Value.int _ _ from rfl) (lcp (show _ = Value.int _ _ from rfl) lnp)) rfl rfl ?_)
      refine WL.u (o_stA TI26 h2 (show _ = Value.agg ([.bool false, .slice none 0 0, .slice none 0 0]).toArray from rfl) rfl rfl (by assumption) rfl ?_)
      intro wp hBp hop hsp
      replace hC3 := hop.blk hC3 (by omega)
      replace hx := hx.trans' hop (fun _ h => h) (fun q hq he => by omega)
      refine WL.u (o_stA TI32 h3 rfl rfl rfl (by assumption) rfl ?_)
      intro wf hBf hof hsf
      replace hBp := hof.blk hBp (by omega)
      replace hx := hx.trans' hof (fun _ h => h) (fun q hq he => by omega)
      refine WL.nil ?_
      refine W.ret ?_
      refine retAA rfl TI26 rfl TI32 rfl (by first | exact h2 | rfl) (by first | exact h3 | rfl) (cells_all hBp) rfl (cells_all hBf) rfl ?_
      exact ⟨.slice none 0 0, .slice none 0 0, by rw [hQ, hA]; rfl, by rw [hQ]; exact World.ownsRow_nil _ _ _ _, by rw [hQ]; exact World.ownsRow_nil _ _ _ _, hx⟩
    · try simp only [decide_eq_true_eq, decide_eq_false_iff_not, Bool.not_eq_true', Bool.not_eq_false', Bool.and_eq_true, Bool.or_eq_true, Bool.and_eq_false_iff, Bool.or_eq_false_iff] at c18
      have hlt : k < T.length := by omega
      refine W.skip ?_
      refine W.seq ?_
      rcases k with _ | _ | k
      · skip
        refine W.region ?_
        refine WL.cut (fun e1 w1 => e1 39 = .bool (decide (T.getD 0 0 ≠ 109)) ∧ e1 0 = .slice ta T.length tc ∧ e1 2 = .pointer (some ⟨b2, 0, none⟩) ∧ e1 3 = .pointer (some ⟨b3, 0, none⟩) ∧ e1 4 = .int .i64 ((0 : Nat) : Int) ∧ e1 12 = .int .i64 ((0 : Nat) : Int) ∧ w1 = w) ?_ ?_
        · -- region 6
          refine WL.c rfl (o_mvh (show _ = Value.int _ _ from rfl) ?_)
          refine WL.c rfl (o_eq rfl rfl ?_)
          refine WL.c rfl (o_mvh (show _ = Value.bool _ from rfl) ?_)
          refine WL.g rfl (by simp) rfl (o_mvh h0 ?_)
          refine WL.g rfl (by simp) rfl (o_ix1 (i := 0) TI34 TI5 rfl rfl hB0 (hlt) ?_)
          intro b26 o26 hc26 hb26
          refine WL.g rfl (by simp) rfl (o_ld TI5 rfl rfl (hc26.trans (getbv hlt)) ?_)
          refine WL.g rfl (by simp) rfl (o_ne rfl rfl ?_)
          refine WL.c rfl (o_pickA rfl rfl ?_)
          refine WL.c rfl (o_mvh (show _ = Value.bool _ from rfl) ?_)
          refine WL.sp 8 rfl (fun g30 => ?_) (fun g30 => ?_)
          · skip
            refine WL.s rfl (g30) rfl ?_
            refine WL.s rfl (g30) rfl ?_
            refine WL.s rfl (g30) rfl ?_
            refine WL.z rfl rfl ?_
            refine WL.z rfl rfl ?_
            refine WL.z rfl rfl ?_
            refine WL.z rfl rfl ?_
            refine WL.s rfl (g30) rfl ?_
            refine WL.c rfl (o_pickT rfl (g30) ?_)
            exact WL.nil (⟨congrArg Value.bool (by rw [getD8 hlt, Bool.eq_iff_iff, decide_eq_true_iff, ne_eq, ← UInt8.toNat_inj]; first | (simp_all; done) | (simp_all; omega)), h0, h2, h3, rfl, h12, rfl⟩)
          · skip
            refine WL.g rfl (g30) rfl (o_mvh (show _ = Value.int _ _ from rfl) ?_)
            refine WL.g rfl (g30) rfl (o_eq rfl rfl ?_)
            refine WL.g rfl (g30) rfl (o_mvh (show _ = Value.bool _ from rfl) ?_)
            refine WL.s rfl (by simp) rfl ?_
            refine WL.s rfl (by simp) rfl ?_
            refine WL.s rfl (by simp) rfl ?_
            refine WL.s rfl (by simp) rfl ?_
            refine WL.g rfl (g30) rfl (o_pickF rfl (by simp) ?_)
            refine WL.c rfl (o_pickO rfl rfl ?_)
            exact WL.nil (⟨congrArg Value.bool (by rw [getD8 hlt, Bool.eq_iff_iff, decide_eq_true_iff, ne_eq, ← UInt8.toNat_inj]; first | (simp_all; done) | (simp_all; omega)), h0, h2, h3, rfl, h12, rfl⟩)
        rintro e w ⟨h39, h0, h2, h3, h4, h12, hw1⟩
        subst hw1
        refine W.cond h39 (fun c39 => ?_) (fun c39 => ?_)
        · try simp only [decide_eq_true_eq, decide_eq_false_iff_not, Bool.not_eq_true', Bool.not_eq_false', Bool.and_eq_true, Bool.or_eq_true, Bool.and_eq_false_iff, Bool.or_eq_false_iff] at c39
          have hA : decA T = (150, 0) := by
            have hz : hdrS T = (150, 0) := by
              unfold hdrS
              rw [if_neg (by omega), if_pos (by simpa using c39)]
            rw [decA_hdr (by rw [hz]; decide), hz]
          have hQ := decQ_ne hA (by decide)
          refine W.seq ?_
          refine W.region ?_
          refine WL.c rfl (o_bldC (cs := [(.bool false), (.slice none 0 0), (.slice none 0 0)]) TI26 (Sizes.cons TI4 (Sizes.cons TI23 (Sizes.cons TI24 Sizes.nil))) rfl lnp rfl rfl ?_)
          refine WL.c rfl (o_mvh h4 ?_)
          refine WL.c rfl (o_bldC (cs := [(.int .i64 150), _]) TI32 (Sizes.cons TI30 (Sizes.cons TI3 Sizes.nil)) rfl (lcp (show _ = Value.int _ _ from rfl) (lcp (show _ = Value.int _ _ from rfl) lnp)) rfl rfl ?_)
          refine WL.u (o_stA TI26 h2 (show _ = Value.agg ([.bool false, .slice none 0 0, .slice none 0 0]).toArray from rfl) rfl rfl (by assumption) rfl ?_)
          intro wp hBp hop hsp
          replace hC3 := hop.blk hC3 (by omega)
          replace hx := hx.trans' hop (fun _ h => h) (fun q hq he => by omega)
          refine WL.u (o_stA TI32 h3 rfl rfl rfl (by assumption) rfl ?_)
          intro wf hBf hof hsf
          replace hBp := hof.blk hBp (by omega)
          replace hx := hx.trans' hof (fun _ h => h) (fun q hq he => by omega)
          refine WL.nil ?_
          refine W.ret ?_
          refine retAA rfl TI26 rfl TI32 rfl (by first | exact h2 | rfl) (by first | exact h3 | rfl) (cells_all hBp) rfl (cells_all hBf) rfl ?_
          exact ⟨.slice none 0 0, .slice none 0 0, by rw [hQ, hA]; rfl, by rw [hQ]; exact World.ownsRow_nil _ _ _ _, by rw [hQ]; exact World.ownsRow_nil _ _ _ _, hx⟩
        · try simp only [decide_eq_true_eq, decide_eq_false_iff_not, Bool.not_eq_true', Bool.not_eq_false', Bool.and_eq_true, Bool.or_eq_true, Bool.and_eq_false_iff, Bool.or_eq_false_iff] at c39
          have hq1 : 1 ≤ 0 + 1 → 1 ≤ T.length ∧ T.getD 0 0 = 109 := fun _ => ⟨by omega, by simpa using c39⟩
          have hq2 : 2 ≤ 0 + 1 → 2 ≤ T.length ∧ (T.getD 1 0).toNat ≤ 1 := fun h => absurd h (by omega)
          refine W.skip ?_
          refine W.region ?_
          refine WL.c rfl (o_addi h12 rfl (by omega) ?_)
          refine WL.c rfl (o_mvh (show _ = Value.int _ _ from rfl) ?_)
          refine WL.nil ?_
          refine ⟨⟨_ + 1, by omega, h0, h2, h3, rfl, hq1, hq2, rfl⟩, ?_⟩
          first
            | (show 2 - (1 : Int).toNat < _; rw [hm12]; simp [intOf])
            | (show 2 - (2 : Int).toNat < _; rw [hm12]; simp [intOf])
      · skip
        refine W.region ?_
        refine WL.cut (fun e1 w1 => e1 39 = .bool (decide (1 < (T.getD 1 0).toNat)) ∧ e1 0 = .slice ta T.length tc ∧ e1 2 = .pointer (some ⟨b2, 0, none⟩) ∧ e1 3 = .pointer (some ⟨b3, 0, none⟩) ∧ e1 4 = .int .i64 (((0 + 1 : Nat)) : Int) ∧ e1 12 = .int .i64 (((0 + 1 : Nat)) : Int) ∧ w1 = w) ?_ ?_
        · -- region 6
          refine WL.c rfl (o_mvh (show _ = Value.int _ _ from rfl) ?_)
          refine WL.c rfl (o_eq rfl rfl ?_)
          refine WL.c rfl (o_mvh (show _ = Value.bool _ from rfl) ?_)
          refine WL.s rfl (by simp) rfl ?_
          refine WL.s rfl (by simp) rfl ?_
          refine WL.s rfl (by simp) rfl ?_
          refine WL.s rfl (by simp) rfl ?_
          refine WL.c rfl (o_pickF rfl (by simp) ?_)
          refine WL.c rfl (o_mvh (show _ = Value.bool _ from rfl) ?_)
          refine WL.g rfl (rfl) rfl (o_mvh (show _ = Value.int _ _ from rfl) ?_)
          refine WL.g rfl (rfl) rfl (o_eq rfl rfl ?_)
          refine WL.g rfl (rfl) rfl (o_mvh (show _ = Value.bool _ from rfl) ?_)
          refine WL.g rfl (by simp) rfl (o_mvh h0 ?_)
          refine WL.g rfl (by simp) rfl (o_ix1 (i := 1) TI34 TI5 rfl rfl hB0 (hlt) ?_)
          intro b35 o35 hc35 hb35
          refine WL.g rfl (by simp) rfl (o_ld TI5 rfl rfl (hc35.trans (getbv hlt)) ?_)
          refine WL.g rfl (by simp) rfl (o_gt rfl rfl ?_)
          refine WL.g rfl (rfl) rfl (o_pickA rfl rfl ?_)
          refine WL.c rfl (o_pickO rfl rfl ?_)
          exact WL.nil (⟨congrArg Value.bool (by rw [getD8 hlt, Bool.eq_iff_iff, decide_eq_true_iff]; first | (simp_all; done) | (simp_all; omega)), h0, h2, h3, rfl, h12, rfl⟩)
        rintro e w ⟨h39, h0, h2, h3, h4, h12, hw1⟩
        subst hw1
        refine W.cond h39 (fun c39 => ?_) (fun c39 => ?_)
        · try simp only [decide_eq_true_eq, decide_eq_false_iff_not, Bool.not_eq_true', Bool.not_eq_false', Bool.and_eq_true, Bool.or_eq_true, Bool.and_eq_false_iff, Bool.or_eq_false_iff] at c39
          have hA : decA T = (150, 1) := by
            have hz : hdrS T = (150, 1) := by
              unfold hdrS
              rw [if_neg (by omega), if_neg (by simpa using (hk1 (by omega)).2), if_neg (by omega), if_pos (by simpa using c39)]
            rw [decA_hdr (by rw [hz]; decide), hz]
          have hQ := decQ_ne hA (by decide)
          refine W.seq ?_
          refine W.region ?_
          refine WL.c rfl (o_bldC (cs := [(.bool false), (.slice none 0 0), (.slice none 0 0)]) TI26 (Sizes.cons TI4 (Sizes.cons TI23 (Sizes.cons TI24 Sizes.nil))) rfl lnp rfl rfl ?_)
          refine WL.c rfl (o_mvh h4 ?_)
          refine WL.c rfl (o_bldC (cs := [(.int .i64 150), _]) TI32 (Sizes.cons TI30 (Sizes.cons TI3 Sizes.nil)) rfl (lcp (show _ = Value.int _ _ from rfl) (lcp (show _ = Value.int _ _ from rfl) lnp)) rfl rfl ?_)
          refine WL.u (o_stA TI26 h2 (show _ = Value.agg ([.bool false, .slice none 0 0, .slice none 0 0]).toArray from rfl) rfl rfl (by assumption) rfl ?_)
          intro wp hBp hop hsp
          replace hC3 := hop.blk hC3 (by omega)
          replace hx := hx.trans' hop (fun _ h => h) (fun q hq he => by omega)
          refine WL.u (o_stA TI32 h3 rfl rfl rfl (by assumption) rfl ?_)
          intro wf hBf hof hsf
          replace hBp := hof.blk hBp (by omega)
          replace hx := hx.trans' hof (fun _ h => h) (fun q hq he => by omega)
          refine WL.nil ?_
          refine W.ret ?_
          refine retAA rfl TI26 rfl TI32 rfl (by first | exact h2 | rfl) (by first | exact h3 | rfl) (cells_all hBp) rfl (cells_all hBf) rfl ?_
          exact ⟨.slice none 0 0, .slice none 0 0, by rw [hQ, hA]; rfl, by rw [hQ]; exact World.ownsRow_nil _ _ _ _, by rw [hQ]; exact World.ownsRow_nil _ _ _ _, hx⟩
        · try simp only [decide_eq_true_eq, decide_eq_false_iff_not, Bool.not_eq_true', Bool.not_eq_false', Bool.and_eq_true, Bool.or_eq_true, Bool.and_eq_false_iff, Bool.or_eq_false_iff] at c39
          have hq1 : 1 ≤ 0 + 1 + 1 → 1 ≤ T.length ∧ T.getD 0 0 = 109 := fun _ => hk1 (by omega)
          have hq2 : 2 ≤ 0 + 1 + 1 → 2 ≤ T.length ∧ (T.getD 1 0).toNat ≤ 1 := fun _ => ⟨by omega, by simpa using c39⟩
          refine W.skip ?_
          refine W.region ?_
          refine WL.c rfl (o_addi h12 rfl (by omega) ?_)
          refine WL.c rfl (o_mvh (show _ = Value.int _ _ from rfl) ?_)
          refine WL.nil ?_
          refine ⟨⟨_ + 1, by omega, h0, h2, h3, rfl, hq1, hq2, rfl⟩, ?_⟩
          first
            | (show 2 - (1 : Int).toNat < _; rw [hm12]; simp [intOf])
            | (show 2 - (2 : Int).toNat < _; rw [hm12]; simp [intOf])
      · skip
        exact absurd hkl (by omega)
        stop
        refine W.region ?_
        refine WL.c rfl (o_mvh (show _ = Value.int _ _ from rfl) ?_)
        refine WL.c rfl (o_eq rfl rfl ?_)
        refine WL.c rfl (o_mvh (show _ = Value.bool _ from rfl) ?_)
        refine WL.sp 2 rfl (fun g24 => ?_) (fun g24 => ?_)
        · skip
          refine WL.g rfl (g24) rfl (o_mvh h0 ?_)
          refine WL.g rfl (g24) rfl (o_ix1 (i := 0) TI34 TI5 rfl rfl (by assumption) (by omega) ?_)
          refine WL.g rfl (g24) rfl (o_ld TI5 rfl rfl (by assumption) ?_)
          refine WL.g rfl (g24) rfl (o_ne rfl rfl ?_)
          refine WL.c rfl (o_pickA rfl rfl ?_)
          refine WL.c rfl (o_mvh (show _ = Value.bool _ from rfl) ?_)
          refine WL.sp 8 rfl (fun g30 => ?_) (fun g30 => ?_)
          · skip
            refine WL.s rfl (g30) rfl ?_
            refine WL.s rfl (g30) rfl ?_
            refine WL.s rfl (g30) rfl ?_
            refine WL.z rfl rfl ?_
            refine WL.z rfl rfl ?_
            refine WL.z rfl rfl ?_
            refine WL.z rfl rfl ?_
            refine WL.s rfl (g30) rfl ?_
            refine WL.c rfl (o_pickT rfl (g30) ?_)
            refine WL.nil ?_
            refine W.cond rfl (fun c39 => ?_) (fun c39 => ?_)
            · try simp only [decide_eq_true_eq, decide_eq_false_iff_not, Bool.not_eq_true', Bool.not_eq_false', Bool.and_eq_true, Bool.or_eq_true, Bool.and_eq_false_iff, Bool.or_eq_false_iff] at c39
              refine W.seq ?_
              refine W.region ?_
              refine WL.c rfl (o_bldC (cs := [(.bool false), (.slice none 0 0), (.slice none 0 0)]) TI26 (Sizes.cons TI4 (Sizes.cons TI23 (Sizes.cons TI24 Sizes.nil))) rfl lnp rfl rfl ?_)
              refine WL.c rfl (o_mvh (show _ = Value.int _ _ from rfl) ?_)
              refine WL.c rfl (o_bldC (cs := [(.int .i64 150), _]) TI32 (Sizes.cons TI30 (Sizes.cons TI3 Sizes.nil)) rfl (lcp (show _ = Value.int _ _ from rfl) (lcp (show _ = Value.int _ _ from rfl) lnp)) rfl rfl ?_)
              refine WL.u (o_stA TI26 h2 (show _ = Value.agg ([.bool false, .slice none 0 0, .slice none 0 0]).toArray from rfl) rfl rfl (by assumption) rfl ?_)
              intro wp hBp hop hsp
              replace hC3 := hop.blk hC3 (by omega)
              replace hx := hx.trans' hop (fun _ h => h) (fun q hq he => by omega)
              refine WL.u (o_stA TI32 h3 rfl rfl rfl (by assumption) rfl ?_)
              intro wf hBf hof hsf
              replace hBp := hof.blk hBp (by omega)
              replace hx := hx.trans' hof (fun _ h => h) (fun q hq he => by omega)
              refine WL.nil ?_
              refine W.ret ?_
              refine retAA rfl TI26 rfl TI32 rfl (by first | exact h2 | rfl) (by first | exact h3 | rfl) (cells_all hBp) rfl (cells_all hBf) rfl ?_
              exact ⟨.slice none 0 0, .slice none 0 0, by rw [hQ, hA]; rfl, by rw [hQ]; exact World.ownsRow_nil _ _ _ _, by rw [hQ]; exact World.ownsRow_nil _ _ _ _, hx⟩
            · try simp only [decide_eq_true_eq, decide_eq_false_iff_not, Bool.not_eq_true', Bool.not_eq_false', Bool.and_eq_true, Bool.or_eq_true, Bool.and_eq_false_iff, Bool.or_eq_false_iff] at c39
              refine W.skip ?_
              refine W.region ?_
              refine WL.c rfl (o_addi h12 rfl (by omega) ?_)
              refine WL.c rfl (o_mvh (show _ = Value.int _ _ from rfl) ?_)
              refine WL.nil ?_
              refine ⟨⟨_ + 1, by omega, h0, h2, h3, rfl, hq1, hq2, rfl⟩, ?_⟩
              first
                | (show 2 - (1 : Int).toNat < _; rw [hm12]; simp [intOf])
                | (show 2 - (2 : Int).toNat < _; rw [hm12]; simp [intOf])
          · skip
            refine WL.g rfl (g30) rfl (o_mvh (show _ = Value.int _ _ from rfl) ?_)
            refine WL.g rfl (g30) rfl (o_eq rfl rfl ?_)
            refine WL.g rfl (g30) rfl (o_mvh (show _ = Value.bool _ from rfl) ?_)
            refine WL.sp 11 rfl (fun g33 => ?_) (fun g33 => ?_)
            · skip
              refine WL.g rfl (g33) rfl (o_mvh h0 ?_)
              refine WL.g rfl (g33) rfl (o_ix1 (i := 1) TI34 TI5 rfl rfl (by assumption) (by omega) ?_)
              refine WL.g rfl (g33) rfl (o_ld TI5 rfl rfl (by assumption) ?_)
              refine WL.g rfl (g33) rfl (o_gt rfl rfl ?_)
              refine WL.g rfl (g30) rfl (o_pickA rfl rfl ?_)
              refine WL.c rfl (o_pickO rfl rfl ?_)
              refine WL.nil ?_
              refine W.cond rfl (fun c39 => ?_) (fun c39 => ?_)
              · try simp only [decide_eq_true_eq, decide_eq_false_iff_not, Bool.not_eq_true', Bool.not_eq_false', Bool.and_eq_true, Bool.or_eq_true, Bool.and_eq_false_iff, Bool.or_eq_false_iff] at c39
                refine W.seq ?_
                refine W.region ?_
                refine WL.c rfl (o_bldC (cs := [(.bool false), (.slice none 0 0), (.slice none 0 0)]) TI26 (Sizes.cons TI4 (Sizes.cons TI23 (Sizes.cons TI24 Sizes.nil))) rfl lnp rfl rfl ?_)
                refine WL.c rfl (o_mvh (show _ = Value.int _ _ from rfl) ?_)
                refine WL.c rfl (o_bldC (cs := [(.int .i64 150), _]) TI32 (Sizes.cons TI30 (Sizes.cons TI3 Sizes.nil)) rfl (lcp (show _ = Value.int _ _ from rfl) (lcp (show _ = Value.int _ _ from rfl) lnp)) rfl rfl ?_)
                refine WL.u (o_stA TI26 h2 (show _ = Value.agg ([.bool false, .slice none 0 0, .slice none 0 0]).toArray from rfl) rfl rfl (by assumption) rfl ?_)
                intro wp hBp hop hsp
                replace hC3 := hop.blk hC3 (by omega)
                replace hx := hx.trans' hop (fun _ h => h) (fun q hq he => by omega)
                refine WL.u (o_stA TI32 h3 rfl rfl rfl (by assumption) rfl ?_)
                intro wf hBf hof hsf
                replace hBp := hof.blk hBp (by omega)
                replace hx := hx.trans' hof (fun _ h => h) (fun q hq he => by omega)
                refine WL.nil ?_
                refine W.ret ?_
                refine retAA rfl TI26 rfl TI32 rfl (by first | exact h2 | rfl) (by first | exact h3 | rfl) (cells_all hBp) rfl (cells_all hBf) rfl ?_
                exact ⟨.slice none 0 0, .slice none 0 0, by rw [hQ, hA]; rfl, by rw [hQ]; exact World.ownsRow_nil _ _ _ _, by rw [hQ]; exact World.ownsRow_nil _ _ _ _, hx⟩
              · try simp only [decide_eq_true_eq, decide_eq_false_iff_not, Bool.not_eq_true', Bool.not_eq_false', Bool.and_eq_true, Bool.or_eq_true, Bool.and_eq_false_iff, Bool.or_eq_false_iff] at c39
                refine W.skip ?_
                refine W.region ?_
                refine WL.c rfl (o_addi h12 rfl (by omega) ?_)
                refine WL.c rfl (o_mvh (show _ = Value.int _ _ from rfl) ?_)
                refine WL.nil ?_
                refine ⟨⟨_ + 1, by omega, h0, h2, h3, rfl, hq1, hq2, rfl⟩, ?_⟩
                first
                  | (show 2 - (1 : Int).toNat < _; rw [hm12]; simp [intOf])
                  | (show 2 - (2 : Int).toNat < _; rw [hm12]; simp [intOf])
            · skip
              refine WL.s rfl (g33) rfl ?_
              refine WL.s rfl (g33) rfl ?_
              refine WL.s rfl (g33) rfl ?_
              refine WL.s rfl (g33) rfl ?_
              refine WL.g rfl (g30) rfl (o_pickF rfl (g33) ?_)
              refine WL.c rfl (o_pickO rfl rfl ?_)
              refine WL.nil ?_
              refine W.cond rfl (fun c39 => ?_) (fun c39 => ?_)
              · try simp only [decide_eq_true_eq, decide_eq_false_iff_not, Bool.not_eq_true', Bool.not_eq_false', Bool.and_eq_true, Bool.or_eq_true, Bool.and_eq_false_iff, Bool.or_eq_false_iff] at c39
                refine W.seq ?_
                refine W.region ?_
                refine WL.c rfl (o_bldC (cs := [(.bool false), (.slice none 0 0), (.slice none 0 0)]) TI26 (Sizes.cons TI4 (Sizes.cons TI23 (Sizes.cons TI24 Sizes.nil))) rfl lnp rfl rfl ?_)
                refine WL.c rfl (o_mvh (show _ = Value.int _ _ from rfl) ?_)
                refine WL.c rfl (o_bldC (cs := [(.int .i64 150), _]) TI32 (Sizes.cons TI30 (Sizes.cons TI3 Sizes.nil)) rfl (lcp (show _ = Value.int _ _ from rfl) (lcp (show _ = Value.int _ _ from rfl) lnp)) rfl rfl ?_)
                refine WL.u (o_stA TI26 h2 (show _ = Value.agg ([.bool false, .slice none 0 0, .slice none 0 0]).toArray from rfl) rfl rfl (by assumption) rfl ?_)
                intro wp hBp hop hsp
                replace hC3 := hop.blk hC3 (by omega)
                replace hx := hx.trans' hop (fun _ h => h) (fun q hq he => by omega)
                refine WL.u (o_stA TI32 h3 rfl rfl rfl (by assumption) rfl ?_)
                intro wf hBf hof hsf
                replace hBp := hof.blk hBp (by omega)
                replace hx := hx.trans' hof (fun _ h => h) (fun q hq he => by omega)
                refine WL.nil ?_
                refine W.ret ?_
                refine retAA rfl TI26 rfl TI32 rfl (by first | exact h2 | rfl) (by first | exact h3 | rfl) (cells_all hBp) rfl (cells_all hBf) rfl ?_
                exact ⟨.slice none 0 0, .slice none 0 0, by rw [hQ, hA]; rfl, by rw [hQ]; exact World.ownsRow_nil _ _ _ _, by rw [hQ]; exact World.ownsRow_nil _ _ _ _, hx⟩
              · try simp only [decide_eq_true_eq, decide_eq_false_iff_not, Bool.not_eq_true', Bool.not_eq_false', Bool.and_eq_true, Bool.or_eq_true, Bool.and_eq_false_iff, Bool.or_eq_false_iff] at c39
                refine W.skip ?_
                refine W.region ?_
                refine WL.c rfl (o_addi h12 rfl (by omega) ?_)
                refine WL.c rfl (o_mvh (show _ = Value.int _ _ from rfl) ?_)
                refine WL.nil ?_
                refine ⟨⟨_ + 1, by omega, h0, h2, h3, rfl, hq1, hq2, rfl⟩, ?_⟩
                first
                  | (show 2 - (1 : Int).toNat < _; rw [hm12]; simp [intOf])
                  | (show 2 - (2 : Int).toNat < _; rw [hm12]; simp [intOf])
        · skip
          refine WL.s rfl (g24) rfl ?_
          refine WL.s rfl (g24) rfl ?_
          refine WL.s rfl (g24) rfl ?_
          refine WL.s rfl (g24) rfl ?_
          refine WL.c rfl (o_pickF rfl (g24) ?_)
          refine WL.c rfl (o_mvh (show _ = Value.bool _ from rfl) ?_)
          refine WL.g rfl (rfl) rfl (o_mvh (show _ = Value.int _ _ from rfl) ?_)
          refine WL.g rfl (rfl) rfl (o_eq rfl rfl ?_)
          refine WL.g rfl (rfl) rfl (o_mvh (show _ = Value.bool _ from rfl) ?_)
          refine WL.sp 11 rfl (fun g33 => ?_) (fun g33 => ?_)
          · skip
            refine WL.g rfl (g33) rfl (o_mvh h0 ?_)
            refine WL.g rfl (g33) rfl (o_ix1 (i := 1) TI34 TI5 rfl rfl (by assumption) (by omega) ?_)
            refine WL.g rfl (g33) rfl (o_ld TI5 rfl rfl (by assumption) ?_)
            refine WL.g rfl (g33) rfl (o_gt rfl rfl ?_)
            refine WL.g rfl (rfl) rfl (o_pickA rfl rfl ?_)
            refine WL.c rfl (o_pickO rfl rfl ?_)
            refine WL.nil ?_
            refine W.cond rfl (fun c39 => ?_) (fun c39 => ?_)
            · try simp only [decide_eq_true_eq, decide_eq_false_iff_not, Bool.not_eq_true', Bool.not_eq_false', Bool.and_eq_true, Bool.or_eq_true, Bool.and_eq_false_iff, Bool.or_eq_false_iff] at c39
              refine W.seq ?_
              refine W.region ?_
              refine WL.c rfl (o_bldC (cs := [(.bool false), (.slice none 0 0), (.slice none 0 0)]) TI26 (Sizes.cons TI4 (Sizes.cons TI23 (Sizes.cons TI24 Sizes.nil))) rfl lnp rfl rfl ?_)
              refine WL.c rfl (o_mvh (show _ = Value.int _ _ from rfl) ?_)
              refine WL.c rfl (o_bldC (cs := [(.int .i64 150), _]) TI32 (Sizes.cons TI30 (Sizes.cons TI3 Sizes.nil)) rfl (lcp (show _ = Value.int _ _ from rfl) (lcp (show _ = Value.int _ _ from rfl) lnp)) rfl rfl ?_)
              refine WL.u (o_stA TI26 h2 (show _ = Value.agg ([.bool false, .slice none 0 0, .slice none 0 0]).toArray from rfl) rfl rfl (by assumption) rfl ?_)
              intro wp hBp hop hsp
              replace hC3 := hop.blk hC3 (by omega)
              replace hx := hx.trans' hop (fun _ h => h) (fun q hq he => by omega)
              refine WL.u (o_stA TI32 h3 rfl rfl rfl (by assumption) rfl ?_)
              intro wf hBf hof hsf
              replace hBp := hof.blk hBp (by omega)
              replace hx := hx.trans' hof (fun _ h => h) (fun q hq he => by omega)
              refine WL.nil ?_
              refine W.ret ?_
              refine retAA rfl TI26 rfl TI32 rfl (by first | exact h2 | rfl) (by first | exact h3 | rfl) (cells_all hBp) rfl (cells_all hBf) rfl ?_
              exact ⟨.slice none 0 0, .slice none 0 0, by rw [hQ, hA]; rfl, by rw [hQ]; exact World.ownsRow_nil _ _ _ _, by rw [hQ]; exact World.ownsRow_nil _ _ _ _, hx⟩
            · try simp only [decide_eq_true_eq, decide_eq_false_iff_not, Bool.not_eq_true', Bool.not_eq_false', Bool.and_eq_true, Bool.or_eq_true, Bool.and_eq_false_iff, Bool.or_eq_false_iff] at c39
              refine W.skip ?_
              refine W.region ?_
              refine WL.c rfl (o_addi h12 rfl (by omega) ?_)
              refine WL.c rfl (o_mvh (show _ = Value.int _ _ from rfl) ?_)
              refine WL.nil ?_
              refine ⟨⟨_ + 1, by omega, h0, h2, h3, rfl, hq1, hq2, rfl⟩, ?_⟩
              first
                | (show 2 - (1 : Int).toNat < _; rw [hm12]; simp [intOf])
                | (show 2 - (2 : Int).toNat < _; rw [hm12]; simp [intOf])
          · skip
            refine WL.s rfl (g33) rfl ?_
            refine WL.s rfl (g33) rfl ?_
            refine WL.s rfl (g33) rfl ?_
            refine WL.s rfl (g33) rfl ?_
            refine WL.g rfl (rfl) rfl (o_pickF rfl (g33) ?_)
            refine WL.c rfl (o_pickO rfl rfl ?_)
            refine WL.nil ?_
            refine W.cond rfl (fun c39 => ?_) (fun c39 => ?_)
            · try simp only [decide_eq_true_eq, decide_eq_false_iff_not, Bool.not_eq_true', Bool.not_eq_false', Bool.and_eq_true, Bool.or_eq_true, Bool.and_eq_false_iff, Bool.or_eq_false_iff] at c39
              refine W.seq ?_
              refine W.region ?_
              refine WL.c rfl (o_bldC (cs := [(.bool false), (.slice none 0 0), (.slice none 0 0)]) TI26 (Sizes.cons TI4 (Sizes.cons TI23 (Sizes.cons TI24 Sizes.nil))) rfl lnp rfl rfl ?_)
              refine WL.c rfl (o_mvh (show _ = Value.int _ _ from rfl) ?_)
              refine WL.c rfl (o_bldC (cs := [(.int .i64 150), _]) TI32 (Sizes.cons TI30 (Sizes.cons TI3 Sizes.nil)) rfl (lcp (show _ = Value.int _ _ from rfl) (lcp (show _ = Value.int _ _ from rfl) lnp)) rfl rfl ?_)
              refine WL.u (o_stA TI26 h2 (show _ = Value.agg ([.bool false, .slice none 0 0, .slice none 0 0]).toArray from rfl) rfl rfl (by assumption) rfl ?_)
              intro wp hBp hop hsp
              replace hC3 := hop.blk hC3 (by omega)
              replace hx := hx.trans' hop (fun _ h => h) (fun q hq he => by omega)
              refine WL.u (o_stA TI32 h3 rfl rfl rfl (by assumption) rfl ?_)
              intro wf hBf hof hsf
              replace hBp := hof.blk hBp (by omega)
              replace hx := hx.trans' hof (fun _ h => h) (fun q hq he => by omega)
              refine WL.nil ?_
              refine W.ret ?_
              refine retAA rfl TI26 rfl TI32 rfl (by first | exact h2 | rfl) (by first | exact h3 | rfl) (cells_all hBp) rfl (cells_all hBf) rfl ?_
              exact ⟨.slice none 0 0, .slice none 0 0, by rw [hQ, hA]; rfl, by rw [hQ]; exact World.ownsRow_nil _ _ _ _, by rw [hQ]; exact World.ownsRow_nil _ _ _ _, hx⟩
            · try simp only [decide_eq_true_eq, decide_eq_false_iff_not, Bool.not_eq_true', Bool.not_eq_false', Bool.and_eq_true, Bool.or_eq_true, Bool.and_eq_false_iff, Bool.or_eq_false_iff] at c39
              refine W.skip ?_
              refine W.region ?_
              refine WL.c rfl (o_addi h12 rfl (by omega) ?_)
              refine WL.c rfl (o_mvh (show _ = Value.int _ _ from rfl) ?_)
              refine WL.nil ?_
              refine ⟨⟨_ + 1, by omega, h0, h2, h3, rfl, hq1, hq2, rfl⟩, ?_⟩
              first
                | (show 2 - (1 : Int).toNat < _; rw [hm12]; simp [intOf])
                | (show 2 - (2 : Int).toNat < _; rw [hm12]; simp [intOf])
  · try simp only [decide_eq_true_eq, decide_eq_false_iff_not, Bool.not_eq_true', Bool.not_eq_false', Bool.and_eq_true, Bool.or_eq_true, Bool.and_eq_false_iff, Bool.or_eq_false_iff] at c13
    obtain rfl : k = 2 := by omega
    obtain ⟨hl2, hg1⟩ := hk2 (by omega)
    obtain ⟨-, hg0⟩ := hk1 (by omega)
    have hh := hdr_zero hl2 hg0 hg1
    refine W.exit ?_
    refine W.seq ?_
    refine W.region ?_
    refine WL.c rfl (o_mvh h0 ?_)
    refine WL.c rfl (o_ix1 (i := 1) TI34 TI5 rfl rfl (hB.ext hx) (hl2) ?_)
    intro b45 o45 hc45 hb45
    refine WL.c rfl (o_ld TI5 rfl rfl (hc45.trans (getbv (show 1 < T.length from hl2))) ?_)
    refine WL.c rfl (o_eq rfl rfl ?_)
    refine WL.c rfl (o_bldC (cs := [_, (.slice none 0 0), (.slice none 0 0)]) TI26 (Sizes.cons TI4 (Sizes.cons TI23 (Sizes.cons TI24 Sizes.nil))) rfl (lcp (show Value.bool (decide ((T[1].toNat : Int) = 1)) = Value.bool (encS T) from congrArg Value.bool (by unfold encS; rw [getD8 (show 1 < T.length from hl2), Bool.eq_iff_iff, decide_eq_true_iff, decide_eq_true_iff, ← UInt8.toNat_inj]; show _ ↔ T[1].toNat = 1; omega)) lnp) rfl rfl ?_)
    refine WL.c rfl (o_alB TI26 ?_)
    intro wa hCa hxa hsa
    refine WL.u (o_stA TI26 rfl (show _ = Value.agg ([.bool (encS T), .slice none 0 0, .slice none 0 0]).toArray from rfl) rfl rfl hCa rfl ?_)
    intro wb5 hC5 hob hsb
    have hxb := Ext.own hxa (Nat.le_refl _) hob
    obtain ⟨b5, hb5⟩ : ∃ b, b = w.heap.size := ⟨_, rfl⟩
    rw [← hb5] at hC5 ⊢
    clear hCa hxa hsa hob hsb
    have hb35 : b3 < b5 := by have := (Array.getElem?_eq_some_iff.1 hC3).1; omega
    replace hC2 := hxb.blk hC2 (fun h => h)
    replace hC3 := hxb.blk hC3 (fun h => h)
    replace hx := hx.tr hxb
    clear hxb
    refine WL.nil ?_
    refine W.seq ?_
    refine W.region ?_
    refine WL.c rfl (o_mvh h0 ?_)
    refine WL.c rfl (o_bld TI70 (Sizes.cons TI34 (Sizes.cons TI3 (Sizes.cons TI32 Sizes.nil))) rfl rfl ?_)
    refine WL.c rfl (o_boxB rfl ?_)
    intro w51 hC51 hx51 hs51
    obtain ⟨b51, hb51⟩ : ∃ b, b = wb5.heap.size := ⟨_, rfl⟩
    rw [← hb51] at hC51 ⊢
    replace hC51 : w51.heap[b51]? = some (.cells ([.slice ta T.length tc, .int .i64 2, .int .i64 0, .int .i64 0]).toArray 70 (0, 0)) := hC51
    have hb551 : b5 < b51 := by have := (Array.getElem?_eq_some_iff.1 hC5).1; omega
    replace hC5 := hx51.blk hC5 (fun h => h)
    replace hC2 := hx51.blk hC2 (fun h => h)
    replace hC3 := hx51.blk hC3 (fun h => h)
    replace hx := hx.tr hx51
    have hRd : RdM w51 70 b51 ta tc T (.ok 2) := ⟨⟨2, 0, 0, hC51, rfl, rfl, rfl, hl2⟩, hB.ext hx⟩
    have hfar : FarB b51 ta T := RdM.far htl (by omega)
    obtain ⟨B51, hB51⟩ : ∃ B, B = w51.heap.size := ⟨_, rfl⟩
    have hbB : b51 < B51 := by rw [hB51]; exact hRd.lt
    clear hC51
    refine WL.c rfl (o_ash (by first | exact (show _ = Value.pointer _ from rfl) | exact rfl) ?_)
    refine WL.nil ?_
    refine W.seq ?_
    refine W.region ?_
    refine WL.c rfl (o_ash (by first | exact (show _ = Value.slice _ _ _ from rfl) | exact rfl) ?_)
    refine WL.c rfl (o_ash (by first | exact (show _ = Value.slice _ _ _ from rfl) | exact rfl) ?_)
    refine WL.nil ?_
    refine W.seq ?_
    refine W.seq ?_
    refine W.region ?_
    refine WL.c rfl (o_mvh (by first | exact (show _ = Value.pointer _ from rfl) | exact rfl) ?_)
    refine WL.c rfl (o_call Tryd.call30 (lc rfl (lc rfl (lc rfl ln))) ((number_spec b51 ta tc T (.ok 2) 1048576 4 _ hRd hfar hT (by decide)).mono ?_))
    rintro v53 w53 ⟨rfl, hRd2, ho53⟩
    have hle53 := numS_le T (.ok 2) 1048576 4
    rw [wr_eq (n := (numS T (.ok 2) 1048576 4).1) (by omega)]
    clear hRd
    have hRd := hRd2
    clear hRd2
    replace hC2 := ho53.blk hC2 (by omega)
    replace hC3 := ho53.blk hC3 (by omega)
    replace hC5 := ho53.blk hC5 (by omega)
    replace hx := hx.trans' ho53 (fun _ h => h) (fun q hq he => by omega)
    refine WL.c rfl (o_ash (show _ = Value.int _ _ from rfl) ?_)
    refine WL.nil ?_
    refine W.block ?_
    refine W.loop (fun e w => ∃ (n : Nat) (s : Rs) (es : List Int) (ps : List Nat) (evv tps : Value), n + es.length ≤ 1048576 ∧ ps.length = es.length ∧ entsS T n s es ps = decE T ∧ e 0 = .slice ta T.length tc ∧ e 2 = .pointer (some ⟨b2, 0, none⟩) ∧ e 3 = .pointer (some ⟨b3, 0, none⟩) ∧ e 5 = .pointer (some ⟨b5, 0, none⟩) ∧ e 6 = .pointer (some ⟨b51, 0, none⟩) ∧ e 7 = tps ∧ e 8 = .slice none 0 0 ∧ e 9 = .int .i64 (n : Int) ∧ RdM w 70 b51 ta tc T s ∧ w.heap[b5]? = some (.cells #[.bool (encS T), .slice none 0 0, evv] 26 (0, 0)) ∧ w.ownsRow B51 3 1 evv es.length (zs es) ∧ w.ownsRow B51 3 1 tps ps.length (ints ps) ∧ Dj tps evv ∧ B51 ≤ w.heap.size ∧ w.heap[b2]? = some (.cells ([.bool false, .slice none 0 0, .slice none 0 0]).toArray 26 (0, 0)) ∧ w.heap[b3]? = some (.cells ([.int .i64 0, .int .i64 0]).toArray 32 (0, 0)) ∧ Ext w0 w) (fun e w => (intOf (e 9)).toNat) ?_ ?_
    · exact ⟨_, _, [], [], .slice none 0 0, .slice none 0 0, by simpa using hle53, rfl, rfl, h0, h2, h3, rfl, rfl, rfl, rfl, rfl, hRd, hC5, World.ownsRow_nil _ _ _ _, World.ownsRow_nil _ _ _ _, Dj.none, by have := ho53.size; omega, hC2, hC3, hx⟩
    rintro e w ⟨n, s, es, ps, evv, tps, hnl, hpl, hE, h0, h2, h3, h5, h6, h7, h8, h9, hRd, hC5, hev, htp, hDj, hBw, hC2, hC3, hx⟩
    have hm9 := h9
    obtain ⟨a1, ee1, q1, hCb, hst⟩ := hRd.cell
    refine W.seq ?_
    refine W.seq ?_
    refine W.region ?_
    refine WL.cut (fun e1 w1 => e1 63 = .bool (decide (0 < n ∧ ee1 = 0)) ∧ e1 0 = .slice ta T.length tc ∧ e1 2 = .pointer (some ⟨b2, 0, none⟩) ∧ e1 3 = .pointer (some ⟨b3, 0, none⟩) ∧ e1 5 = .pointer (some ⟨b5, 0, none⟩) ∧ e1 6 = .pointer (some ⟨b51, 0, none⟩) ∧ e1 7 = tps ∧ e1 8 = .slice none 0 0 ∧ e1 9 = .int .i64 (n : Int) ∧ w1 = w) ?_ ?_
    · -- region 13
      refine WL.c rfl (o_mvh h9 ?_)
      refine WL.c rfl (o_gt rfl rfl ?_)
      refine WL.c rfl (o_mvh (show _ = Value.bool _ from rfl) ?_)
      refine WL.sp 2 rfl (fun g56 => ?_) (fun g56 => ?_)
      · skip
        refine WL.g rfl (g56) rfl (o_mvh h6 ?_)
        refine WL.g rfl (g56) rfl (o_nil rfl ?_)
        refine WL.g rfl (g56) rfl (o_fa 2 TI70 rfl TI32 rfl rfl ?_)
        refine WL.g rfl (g56) rfl (o_fa 0 TI32 rfl TI30 rfl rfl ?_)
        refine WL.g rfl (g56) rfl (o_ld TI30 rfl rfl (cell_of hCb rfl) ?_)
        refine WL.g rfl (g56) rfl (o_eq rfl rfl ?_)
        refine WL.c rfl (o_pickA rfl rfl ?_)
        exact WL.nil (⟨congrArg Value.bool (by rw [Bool.eq_iff_iff, decide_eq_true_iff]; first | (simp_all; done) | (simp_all; omega)), h0, h2, h3, h5, h6, h7, h8, h9, rfl⟩)
      · skip
        refine WL.s rfl (g56) rfl ?_
        refine WL.s rfl (g56) rfl ?_
        refine WL.s rfl (g56) rfl ?_
        refine WL.s rfl (g56) rfl ?_
        refine WL.s rfl (g56) rfl ?_
        refine WL.s rfl (g56) rfl ?_
        refine WL.c rfl (o_pickF rfl (g56) ?_)
        exact WL.nil (⟨congrArg Value.bool (by rw [Bool.eq_iff_iff, decide_eq_true_iff]; first | (simp_all; done) | (simp_all; omega)), h0, h2, h3, h5, h6, h7, h8, h9, rfl⟩)
    rintro e w ⟨h63, h0, h2, h3, h5, h6, h7, h8, h9, hw1⟩
    subst hw1
    refine W.cond h63 (fun c63 => ?_) (fun c63 => ?_)
    · try simp only [decide_eq_true_eq, decide_eq_false_iff_not, Bool.not_eq_true', Bool.not_eq_false', Bool.and_eq_true, Bool.or_eq_true, Bool.and_eq_false_iff, Bool.or_eq_false_iff] at c63
      obtain ⟨k, rfl⟩ := hst.okc.1 c63.2
      obtain ⟨n, rfl⟩ : ∃ m, n = m + 1 := ⟨n - 1, by omega⟩
      obtain ⟨rfl, -, -, hkl⟩ := hst
      refine W.skip ?_
      refine W.seq ?_
      refine W.block ?_
      refine W.seq ?_
      refine W.region ?_
      refine WL.c rfl (o_mvh h7 ?_)
      refine WL.c rfl (o_mvh h6 ?_)
      refine WL.c rfl (o_nil rfl ?_)
      refine WL.c rfl (o_fa 1 TI70 rfl TI3 rfl rfl ?_)
      refine WL.c rfl (o_ld TI3 rfl rfl (cell_of hCb rfl) ?_)
      refine WL.apO (B51) rfl rfl TI24 TI3 (show _ = Value.int _ _ from rfl) rfl htp (by decide) (by decide) rfl (one1 rfl) rfl (by rw [maxLen_eq]; omega) (by omega) hBw ?_
      intro v72 w72 h72 ho72 hb72 _hk72
      have hDj0 : ∀ q, tps.ownBlock = some q → ¬ evv.ownBlock = some q := hDj
      have htpl := fun q (hq : tps.ownBlock = some q) => (htp.lt q hq).1
      have hevl0 := fun q (hq : evv.ownBlock = some q) => (hev.lt q hq).2
      replace hDj : Dj v72 evv := Dj.step hDj hb72 (fun q hq => by have := hevl0 q hq; omega)
      replace hRd := hRd.row ho72 (fun hF => by have := htpl _ hF; omega) htl (fun q hq hF => by have := htpl q hF; omega)
      replace hC5 := ho72.blk hC5 (fun hF => by have := htpl _ hF; omega)
      replace hC2 := ho72.blk hC2 (fun hF => by have := htpl _ hF; omega)
      replace hC3 := ho72.blk hC3 (fun hF => by have := htpl _ hF; omega)
      replace hx := hx.trans' ho72 (fun _ h => h) (fun q hq hF => by have := htpl q hF; omega)
      replace hev := own_only hev ho72 (fun q hq hF => by first | exact hDj0 q hF hq | omega)
      replace hBw := Nat.le_trans hBw ho72.size
      clear htp
      have htp : w72.ownsRow B51 3 1 v72 (ps ++ [a1]).length (ints (ps ++ [a1])) := by rw [ints_snoc, List.length_append]; exact h72
      refine WL.c rfl (o_ash (by first | exact (show _ = Value.slice _ _ _ from rfl) | exact rfl) ?_)
      refine WL.nil ?_
      obtain ⟨wd, hwd⟩ : ∃ wd, wd = World.drew w72 := ⟨_, rfl⟩
      have hxd : Ext w72 wd := hwd ▸ Only.drew w72
      replace hRd := hRd.ext hxd
      replace hev := own_ext hev hxd
      replace htp := own_ext htp hxd
      replace hBw := Nat.le_trans hBw hxd.size
      replace hC5 := hxd.blk hC5 (fun h => h)
      replace hC2 := hxd.blk hC2 (fun h => h)
      replace hC3 := hxd.blk hC3 (fun h => h)
      replace hx := hx.tr hxd
      have hevL : ∀ q, evv.ownBlock = some q → B51 ≤ q := fun q hq => (hev.lt q hq).1
      have hevR : ∀ q, evv.ownBlock = some q → q < wd.heap.size := fun q hq => (hev.lt q hq).2
      have htpR : ∀ q, v72.ownBlock = some q → q < wd.heap.size := fun q hq => (htp.lt q hq).2
      have htpL : ∀ q, v72.ownBlock = some q → B51 ≤ q := fun q hq => (htp.lt q hq).1
      have hle9 := numS_le T (.ok a1) 2147483648 3
      refine W.drawF 6 [3, 5] [fun q => q = b51, fun q => evv.ownBlock = some q] [(0, fun v _ => v = ((Value.slice ta T.length tc))), (2, fun v _ => v = (Value.pointer (some ⟨b2, 0, none⟩))), (3, fun v _ => v = (Value.pointer (some ⟨b3, 0, none⟩))), (5, fun v _ => v = (Value.pointer (some ⟨b5, 0, none⟩))), (6, fun v _ => v = (Value.pointer (some ⟨b51, 0, none⟩))), (7, fun v _ => v = (v72)), (8, fun v _ => v = (Value.slice none 0 0)), (9, fun v _ => v = (Value.int .i64 ((n + 1 : Nat) : Int)))] rfl (by kernel_rfl) (by kernel_rfl) ⟨Mono.eq, Mono.eq, Mono.eq, Mono.eq, Mono.eq, Mono.eq, Mono.eq, Mono.eq, trivial⟩ ⟨h0, h2, h3, h5, h6, rfl, h8, h9, trivial⟩ ?_
      refine WDS.p rfl (by decide) (fun e w hR hh => by obtain ⟨h5, -⟩ := hh; exact SG.n (o_fa 2 TI26 rfl TI24 rfl h5 ⟨rfl, Only.refl No _⟩)) ?_
      refine WDS.p rfl (by decide) (fun e w hR hh => by obtain ⟨h73, -⟩ := hh; rw [← hwd] at hR; have hc := hR.blk hC5 (fun hF => by rcases hF with hF | hF | hF; omega; have := hevL _ hF; omega; exact hF.elim); exact SG.n (o_ld TI24 rfl h73 (cell_of hc rfl) ⟨rfl, Only.refl No _⟩)) ?_
      refine WDS.p rfl (by decide) (fun e w hR hh => by obtain ⟨h6, -⟩ := hh; exact SG.n (o_mvh h6 ⟨rfl, Only.refl No _⟩)) ?_
      refine WDS.mf 0 1 (fun v w => v = .int .i64 ((numS T (.ok a1) 2147483648 3).1 : Int) ∧ RdM w 70 b51 ta tc T ((numS T (.ok a1) 2147483648 3).2)) (fun v w w2 hR hh => ⟨hh.1, hh.2.row hR (fun hF => by rcases hF with hF | hF; have := hevL _ hF; omega; exact hF.elim) htl (fun q hq hF => by rcases hF with hF | hF; have := hevL _ hF; omega; exact hF.elim)⟩) (by kernel_rfl) rfl rfl rfl (fun e w hR hW hh => by obtain ⟨h75, -⟩ := hh; rw [← hwd] at hR hW; have hW2 : Ext wd w := hW.mono (fun _ _ hF => hF); exact SGX.n (OP.x (o_call Tryd.call30 (lc h75 (lc rfl (lc rfl ln))) ((number_spec b51 ta tc T (.ok a1) 2147483648 3 _ (hRd.ext hW2) hfar hT (by decide)).mono (fun v w' hh => ⟨⟨by rw [hh.1, wr_eq (by omega)], hh.2.1⟩, hh.2.2⟩))))) ?_
      refine WDS.q 1 (fun v w => w.ownsRow wd.heap.size 3 1 v 1 [.int .i64 ((numS T (.ok a1) 2147483648 3).1 : Int)] ∧ RdM w 70 b51 ta tc T ((numS T (.ok a1) 2147483648 3).2)) (fun v w w2 hR hh => ⟨own_only hh.1 hR (fun q hq hF => by have := (hh.1.lt q hq).1; rcases hF with hF | hF; have := hevR _ hF; omega; exact hF.elim), hh.2.row hR (fun hF => by rcases hF with hF | hF; have := hevL _ hF; omega; exact hF.elim) htl (fun q hq hF => by rcases hF with hF | hF; have := hevL _ hF; omega; exact hF.elim)⟩) (by kernel_rfl) rfl (by decide) (fun e w hR hh => by obtain ⟨h76, -⟩ := hh; rw [← hwd] at hR; exact SG.n (o_bs1 TI24 TI3 (show _ = Value.int .i64 ((numS T (.ok a1) 2147483648 3).1 : Int) from h76.1) (by decide) (by decide) rfl ⟨⟨own_mono (own_new1 rfl) hR.size, h76.2.ext (Only.alloc w _)⟩, Only.alloc w _⟩)) ?_
      refine WDS.mf 1 2 (fun v w => w.ownsRow B51 3 1 v (es.length + 1) (zs es ++ [.int .i64 ((numS T (.ok a1) 2147483648 3).1 : Int)]) ∧ (v.ownBlock = evv.ownBlock ∨ ∃ g, wd.heap.size ≤ g ∧ v.ownBlock = some g) ∧ RdM w 70 b51 ta tc T ((numS T (.ok a1) 2147483648 3).2)) (fun v w w2 hR hh => ⟨own_ext hh.1 hR, hh.2.1, hh.2.2.ext hR⟩) (by kernel_rfl) rfl rfl rfl (fun e w hR hW hh => by obtain ⟨h77, h74, -⟩ := hh; rw [← hwd] at hR hW; have hsz := hR.size; have hW2 : Only (fun q => q = b51) wd w := hW.mono (fun q _ hF => by rcases hF with hF | hF; exact hF; exact hF.elim); have hevw := own_only hev hW2 (fun q hq hF => by have := hevL q hq; omega); exact SGX.n (OP.x (o_apO B51 TI24 TI3 (show _ = evv from h74) rfl hevw (Sl.own h77.1) rfl (by decide) (one_all rfl) (by rw [maxLen_eq]; omega) (by omega) (by omega) (fun v' w' h1 h2 h3 h4 => ⟨⟨h1, h3.imp id (fun h => ⟨_, hsz, h⟩), h77.2.row h2 (fun hF => by have := hevL _ hF; omega) htl (fun q hq hF => by have := hevL _ hF; omega)⟩, h2⟩)))) ?_
      rintro e w hR ⟨h78, h77, h76, h75, h74, h73, h0, h2, h3, h5, h6, h7, h8, h9, -⟩
      rw [← hwd] at hR
      obtain ⟨h78a, h78b, h78c⟩ := h78
      obtain ⟨v78, hv78⟩ : ∃ v, v = e 78 := ⟨_, rfl⟩
      rw [← hv78] at h78a h78b
      clear hRd
      have hRd := h78c
      have hR1 : Only (fun q => q = b51 ∨ evv.ownBlock = some q) wd w := hR.mono (fun q _ hF => by rcases hF with hF | hF | hF; exact .inl hF; exact .inr hF; exact hF.elim)
      replace hC5 := hR1.blk hC5 (fun hF => by rcases hF with hF | hF; omega; have := hevL _ hF; omega)
      replace hC2 := hR1.blk hC2 (fun hF => by rcases hF with hF | hF; omega; have := hevL _ hF; omega)
      replace hC3 := hR1.blk hC3 (fun hF => by rcases hF with hF | hF; omega; have := hevL _ hF; omega)
      replace htp := own_only htp hR1 (fun q hq hF => by rcases hF with hF | hF; have := htpL q hq; omega; exact hDj q hq hF)
      replace hDj : Dj v72 v78 := fun q hq hF => by rcases h78b with hb | ⟨g, hg, hb⟩; rw [hb] at hF; exact hDj q hq hF; rw [hb] at hF; cases hF; have := htpR q hq; omega
      replace hx := hx.trans' hR1 (fun _ h => h) (fun q hq hF => by rcases hF with hF | hF; omega; have := hevL _ hF; omega)
      replace hBw := Nat.le_trans hBw hR1.size
      clear hev
      have hev : World.ownsRow w B51 3 1 v78 (es ++ [((numS T (.ok a1) 2147483648 3).1 : Int)]).length (zs (es ++ [((numS T (.ok a1) 2147483648 3).1 : Int)])) := by rw [zs_snoc, List.length_append]; exact h78a
      refine WL.c rfl (o_fa 2 TI26 rfl TI24 rfl h5 ?_)
      refine WL.u (o_stB TI24 rfl (show _ = v78 from hv78.symm) (own_one hev) hC5 (show 2 < 3 by decide) ?_)
      intro w79 hB79 ho79 hs79
      replace hB79 : w79.heap[b5]? = some (.cells #[.bool (encS T), .slice none 0 0, v78] 26 (0, 0)) := hB79
      replace hRd := hRd.new ho79 (by omega) htl (by omega)
      have hevL2 : ∀ q, v78.ownBlock = some q → B51 ≤ q := fun q hq => (hev.lt q hq).1
      replace hev := own_only hev ho79 (fun q hq he => by have := hevL2 q hq; omega)
      replace htp := own_only htp ho79 (fun q hq he => by have := htpL q hq; omega)
      replace hC2 := ho79.blk hC2 (by omega)
      replace hC3 := ho79.blk hC3 (by omega)
      replace hx := hx.trans' ho79 (fun _ h => h) (fun q hq he => by omega)
      replace hBw := Nat.le_trans hBw ho79.size
      clear hC5
      have hC5 := hB79
      refine WL.nil ?_
      refine W.region ?_
      refine WL.c rfl (o_mvh h9 ?_)
      refine WL.c rfl (o_subi rfl rfl (by omega) ?_)
      refine WL.c rfl (o_ash (show _ = Value.int _ _ from rfl) ?_)
      refine WL.nil ?_
      refine ⟨⟨n, _, es ++ [((numS T (.ok a1) 2147483648 3).1 : Int)], ps ++ [a1], v78, v72, by rw [List.length_append, List.length_singleton]; omega, by rw [List.length_append, List.length_append, hpl]; rfl, hE, h0, h2, h3, h5, h6, h7, h8, by show Value.int _ _ = Value.int _ _; congr 1; omega, hRd, hC5, hev, htp, hDj, hBw, hC2, hC3, hx⟩, ?_⟩
      show (((n + 1 : Nat) : Int) - 1).toNat < _
      rw [hm9]; simp [intOf] <;> omega
    · try simp only [decide_eq_true_eq, decide_eq_false_iff_not, Bool.not_eq_true', Bool.not_eq_false', Bool.and_eq_true, Bool.or_eq_true, Bool.and_eq_false_iff, Bool.or_eq_false_iff] at c63
      have hE0 : decE T = (s, es, ps) := by rw [← hE]; exact entsS_end (fun h => c63 ⟨h.1, hst.okc.2 h.2⟩)
      refine W.exit ?_
      refine W.seq ?_
      refine W.seq ?_
      refine W.region ?_
      refine WL.c rfl (o_mvh h6 ?_)
      refine WL.c rfl (o_call Tryd.call30 (lc rfl (lc rfl (lc rfl ln))) ((number_spec b51 ta tc T s 1048576 4 _ hRd hfar hT (by decide)).mono ?_))
      have hB2c := hRd
      rintro v81 w81 ⟨rfl, hRd2, ho81⟩
      have hle81 := numS_le T s 1048576 4
      rw [wr_eq (n := (numS T s 1048576 4).1) (by omega)]
      clear hRd
      have hRd := hRd2
      clear hRd2
      replace hC2 := ho81.blk hC2 (by omega)
      replace hC3 := ho81.blk hC3 (by omega)
      replace hC5 := ho81.blk hC5 (by omega)
      replace hx := hx.trans' ho81 (fun _ h => h) (fun q hq he => by omega)
      replace hev := own_only hev ho81 (fun q hq he => by have := (hev.lt q hq).1; omega)
      replace htp := own_only htp ho81 (fun q hq he => by have := (htp.lt q hq).1; omega)
      replace hBw := Nat.le_trans hBw ho81.size
      obtain ⟨B3, hB3⟩ : ∃ B, B = w81.heap.size := ⟨_, rfl⟩
      have hevB : ∀ q, evv.ownBlock = some q → B51 ≤ q ∧ q < B3 := fun q hq => by rw [hB3]; exact hev.lt q hq
      have htpB : ∀ q, tps.ownBlock = some q → B51 ≤ q ∧ q < B3 := fun q hq => by rw [hB3]; exact htp.lt q hq
      have hB513 : B51 ≤ B3 := by omega
      have hI00 : inssS (encS T) T (numS T s 1048576 4).1 (numS T s 1048576 4).2 [] [] = decI (encS T) T := by unfold decI; rw [hE0]
      refine WL.c rfl (o_ash (show _ = Value.int _ _ from rfl) ?_)
      refine WL.nil ?_
      refine W.block ?_
      refine W.loop (fun e w => ∃ (n : Nat) (s : Rs) (L L0 : List Ins) (qs : List Nat) (cvv pls : Value), n + L.length ≤ 1048576 ∧ qs.length = L.length ∧ inssS (encS T) T n s L0 qs = decI (encS T) T ∧ ((∃ k, s = .ok k) → L0 = L) ∧ e 0 = .slice ta T.length tc ∧ e 2 = .pointer (some ⟨b2, 0, none⟩) ∧ e 3 = .pointer (some ⟨b3, 0, none⟩) ∧ e 5 = .pointer (some ⟨b5, 0, none⟩) ∧ e 6 = .pointer (some ⟨b51, 0, none⟩) ∧ e 7 = tps ∧ e 8 = pls ∧ e 10 = .int .i64 (n : Int) ∧ RdM w 70 b51 ta tc T s ∧ w.heap[b5]? = some (.cells #[.bool (encS T), cvv, evv] 26 (0, 0)) ∧ w.ownsRow B51 28 4 cvv L.length (inss L) ∧ w.ownsRow B51 3 1 evv es.length (zs es) ∧ w.ownsRow B51 3 1 tps ps.length (ints ps) ∧ w.ownsRow B3 3 1 pls qs.length (ints qs) ∧ B3 ≤ w.heap.size ∧ w.heap[b2]? = some (.cells ([.bool false, .slice none 0 0, .slice none 0 0]).toArray 26 (0, 0)) ∧ w.heap[b3]? = some (.cells ([.int .i64 0, .int .i64 0]).toArray 32 (0, 0)) ∧ Ext w0 w) (fun e w => (intOf (e 10)).toNat) ?_ ?_
      · exact ⟨_, _, [], [], [], .slice none 0 0, .slice none 0 0, by simpa using hle81, rfl, hI00, fun _ => rfl, h0, h2, h3, h5, h6, h7, h8, rfl, hRd, hC5, World.ownsRow_nil _ _ _ _, hev, htp, World.ownsRow_nil _ _ _ _, by omega, hC2, hC3, hx⟩
      rintro e w ⟨n, s, L, L0, qs, cvv, pls, hnl, hql, hI, hLL, h0, h2, h3, h5, h6, h7, h8, h10, hRd, hC5, hcv, hev, htp, hpq, hBw, hC2, hC3, hx⟩
      have hm10 := h10
      obtain ⟨a1, ee1, q1, hCb, hst⟩ := hRd.cell
      refine W.seq ?_
      refine W.seq ?_
      refine W.region ?_
      refine WL.cut (fun e1 w1 => e1 91 = .bool (decide (0 < n ∧ ee1 = 0)) ∧ e1 0 = .slice ta T.length tc ∧ e1 2 = .pointer (some ⟨b2, 0, none⟩) ∧ e1 3 = .pointer (some ⟨b3, 0, none⟩) ∧ e1 5 = .pointer (some ⟨b5, 0, none⟩) ∧ e1 6 = .pointer (some ⟨b51, 0, none⟩) ∧ e1 7 = tps ∧ e1 8 = pls ∧ e1 10 = .int .i64 (n : Int) ∧ w1 = w) ?_ ?_
      · -- region 18
        refine WL.c rfl (o_mvh h10 ?_)
        refine WL.c rfl (o_gt rfl rfl ?_)
        refine WL.c rfl (o_mvh (show _ = Value.bool _ from rfl) ?_)
        refine WL.sp 2 rfl (fun g84 => ?_) (fun g84 => ?_)
        · skip
          refine WL.g rfl (g84) rfl (o_mvh h6 ?_)
          refine WL.g rfl (g84) rfl (o_nil rfl ?_)
          refine WL.g rfl (g84) rfl (o_fa 2 TI70 rfl TI32 rfl rfl ?_)
          refine WL.g rfl (g84) rfl (o_fa 0 TI32 rfl TI30 rfl rfl ?_)
          refine WL.g rfl (g84) rfl (o_ld TI30 rfl rfl (cell_of hCb rfl) ?_)
          refine WL.g rfl (g84) rfl (o_eq rfl rfl ?_)
          refine WL.c rfl (o_pickA rfl rfl ?_)
          exact WL.nil (⟨congrArg Value.bool (by rw [Bool.eq_iff_iff, decide_eq_true_iff]; first | (simp_all; done) | (simp_all; omega)), h0, h2, h3, h5, h6, h7, h8, h10, rfl⟩)
        · skip
          refine WL.s rfl (g84) rfl ?_
          refine WL.s rfl (g84) rfl ?_
          refine WL.s rfl (g84) rfl ?_
          refine WL.s rfl (g84) rfl ?_
          refine WL.s rfl (g84) rfl ?_
          refine WL.s rfl (g84) rfl ?_
          refine WL.c rfl (o_pickF rfl (g84) ?_)
          exact WL.nil (⟨congrArg Value.bool (by rw [Bool.eq_iff_iff, decide_eq_true_iff]; first | (simp_all; done) | (simp_all; omega)), h0, h2, h3, h5, h6, h7, h8, h10, rfl⟩)
      rintro e w ⟨h91, h0, h2, h3, h5, h6, h7, h8, h10, hw1⟩
      subst hw1
      refine W.cond h91 (fun c91 => ?_) (fun c91 => ?_)
      · try simp only [decide_eq_true_eq, decide_eq_false_iff_not, Bool.not_eq_true', Bool.not_eq_false', Bool.and_eq_true, Bool.or_eq_true, Bool.and_eq_false_iff, Bool.or_eq_false_iff] at c91
        obtain ⟨k, rfl⟩ := hst.okc.1 c91.2
        obtain ⟨n, rfl⟩ : ∃ m, n = m + 1 := ⟨n - 1, by omega⟩
        obtain ⟨rfl, -, -, hkl⟩ := hst
        refine W.skip ?_
        refine W.seq ?_
        refine W.block ?_
        refine W.seq ?_
        refine W.region ?_
        refine WL.c rfl (o_mvh h8 ?_)
        refine WL.c rfl (o_mvh h6 ?_)
        refine WL.c rfl (o_nil rfl ?_)
        refine WL.c rfl (o_fa 1 TI70 rfl TI3 rfl rfl ?_)
        refine WL.c rfl (o_ld TI3 rfl rfl (cell_of hCb rfl) ?_)
        refine WL.ap1 (B3) rfl rfl TI24 TI3 (show _ = Value.int _ _ from rfl) rfl hpq (by decide) (by decide) rfl (one_all (by first | rfl | decide)) rfl (by rw [maxLen_eq]; omega) (by omega) hBw ?_
        intro v100 w100 h100 ho100
        have hpl := fun q (hq : pls.ownBlock = some q) => (hpq.lt q hq).1
        replace hRd := hRd.row ho100 (fun hF => by have := hpl _ hF; omega) htl (fun q hq hF => by have := hpl q hF; omega)
        replace hC5 := ho100.blk hC5 (fun hF => by have := hpl _ hF; omega)
        replace hC2 := ho100.blk hC2 (fun hF => by have := hpl _ hF; omega)
        replace hC3 := ho100.blk hC3 (fun hF => by have := hpl _ hF; omega)
        replace hx := hx.trans' ho100 (fun _ h => h) (fun q hq hF => by have := hpl q hF; omega)
        replace hcv := own_only hcv ho100 (fun q hq hF => own_row_off hpq hcv (by decide) q hq hF)
        replace hev := own_only hev ho100 (fun q hq hF => by have := hpl q hF; have := hevB q hq; omega)
        replace htp := own_only htp ho100 (fun q hq hF => by have := hpl q hF; have := htpB q hq; omega)
        replace hBw := Nat.le_trans hBw ho100.size
        clear hpq
        have hpq : w100.ownsRow B3 3 1 v100 (qs ++ [a1]).length (ints (qs ++ [a1])) := by rw [ints_snoc, List.length_append]; exact h100
        refine WL.c rfl (o_ash (by first | exact (show _ = Value.slice _ _ _ from rfl) | exact rfl) ?_)
        refine WL.nil ?_
        obtain ⟨wd, hwd⟩ : ∃ wd, wd = World.drew w100 := ⟨_, rfl⟩
        have hxd : Ext w100 wd := hwd ▸ Only.drew w100
        replace hRd := hRd.ext hxd
        replace hcv := own_ext hcv hxd
        replace hev := own_ext hev hxd
        replace htp := own_ext htp hxd
        replace hpq := own_ext hpq hxd
        replace hBw := Nat.le_trans hBw hxd.size
        replace hC5 := hxd.blk hC5 (fun h => h)
        replace hC2 := hxd.blk hC2 (fun h => h)
        replace hC3 := hxd.blk hC3 (fun h => h)
        replace hx := hx.tr hxd
        have hcvL : ∀ q, cvv.ownBlock = some q → B51 ≤ q := fun q hq => (hcv.lt q hq).1
        have hcvR : ∀ q, cvv.ownBlock = some q → q < wd.heap.size := fun q hq => (hcv.lt q hq).2
        have hpqL : ∀ q, v100.ownBlock = some q → B3 ≤ q := fun q hq => (hpq.lt q hq).1
        have hcve : ∀ q, evv.ownBlock = some q → ¬ cvv.ownBlock = some q := fun q hq hF => own_row_off hcv hev (by decide) q hq hF
        have hcvt : ∀ q, tps.ownBlock = some q → ¬ cvv.ownBlock = some q := fun q hq hF => own_row_off hcv htp (by decide) q hq hF
        have hcvp : ∀ q, v100.ownBlock = some q → ¬ cvv.ownBlock = some q := fun q hq hF => own_row_off hcv hpq (by decide) q hq hF
        refine W.drawF 7 [4, 6] [fun q => q = b51, fun q => cvv.ownBlock = some q] [(0, fun v _ => v = ((Value.slice ta T.length tc))), (2, fun v _ => v = (Value.pointer (some ⟨b2, 0, none⟩))), (3, fun v _ => v = (Value.pointer (some ⟨b3, 0, none⟩))), (5, fun v _ => v = (Value.pointer (some ⟨b5, 0, none⟩))), (6, fun v _ => v = (Value.pointer (some ⟨b51, 0, none⟩))), (7, fun v _ => v = (tps)), (8, fun v _ => v = (v100)), (10, fun v _ => v = (Value.int .i64 ((n + 1 : Nat) : Int)))] rfl (by kernel_rfl) (by kernel_rfl) ⟨Mono.eq, Mono.eq, Mono.eq, Mono.eq, Mono.eq, Mono.eq, Mono.eq, Mono.eq, trivial⟩ ⟨h0, h2, h3, h5, h6, h7, rfl, h10, trivial⟩ ?_
        refine WDS.p rfl (by decide) (fun e w hR hh => by obtain ⟨h5, -⟩ := hh; exact SG.n (o_fa 1 TI26 rfl TI23 rfl h5 ⟨rfl, Only.refl No _⟩)) ?_
        refine WDS.p rfl (by decide) (fun e w hR hh => by obtain ⟨h101, -⟩ := hh; rw [← hwd] at hR; have hc := hR.blk hC5 (fun hF => by rcases hF with hF | hF | hF; omega; have := hcvL _ hF; omega; exact hF.elim); exact SG.n (o_ld TI23 rfl h101 (cell_of hc rfl) ⟨rfl, Only.refl No _⟩)) ?_
        refine WDS.p rfl (by decide) (fun e w hR hh => by obtain ⟨h6, -⟩ := hh; exact SG.n (o_mvh h6 ⟨rfl, Only.refl No _⟩)) ?_
        refine WDS.p rfl (by decide) (fun e w hR hh => by obtain ⟨h5, -⟩ := hh; rw [← hwd] at hR; have hc := hR.blk hC5 (fun hF => by rcases hF with hF | hF | hF; omega; have := hcvL _ hF; omega; exact hF.elim); exact SG.n (o_ldA TI26 rfl h5 (show Cells _ b5 0 (pgV ⟨encS T, [], []⟩ cvv evv) from Cells.of hc 0 _ (by simp [pgV])) rfl ⟨rfl, Only.refl No _⟩)) ?_
        refine WDS.mf 0 1 (fun v w => ∃ x, v = .agg (insV x).toArray ∧ RdM w 70 b51 ta tc T (insS (encS T) T a1).2 ∧ ((insS (encS T) T a1).2.good = true → x = (insS (encS T) T a1).1)) (fun v w w2 hR hh => by obtain ⟨x, h1, h2, h3⟩ := hh; exact ⟨x, h1, h2.row hR (fun hF => by rcases hF with hF | hF; have := hcvL _ hF; omega; exact hF.elim) htl (fun q hq hF => by rcases hF with hF | hF; have := hcvL _ hF; omega; exact hF.elim), h3⟩) (by kernel_rfl) rfl rfl rfl (fun e w hR hW hh => by obtain ⟨h104, h103, -⟩ := hh; rw [← hwd] at hR hW; have hW2 : Ext wd w := hW.mono (fun _ _ hF => hF); exact SGX.n (OP.x (o_call Tryd.call31 (lc h103 (lc h104 ln)) ((instr_spec b51 ta tc T a1 w (hRd.ext hW2) hfar hT ⟨encS T, [], []⟩ cvv evv).mono (fun v w' hh => by obtain ⟨x, h1, h2, h3, h4⟩ := hh; exact ⟨⟨x, h1, h2, h3⟩, h4⟩))))) ?_
        refine WDS.q 1 (fun v w => ∃ x, w.ownsRow wd.heap.size 28 4 v 1 (insV x) ∧ RdM w 70 b51 ta tc T (insS (encS T) T a1).2 ∧ ((insS (encS T) T a1).2.good = true → x = (insS (encS T) T a1).1)) (fun v w w2 hR hh => by obtain ⟨x, h1, h2, h3⟩ := hh; exact ⟨x, own_only h1 hR (fun q hq hF => by have := (h1.lt q hq).1; rcases hF with hF | hF; have := hcvR _ hF; omega; exact hF.elim), h2.row hR (fun hF => by rcases hF with hF | hF; have := hcvL _ hF; omega; exact hF.elim) htl (fun q hq hF => by rcases hF with hF | hF; have := hcvL _ hF; omega; exact hF.elim), h3⟩) (by kernel_rfl) rfl (by decide) (fun e w hR hh => by obtain ⟨h105, -⟩ := hh; rw [← hwd] at hR; obtain ⟨x6, hx1, hx2, hx3⟩ := h105; exact SG.n (o_bs1 TI23 TI28 hx1 (by decide) (by decide) rfl ⟨⟨x6, own_mono (own_new1 rfl) hR.size, hx2.ext (Only.alloc w _), hx3⟩, Only.alloc w _⟩)) ?_
        refine WDS.mf 1 2 (fun v w => ∃ x, w.ownsRow B51 28 4 v (L.length + 1) (inss L ++ insV x) ∧ RdM w 70 b51 ta tc T (insS (encS T) T a1).2 ∧ ((insS (encS T) T a1).2.good = true → x = (insS (encS T) T a1).1)) (fun v w w2 hR hh => by obtain ⟨x, h1, h2, h3⟩ := hh; exact ⟨x, own_ext h1 hR, h2.ext hR, h3⟩) (by kernel_rfl) rfl rfl rfl (fun e w hR hW hh => by obtain ⟨h106, h102, -⟩ := hh; rw [← hwd] at hR hW; obtain ⟨x6, hx1, hx2, hx3⟩ := h106; have hsz := hR.size; have hW2 : Only (fun q => q = b51) wd w := hW.mono (fun q _ hF => by rcases hF with hF | hF; exact hF; exact hF.elim); have hcvw := own_only hcv hW2 (fun q hq he => by have := hcvL q hq; omega); exact SGX.n (OP.x (o_apO B51 TI23 TI28 (show _ = cvv from h102) rfl hcvw (Sl.own hx1) rfl (by decide) (one_all rfl) (by rw [maxLen_eq]; omega) (by omega) (by omega) (fun v' w' h1 h2 h3 h4 => ⟨⟨x6, h1, hx2.row h2 (fun hF => by have := hcvL _ hF; omega) htl (fun q hq hF => by have := hcvL _ hF; omega), hx3⟩, h2⟩)))) ?_
        rintro e w hR ⟨h107, h106, h105, h104, h103, h102, h101, h0, h2, h3, h5, h6, h7, h8, h10, -⟩
        rw [← hwd] at hR
        obtain ⟨xi, h107a, h107b, hxg⟩ := h107
        obtain ⟨v107, hv107⟩ : ∃ v, v = e 107 := ⟨_, rfl⟩
        rw [← hv107] at h107a
        clear hRd
        have hRd := h107b
        have hR1 : Only (fun q => q = b51 ∨ cvv.ownBlock = some q) wd w := hR.mono (fun q _ hF => by rcases hF with hF | hF | hF; exact .inl hF; exact .inr hF; exact hF.elim)
        replace hC5 := hR1.blk hC5 (fun hF => by rcases hF with hF | hF; omega; have := hcvL _ hF; omega)
        replace hC2 := hR1.blk hC2 (fun hF => by rcases hF with hF | hF; omega; have := hcvL _ hF; omega)
        replace hC3 := hR1.blk hC3 (fun hF => by rcases hF with hF | hF; omega; have := hcvL _ hF; omega)
        replace hev := own_only hev hR1 (fun q hq hF => by rcases hF with hF | hF; have := hevB q hq; omega; exact hcve q hq hF)
        replace htp := own_only htp hR1 (fun q hq hF => by rcases hF with hF | hF; have := htpB q hq; omega; exact hcvt q hq hF)
        replace hpq := own_only hpq hR1 (fun q hq hF => by rcases hF with hF | hF; have := hpqL q hq; omega; exact hcvp q hq hF)
        replace hx := hx.trans' hR1 (fun _ h => h) (fun q hq hF => by rcases hF with hF | hF; omega; have := hcvL _ hF; omega)
        replace hBw := Nat.le_trans hBw hR1.size
        clear hcv
        have hcv : World.ownsRow w B51 28 4 v107 (L ++ [xi]).length (inss (L ++ [xi])) := by rw [inss_snoc, List.length_append]; exact h107a
        refine WL.c rfl (o_fa 1 TI26 rfl TI23 rfl h5 ?_)
        refine WL.u (o_stB TI23 rfl (show _ = v107 from hv107.symm) (own_one hcv) hC5 (show 1 < 3 by decide) ?_)
        intro w108 hB108 ho108 hs108
        replace hB108 : w108.heap[b5]? = some (.cells #[.bool (encS T), v107, evv] 26 (0, 0)) := hB108
        replace hRd := hRd.new ho108 (by omega) htl (by omega)
        have hcvL2 : ∀ q, v107.ownBlock = some q → B51 ≤ q := fun q hq => (hcv.lt q hq).1
        replace hcv := own_only hcv ho108 (fun q hq he => by have := hcvL2 q hq; omega)
        replace hev := own_only hev ho108 (fun q hq he => by have := hevB q hq; omega)
        replace htp := own_only htp ho108 (fun q hq he => by have := htpB q hq; omega)
        replace hpq := own_only hpq ho108 (fun q hq he => by have := hpqL q hq; omega)
        replace hC2 := ho108.blk hC2 (by omega)
        replace hC3 := ho108.blk hC3 (by omega)
        replace hx := hx.trans' ho108 (fun _ h => h) (fun q hq he => by omega)
        replace hBw := Nat.le_trans hBw ho108.size
        clear hC5
        have hC5 := hB108
        refine WL.nil ?_
        refine W.region ?_
        refine WL.c rfl (o_mvh h10 ?_)
        refine WL.c rfl (o_subi rfl rfl (by omega) ?_)
        refine WL.c rfl (o_ash (show _ = Value.int _ _ from rfl) ?_)
        refine WL.nil ?_
        refine ⟨⟨n, _, L ++ [xi], L0 ++ [(insS (encS T) T a1).1], qs ++ [a1], v107, v100, by rw [List.length_append, List.length_singleton]; omega, by rw [List.length_append, List.length_append, hql]; rfl, hI, fun hg => by rw [hLL ⟨a1, rfl⟩, hxg (by obtain ⟨k, hk⟩ := hg; rw [hk]; rfl)], h0, h2, h3, h5, h6, h7, h8, by show Value.int _ _ = Value.int _ _; congr 1; omega, hRd, hC5, hcv, hev, htp, hpq, hBw, hC2, hC3, hx⟩, ?_⟩
        show (((n + 1 : Nat) : Int) - 1).toNat < _
        rw [hm10]; simp [intOf] <;> omega
      · try simp only [decide_eq_true_eq, decide_eq_false_iff_not, Bool.not_eq_true', Bool.not_eq_false', Bool.and_eq_true, Bool.or_eq_true, Bool.and_eq_false_iff, Bool.or_eq_false_iff] at c91
        have hI0 : decI (encS T) T = (s, L0, qs) := by rw [← hI]; exact inssS_end (fun h => c91 ⟨h.1, hst.okc.2 h.2⟩)
        refine W.exit ?_
        refine W.seq ?_
        refine W.seq ?_
        obtain ⟨a2, ee2, q2, hCb, hst⟩ := hRd.cell
        have hI1 : (decI (encS T) T).1 = s := by rw [hI0]
        refine W.region ?_
        refine WL.cut (fun e1 w1 => e1 123 = .bool (decide (ee2 = 0 ∧ a2 < T.length)) ∧ e1 0 = .slice ta T.length tc ∧ e1 2 = .pointer (some ⟨b2, 0, none⟩) ∧ e1 3 = .pointer (some ⟨b3, 0, none⟩) ∧ e1 5 = .pointer (some ⟨b5, 0, none⟩) ∧ e1 6 = .pointer (some ⟨b51, 0, none⟩) ∧ e1 7 = tps ∧ e1 8 = pls ∧ w1 = w) ?_ ?_
        · -- region 22
          refine WL.c rfl (o_mvh h6 ?_)
          refine WL.c rfl (o_nil rfl ?_)
          refine WL.c rfl (o_fa 2 TI70 rfl TI32 rfl rfl ?_)
          refine WL.c rfl (o_fa 0 TI32 rfl TI30 rfl rfl ?_)
          refine WL.c rfl (o_ld TI30 rfl rfl (cell_of hCb rfl) ?_)
          refine WL.c rfl (o_eq rfl rfl ?_)
          refine WL.c rfl (o_mvh (show _ = Value.bool _ from rfl) ?_)
          refine WL.sp 6 rfl (fun g115 => ?_) (fun g115 => ?_)
          · skip
            refine WL.g rfl (g115) rfl (o_mvh h6 ?_)
            refine WL.g rfl (g115) rfl (o_nil rfl ?_)
            refine WL.g rfl (g115) rfl (o_fa 1 TI70 rfl TI3 rfl rfl ?_)
            refine WL.g rfl (g115) rfl (o_ld TI3 rfl rfl (cell_of hCb rfl) ?_)
            refine WL.g rfl (g115) rfl (o_mvh h0 ?_)
            refine WL.g rfl (g115) rfl (o_len TI34 rfl ?_)
            refine WL.g rfl (g115) rfl (o_lt rfl rfl ?_)
            refine WL.c rfl (o_pickA rfl rfl ?_)
            exact WL.nil (⟨congrArg Value.bool (by rw [Bool.eq_iff_iff, decide_eq_true_iff]; first | (simp_all; done) | (simp_all; omega)), h0, h2, h3, h5, h6, h7, h8, rfl⟩)
          · skip
            refine WL.s rfl (g115) rfl ?_
            refine WL.s rfl (g115) rfl ?_
            refine WL.s rfl (g115) rfl ?_
            refine WL.s rfl (g115) rfl ?_
            refine WL.s rfl (g115) rfl ?_
            refine WL.s rfl (g115) rfl ?_
            refine WL.s rfl (g115) rfl ?_
            refine WL.c rfl (o_pickF rfl (g115) ?_)
            exact WL.nil (⟨congrArg Value.bool (by rw [Bool.eq_iff_iff, decide_eq_true_iff]; first | (simp_all; done) | (simp_all; omega)), h0, h2, h3, h5, h6, h7, h8, rfl⟩)
        rintro e w ⟨h123, h0, h2, h3, h5, h6, h7, h8, hw1⟩
        subst hw1
        refine W.cut (fun e1 w1 => ∃ s', RdM w1 70 b51 ta tc T s' ∧ ((∃ ee q, s' = .er ee q ∧ decA T = (ee, q) ∧ ee ≠ 0) ∨ (∃ k, s' = .ok k ∧ s = .ok k ∧ ¬ k < T.length)) ∧ e1 0 = .slice ta T.length tc ∧ e1 2 = .pointer (some ⟨b2, 0, none⟩) ∧ e1 3 = .pointer (some ⟨b3, 0, none⟩) ∧ e1 5 = .pointer (some ⟨b5, 0, none⟩) ∧ e1 6 = .pointer (some ⟨b51, 0, none⟩) ∧ e1 7 = tps ∧ e1 8 = pls ∧ w1.heap[b5]? = some (.cells #[.bool (encS T), cvv, evv] 26 (0, 0)) ∧ w1.ownsRow B51 28 4 cvv L.length (inss L) ∧ w1.ownsRow B51 3 1 evv es.length (zs es) ∧ w1.ownsRow B51 3 1 tps ps.length (ints ps) ∧ w1.ownsRow B3 3 1 pls qs.length (ints qs) ∧ w1.heap[b2]? = some (.cells ([.bool false, .slice none 0 0, .slice none 0 0]).toArray 26 (0, 0)) ∧ w1.heap[b3]? = some (.cells ([.int .i64 0, .int .i64 0]).toArray 32 (0, 0)) ∧ Ext w0 w1) ?_ ?_
        · -- both ways
          refine W.cond h123 (fun c123 => ?_) (fun c123 => ?_)
          · try simp only [decide_eq_true_eq, decide_eq_false_iff_not, Bool.not_eq_true', Bool.not_eq_false', Bool.and_eq_true, Bool.or_eq_true, Bool.and_eq_false_iff, Bool.or_eq_false_iff] at c123
            obtain ⟨k, rfl⟩ := hst.okc.1 c123.1
            obtain ⟨rfl, rfl, rfl, hkl⟩ := hst
            refine W.region ?_
            refine WL.c rfl (o_mvh h6 ?_)
            refine WL.c rfl (o_mvh h6 ?_)
            refine WL.c rfl (o_nil rfl ?_)
            refine WL.c rfl (o_fa 1 TI70 rfl TI3 rfl rfl ?_)
            refine WL.c rfl (o_ld TI3 rfl rfl (cell_of hCb rfl) ?_)
            refine WL.c rfl (o_bldC (cs := [(.int .i64 124), _]) TI32 (Sizes.cons TI30 (Sizes.cons TI3 Sizes.nil)) rfl (lcp (show _ = Value.int _ _ from rfl) (lcp (show _ = Value.int _ _ from rfl) lnp)) rfl rfl ?_)
            refine WL.c rfl (o_nil rfl ?_)
            refine WL.c rfl (o_fa 2 TI70 rfl TI32 rfl rfl ?_)
            refine WL.u (o_stAo (cs := #[.slice ta T.length tc, .int .i64 (a2 : Int), .int .i64 ((0 : Nat) : Int), .int .i64 ((0 : Nat) : Int)]) TI32 rfl (show _ = Value.agg #[.int .i64 124, .int .i64 (a2 : Int)] from rfl) rfl rfl hCb (by simp) ?_)
            intro w131 hB131 ho131 hs131
            replace hRd : RdM w131 70 b51 ta tc T (.er 124 a2) := hRd.put hfar ho131 (a := a2) hB131 ⟨rfl, rfl, by decide⟩
            replace hcv := own_only hcv ho131 (fun q hq he => by have := (hcv.lt q hq).1; omega)
            replace hev := own_only hev ho131 (fun q hq he => by have := hevB q hq; omega)
            replace htp := own_only htp ho131 (fun q hq he => by have := htpB q hq; omega)
            replace hpq := own_only hpq ho131 (fun q hq he => by have := (hpq.lt q hq).1; omega)
            replace hC2 := ho131.blk hC2 (by omega)
            replace hC3 := ho131.blk hC3 (by omega)
            replace hC5 := ho131.blk hC5 (by omega)
            replace hx := hx.trans' ho131 (fun _ h => h) (fun q hq he => by omega)
            refine WL.nil ?_
            first | exact ⟨_, hRd, .inl ⟨124, a2, rfl, decA_tail hh hI1 c123.2, by decide⟩, h0, h2, h3, h5, h6, h7, h8, hC5, hcv, hev, htp, hpq, hC2, hC3, hx⟩ | exact ⟨s, hRd, (by cases s with | er e9 q9 => exact .inl ⟨e9, q9, rfl, decA_er hh hI1, hst.2.2⟩ | ok k9 => exact .inr ⟨k9, rfl, rfl, fun h => c123 ⟨hst.2.1, by rw [hst.1]; exact h⟩⟩), h0, h2, h3, h5, h6, h7, h8, hC5, hcv, hev, htp, hpq, hC2, hC3, hx⟩
          · try simp only [decide_eq_true_eq, decide_eq_false_iff_not, Bool.not_eq_true', Bool.not_eq_false', Bool.and_eq_true, Bool.or_eq_true, Bool.and_eq_false_iff, Bool.or_eq_false_iff] at c123
            refine W.skip ?_
            first | exact ⟨_, hRd, .inl ⟨124, a2, rfl, decA_tail hh hI1 c123.2, by decide⟩, h0, h2, h3, h5, h6, h7, h8, hC5, hcv, hev, htp, hpq, hC2, hC3, hx⟩ | exact ⟨s, hRd, (by cases s with | er e9 q9 => exact .inl ⟨e9, q9, rfl, decA_er hh hI1, hst.2.2⟩ | ok k9 => exact .inr ⟨k9, rfl, rfl, fun h => c123 ⟨hst.2.1, by rw [hst.1]; exact h⟩⟩), h0, h2, h3, h5, h6, h7, h8, hC5, hcv, hev, htp, hpq, hC2, hC3, hx⟩
        rintro e w ⟨s', hRd, hal, h0, h2, h3, h5, h6, h7, h8, hC5, hcv, hev, htp, hpq, hC2, hC3, hx⟩
        refine W.seq ?_
        refine W.seq ?_
        clear hCb
        obtain ⟨a3, ee3, q3, hCb3, hst3⟩ := hRd.cell
        refine W.region ?_
        refine WL.c rfl (o_mvh h6 ?_)
        refine WL.c rfl (o_nil rfl ?_)
        refine WL.c rfl (o_fa 2 TI70 rfl TI32 rfl rfl ?_)
        refine WL.c rfl (o_fa 0 TI32 rfl TI30 rfl rfl ?_)
        refine WL.c rfl (o_ld TI30 rfl rfl (cell_of hCb3 rfl) ?_)
        refine WL.c rfl (o_ne rfl rfl ?_)
        refine WL.nil ?_
        refine W.cond rfl (fun c137 => ?_) (fun c137 => ?_)
        · try simp only [decide_eq_true_eq, decide_eq_false_iff_not, Bool.not_eq_true', Bool.not_eq_false', Bool.and_eq_true, Bool.or_eq_true, Bool.and_eq_false_iff, Bool.or_eq_false_iff] at c137
          obtain ⟨ee, qe, rfl, hA, hne⟩ : ∃ ee q, s' = .er ee q ∧ decA T = (ee, q) ∧ ee ≠ 0 := by
            rcases hal with h | ⟨k, rfl, -⟩
            · exact h
            · have := hst3.2.1; simp [this] at c137
          obtain ⟨rfl, rfl, -⟩ := hst3
          have hQ := decQ_ne hA hne
          refine W.seq ?_
          obtain ⟨wd, hwd⟩ : ∃ wd, wd = World.drew w := ⟨_, rfl⟩
          have hxd : Ext w wd := hwd ▸ Only.drew w
          replace hC2 := hxd.blk hC2 (fun h => h)
          replace hC3 := hxd.blk hC3 (fun h => h)
          replace hx := hx.tr hxd
          replace hCb3 := hxd.blk hCb3 (fun h => h)
          refine W.mix [5, 6] 0 (Two b2 b3 26 32 ([.bool false, .slice none 0 0, .slice none 0 0]) ([.int .i64 (ee3 : Int), .int .i64 (q3 : Int)])) (SF (fun q => q = b2 ∨ q = b3)) [(2, fun v _ => v = (Value.pointer (some ⟨b2, 0, none⟩))), (3, fun v _ => v = (Value.pointer (some ⟨b3, 0, none⟩))), (6, fun v _ => v = (Value.pointer (some ⟨b51, 0, none⟩)))] rfl (by kernel_rfl) (SF.refl _) (SF.trans _) (SF.ext _) Two.ext (fun _ _ _ h => h) ⟨Mono.eq, Mono.eq, Mono.eq, trivial⟩ ⟨h2, h3, h6, trivial⟩ Two.zero ?_
          refine WX.p rfl (fun t e w hR hW hh => by skip; exact SG.n (o_bldC (cs := [(.bool false), (.slice none 0 0), (.slice none 0 0)]) TI26 (Sizes.cons TI4 (Sizes.cons TI23 (Sizes.cons TI24 Sizes.nil))) rfl lnp rfl rfl ⟨rfl, Only.refl No _⟩)) ?_
          refine WX.p rfl (fun t e w hR hW hh => by obtain ⟨h6, -⟩ := hh; exact SG.n (o_mvh h6 ⟨rfl, Only.refl No _⟩)) ?_
          refine WX.p rfl (fun t e w hR hW hh => by obtain ⟨h139, -⟩ := hh; exact SG.n (o_nil h139 ⟨rfl, Only.refl No _⟩)) ?_
          refine WX.p rfl (fun t e w hR hW hh => by obtain ⟨h140, -⟩ := hh; exact SG.n (o_fa 2 TI70 rfl TI32 rfl h140 ⟨rfl, Only.refl No _⟩)) ?_
          refine WX.p rfl (fun t e w hR hW hh => by obtain ⟨h141, -⟩ := hh; rw [← hwd] at hR; have hc9 := hR.1.blk hCb3 (fun h => by rcases h with h | h <;> omega); exact SG.n (o_ldA TI32 rfl h141 (show Cells _ b51 2 [.int .i64 (ee3 : Int), .int .i64 (q3 : Int)] from Cells.of hc9 2 _ (by intro i v hv; match i, hv with | 0, hv => exact hv | 1, hv => exact hv)) rfl ⟨rfl, Only.refl No _⟩)) ?_
          refine WX.s 0 rfl rfl (fun e w hR hW hh => by obtain ⟨h138, h2, -⟩ := hh; rw [← hwd] at hR; obtain ⟨cs2, hs2, hz2⟩ := hR.2 b2 _ _ hC2; exact SG.n (o_stA TI26 h2 (show _ = Value.agg ([.bool false, .slice none 0 0, .slice none 0 0]).toArray from h138) rfl rfl hs2 hz2 (fun w2 hB2 ho2 hs => ⟨⟨fun _ => hB2, fun h => absurd h (by omega)⟩, SF.put (.inl rfl) ho2 hs2 hB2 hz2.symm⟩))) ?_
          refine WX.s 1 rfl rfl (fun e w hR hW hh => by obtain ⟨h142, h3, -⟩ := hh; rw [← hwd] at hR; obtain ⟨cs3, hs3, hz3⟩ := hR.2 b3 _ _ hC3; exact SG.n (o_stA TI32 h3 (show _ = Value.agg ([.int .i64 (ee3 : Int), .int .i64 (q3 : Int)]).toArray from h142) rfl rfl hs3 hz3 (fun w2 hB3 ho3 hs => ⟨⟨fun _ => ho3.blk (hW.1 (by omega)) (by omega), fun _ => hB3⟩, SF.put (.inr rfl) ho3 hs3 hB3 hz3.symm⟩))) ?_
          rintro e w hR hW ⟨h142, h141, h140, h139, h138, h2, h3, h6, -⟩
          rw [← hwd] at hR
          have hBp := hW.1 (by decide)
          have hBf := hW.2 (by decide)
          have hO2 := hR.1
          replace hx := hx.trans' hO2 (fun _ h => h) (fun q hq he => by rcases he with he | he <;> omega)
          refine W.ret ?_
          refine retAA rfl TI26 rfl TI32 rfl (by first | exact h2 | rfl) (by first | exact h3 | rfl) (cells_all hBp) rfl (cells_all hBf) rfl ?_
          exact ⟨.slice none 0 0, .slice none 0 0, by rw [hQ, hA]; rfl, by rw [hQ]; exact World.ownsRow_nil _ _ _ _, by rw [hQ]; exact World.ownsRow_nil _ _ _ _, hx⟩
        · try simp only [decide_eq_true_eq, decide_eq_false_iff_not, Bool.not_eq_true', Bool.not_eq_false', Bool.and_eq_true, Bool.or_eq_true, Bool.and_eq_false_iff, Bool.or_eq_false_iff] at c137
          obtain ⟨k, rfl, rfl, hkT⟩ : ∃ k, s' = .ok k ∧ s = .ok k ∧ ¬ k < T.length := by
            rcases hal with ⟨ee, q, rfl, -, hne⟩ | h
            · exfalso; obtain ⟨h4, -, -⟩ := hst3; subst h4; simp at c137; omega
            · exact h
          obtain rfl := hLL ⟨k, rfl⟩
          have hP : pgS T = ⟨encS T, L0, es⟩ := by unfold pgS; rw [hI0, hE0]
          obtain ⟨hrp, -, -, -, hpE, hpI⟩ := dec_read hh hI1
          rw [hE0] at hpE
          rw [hI0] at hpI
          have hchk := chk_read hrp
          have hcvQ : World.ownsRow w B51 28 4 cvv (pgS T).code.length (inss (pgS T).code) := by rw [hP]; exact hcv
          have hevQ : World.ownsRow w B51 3 1 evv (pgS T).ent.length (zs (pgS T).ent) := by rw [hP]; exact hev
          have hDA := decA_end hh hI1 hkT
          rw [hI0, hE0] at hDA
          have hlq : qs.length = (pgS T).code.length := by rw [hP]; exact hql
          have hlp : ps.length = (pgS T).ent.length := by rw [hP]; exact hpl
          obtain ⟨c, hc⟩ : ∃ c, c = chk (pgS T) := ⟨_, rfl⟩
          rw [← hc] at hchk hDA
          refine W.skip ?_
          refine W.seq ?_
          refine W.region ?_
          refine WL.c rfl (o_ldA TI26 rfl h5 (show Cells _ b5 0 (pgV (pgS T) cvv evv) from Cells.of hC5 0 _ (by rw [hP]; simp [pgV])) rfl ?_)
          refine WL.c rfl (o_call Tryd.call12 (lc rfl ln) ((check_spec (pgS T) cvv evv _ ⟨Sl.own hcvQ, Sl.own hevQ⟩ (by have := hrp.nc; omega) (by have := hrp.ne; omega)).mono ?_))
          rintro v144 w144 ⟨rfl, hx144⟩
          rw [← hc]
          have hb144 : b51 < w144.heap.size := by have := (Array.getElem?_eq_some_iff.1 hCb3).1; have := hx144.size; omega
          replace hcvQ := own_ext hcvQ hx144
          replace hevQ := own_ext hevQ hx144
          replace htp := own_ext htp hx144
          replace hpq := own_ext hpq hx144
          replace hC5 := hx144.blk hC5 (fun h => h)
          replace hC2 := hx144.blk hC2 (fun h => h)
          replace hC3 := hx144.blk hC3 (fun h => h)
          replace hx := hx.tr hx144
          refine WL.c rfl (o_alB TI32 ?_)
          intro wa hCa hxa hsa
          refine WL.u (o_stA TI32 rfl (show _ = Value.agg ([.int .i64 (c.1 : Int), .int .i64 (c.2 : Int)]).toArray from rfl) rfl rfl hCa rfl ?_)
          intro wb11 hC11 hob hsb
          have hxb := Ext.own hxa (Nat.le_refl _) hob
          obtain ⟨b11, hb11⟩ : ∃ b, b = w144.heap.size := ⟨_, rfl⟩
          rw [← hb11] at hC11 ⊢
          clear hCa hxa hsa hob hsb
          have hb511 : b51 < b11 := by omega
          replace hcvQ := own_ext hcvQ hxb
          replace hevQ := own_ext hevQ hxb
          replace htp := own_ext htp hxb
          replace hpq := own_ext hpq hxb
          replace hC5 := hxb.blk hC5 (fun h => h)
          replace hC2 := hxb.blk hC2 (fun h => h)
          replace hC3 := hxb.blk hC3 (fun h => h)
          replace hx := hx.tr hxb
          clear hxb
          refine WL.nil ?_
          refine W.seq ?_
          refine W.seq ?_
          refine W.region ?_
          refine WL.c rfl (o_fa 0 TI32 rfl TI30 rfl rfl ?_)
          refine WL.c rfl (o_ld TI30 rfl rfl (cell_of hC11 rfl) ?_)
          refine WL.nil ?_
          refine W.block ?_
          refine W.seq ?_
          refine W.region ?_
          refine WL.c rfl (o_eq rfl rfl ?_)
          refine WL.c rfl (o_ash (show _ = Value.bool _ from rfl) ?_)
          refine WL.nil ?_
          refine W.cond rfl (fun c147 => ?_) (fun c147 => ?_)
          · try simp only [decide_eq_true_eq, decide_eq_false_iff_not, Bool.not_eq_true', Bool.not_eq_false', Bool.and_eq_true, Bool.or_eq_true, Bool.and_eq_false_iff, Bool.or_eq_false_iff] at c147
            have hA : decA T = (0, 0) := by rw [hDA, if_neg (by omega), if_neg (by omega)]
            have hc0 : c.1 = 0 ∧ c.2 = 0 := by omega
            have hQ : decQ T = pgS T := by unfold decQ; rw [hA]; exact if_pos rfl
            refine W.seq ?_
            obtain ⟨wd, hwd⟩ : ∃ wd, wd = World.drew wb11 := ⟨_, rfl⟩
            have hxd : Ext wb11 wd := hwd ▸ Only.drew wb11
            replace hC2 := hxd.blk hC2 (fun h => h)
            replace hC3 := hxd.blk hC3 (fun h => h)
            replace hx := hx.tr hxd
            replace hC5 := hxd.blk hC5 (fun h => h)
            replace hC11 := hxd.blk hC11 (fun h => h)
            replace hcvQ := own_ext hcvQ hxd
            replace hevQ := own_ext hevQ hxd
            refine W.mix [2, 3] 0 (Two b2 b3 26 32 (pgV (pgS T) cvv evv) ([.int .i64 (c.1 : Int), .int .i64 (c.2 : Int)])) (SF (fun q => q = b2 ∨ q = b3)) [(2, fun v _ => v = (Value.pointer (some ⟨b2, 0, none⟩))), (3, fun v _ => v = (Value.pointer (some ⟨b3, 0, none⟩))), (5, fun v _ => v = (Value.pointer (some ⟨b5, 0, none⟩))), (11, fun v _ => v = (Value.pointer (some ⟨b11, 0, none⟩)))] rfl (by kernel_rfl) (SF.refl _) (SF.trans _) (SF.ext _) Two.ext (fun _ _ _ h => h) ⟨Mono.eq, Mono.eq, Mono.eq, Mono.eq, trivial⟩ ⟨h2, h3, h5, rfl, trivial⟩ Two.zero ?_
            refine WX.p rfl (fun t e w hR hW hh => by obtain ⟨h5, -⟩ := hh; rw [← hwd] at hR; have hc9 := hR.1.blk hC5 (fun h => by rcases h with h | h <;> omega); exact SG.n (o_ldA TI26 rfl h5 (show Cells _ b5 0 (pgV (pgS T) cvv evv) from Cells.of hc9 0 _ (by rw [hP]; simp [pgV])) rfl ⟨rfl, Only.refl No _⟩)) ?_
            refine WX.p rfl (fun t e w hR hW hh => by obtain ⟨h11, -⟩ := hh; rw [← hwd] at hR; have hc9 := hR.1.blk hC11 (fun h => by rcases h with h | h <;> omega); exact SG.n (o_ldA TI32 rfl h11 (show Cells _ b11 0 [.int .i64 (c.1 : Int), .int .i64 (c.2 : Int)] from Cells.of hc9 0 _ (by simp)) rfl ⟨rfl, Only.refl No _⟩)) ?_
            refine WX.s 0 rfl rfl (fun e w hR hW hh => by obtain ⟨h149, h2, -⟩ := hh; rw [← hwd] at hR; obtain ⟨cs2, hs2, hz2⟩ := hR.2 b2 _ _ hC2; exact SG.n (o_stA TI26 h2 (show _ = Value.agg (pgV (pgS T) cvv evv).toArray from h149) rfl (by simp [pgV, own_one hcvQ, own_one hevQ]; rfl) hs2 hz2 (fun w2 hB2 ho2 hs => ⟨⟨fun _ => hB2, fun h => absurd h (by omega)⟩, SF.put (.inl rfl) ho2 hs2 hB2 hz2.symm⟩))) ?_
            refine WX.s 1 rfl rfl (fun e w hR hW hh => by obtain ⟨h150, h3, -⟩ := hh; rw [← hwd] at hR; obtain ⟨cs3, hs3, hz3⟩ := hR.2 b3 _ _ hC3; exact SG.n (o_stA TI32 h3 (show _ = Value.agg ([.int .i64 (c.1 : Int), .int .i64 (c.2 : Int)]).toArray from h150) rfl rfl hs3 hz3 (fun w2 hB3 ho3 hs => ⟨⟨fun _ => ho3.blk (hW.1 (by omega)) (by omega), fun _ => hB3⟩, SF.put (.inr rfl) ho3 hs3 hB3 hz3.symm⟩))) ?_
            rintro e w hR hW ⟨h150, h149, h2, h3, h5, h11, -⟩
            rw [← hwd] at hR
            have hBp := hW.1 (by decide)
            have hBf := hW.2 (by decide)
            have hO2 := hR.1
            replace hx := hx.trans' hO2 (fun _ h => h) (fun q hq he => by rcases he with he | he <;> omega)
            refine W.ret ?_
            refine retAA rfl TI26 rfl TI32 rfl (by first | exact h2 | rfl) (by first | exact h3 | rfl) (cells_all hBp) rfl (cells_all hBf) rfl ?_
            exact ⟨cvv, evv, by rw [hQ, hA, hc0.1, hc0.2], by rw [hQ]; exact own_mono (own_only hcvQ hO2 (fun q hq he => by have := (hcvQ.lt q hq).1; rcases he with he | he <;> omega)) (by omega), by rw [hQ]; exact own_mono (own_only hevQ hO2 (fun q hq he => by have := (hevQ.lt q hq).1; rcases he with he | he <;> omega)) (by omega), hx⟩
          · try simp only [decide_eq_true_eq, decide_eq_false_iff_not, Bool.not_eq_true', Bool.not_eq_false', Bool.and_eq_true, Bool.or_eq_true, Bool.and_eq_false_iff, Bool.or_eq_false_iff] at c147
            refine W.seq ?_
            refine W.region ?_
            refine WL.c rfl (o_eq rfl rfl ?_)
            refine WL.c rfl (o_ash (show _ = Value.bool _ from rfl) ?_)
            refine WL.nil ?_
            refine W.cond rfl (fun c151 => ?_) (fun c151 => ?_)
            · try simp only [decide_eq_true_eq, decide_eq_false_iff_not, Bool.not_eq_true', Bool.not_eq_false', Bool.and_eq_true, Bool.or_eq_true, Bool.and_eq_false_iff, Bool.or_eq_false_iff] at c151
              have hci : c.2 < qs.length := by omega
              obtain ⟨pl9, hpl9⟩ : ∃ m, m = qs.getD c.2 0 := ⟨_, rfl⟩
              have hA : decA T = (c.1, pl9) := by rw [hDA, if_pos (by omega), hpl9]; exact Prod.ext (by omega) rfl
              have hQ := decQ_ne hA (by omega)
              refine W.region ?_
              refine WL.c rfl (o_mvh h8 ?_)
              refine WL.c rfl (o_fa 1 TI32 rfl TI3 rfl rfl ?_)
              refine WL.c rfl (o_ld TI3 rfl rfl (cell_of hC11 rfl) ?_)
              refine WL.c rfl (o_ix1 TI24 TI3 rfl rfl (Sl.own hpq) (hci) ?_)
              intro b156 o156 hc156 hb156
              refine WL.c rfl (o_ld TI3 rfl rfl (show _ = some (Value.int .i64 (pl9 : Int)) from hc156.trans (by rw [hpl9]; simp [ints, hci, List.getD_eq_getElem?_getD])) ?_)
              refine WL.c rfl (o_fa 1 TI32 rfl TI3 rfl rfl ?_)
              refine WL.u (o_stB TI3 rfl (show _ = Value.int .i64 (pl9 : Int) from rfl) rfl hC11 (by simp) ?_)
              intro w158 hB158 ho158 hs158
              replace hC2 := ho158.blk hC2 (by omega)
              replace hC3 := ho158.blk hC3 (by omega)
              replace hx := hx.trans' ho158 (fun _ h => h) (fun q hq he => by omega)
              clear hC11
              have hC11 : w158.heap[b11]? = some (.cells #[.int .i64 (c.1 : Int), .int .i64 (pl9 : Int)] 32 (0, 0)) := hB158
              refine WL.nil ?_
              refine W.seq ?_
              obtain ⟨wd, hwd⟩ : ∃ wd, wd = World.drew w158 := ⟨_, rfl⟩
              have hxd : Ext w158 wd := hwd ▸ Only.drew w158
              replace hC2 := hxd.blk hC2 (fun h => h)
              replace hC3 := hxd.blk hC3 (fun h => h)
              replace hx := hx.tr hxd
              replace hC11 := hxd.blk hC11 (fun h => h)
              refine W.mix [2, 3] 0 (Two b2 b3 26 32 ([.bool false, .slice none 0 0, .slice none 0 0]) ([.int .i64 (c.1 : Int), .int .i64 (pl9 : Int)])) (SF (fun q => q = b2 ∨ q = b3)) [(2, fun v _ => v = (Value.pointer (some ⟨b2, 0, none⟩))), (3, fun v _ => v = (Value.pointer (some ⟨b3, 0, none⟩))), (11, fun v _ => v = (Value.pointer (some ⟨b11, 0, none⟩)))] rfl (by kernel_rfl) (SF.refl _) (SF.trans _) (SF.ext _) Two.ext (fun _ _ _ h => h) ⟨Mono.eq, Mono.eq, Mono.eq, trivial⟩ ⟨h2, h3, rfl, trivial⟩ Two.zero ?_
              refine WX.p rfl (fun t e w hR hW hh => by skip; exact SG.n (o_bldC (cs := [(.bool false), (.slice none 0 0), (.slice none 0 0)]) TI26 (Sizes.cons TI4 (Sizes.cons TI23 (Sizes.cons TI24 Sizes.nil))) rfl lnp rfl rfl ⟨rfl, Only.refl No _⟩)) ?_
              refine WX.p rfl (fun t e w hR hW hh => by obtain ⟨h11, -⟩ := hh; rw [← hwd] at hR; have hc9 := hR.1.blk hC11 (fun h => by rcases h with h | h <;> omega); exact SG.n (o_ldA TI32 rfl h11 (show Cells _ b11 0 [.int .i64 (c.1 : Int), .int .i64 (pl9 : Int)] from Cells.of hc9 0 _ (by simp)) rfl ⟨rfl, Only.refl No _⟩)) ?_
              refine WX.s 0 rfl rfl (fun e w hR hW hh => by obtain ⟨h167, h2, -⟩ := hh; rw [← hwd] at hR; obtain ⟨cs2, hs2, hz2⟩ := hR.2 b2 _ _ hC2; exact SG.n (o_stA TI26 h2 (show _ = Value.agg ([.bool false, .slice none 0 0, .slice none 0 0]).toArray from h167) rfl rfl hs2 hz2 (fun w2 hB2 ho2 hs => ⟨⟨fun _ => hB2, fun h => absurd h (by omega)⟩, SF.put (.inl rfl) ho2 hs2 hB2 hz2.symm⟩))) ?_
              refine WX.s 1 rfl rfl (fun e w hR hW hh => by obtain ⟨h168, h3, -⟩ := hh; rw [← hwd] at hR; obtain ⟨cs3, hs3, hz3⟩ := hR.2 b3 _ _ hC3; exact SG.n (o_stA TI32 h3 (show _ = Value.agg ([.int .i64 (c.1 : Int), .int .i64 (pl9 : Int)]).toArray from h168) rfl rfl hs3 hz3 (fun w2 hB3 ho3 hs => ⟨⟨fun _ => ho3.blk (hW.1 (by omega)) (by omega), fun _ => hB3⟩, SF.put (.inr rfl) ho3 hs3 hB3 hz3.symm⟩))) ?_
              rintro e w hR hW ⟨h168, h167, h2, h3, h11, -⟩
              rw [← hwd] at hR
              have hBp := hW.1 (by decide)
              have hBf := hW.2 (by decide)
              have hO2 := hR.1
              replace hx := hx.trans' hO2 (fun _ h => h) (fun q hq he => by rcases he with he | he <;> omega)
              refine W.ret ?_
              refine retAA rfl TI26 rfl TI32 rfl (by first | exact h2 | rfl) (by first | exact h3 | rfl) (cells_all hBp) rfl (cells_all hBf) rfl ?_
              exact ⟨.slice none 0 0, .slice none 0 0, by rw [hQ, hA]; rfl, by rw [hQ]; exact World.ownsRow_nil _ _ _ _, by rw [hQ]; exact World.ownsRow_nil _ _ _ _, hx⟩
            · try simp only [decide_eq_true_eq, decide_eq_false_iff_not, Bool.not_eq_true', Bool.not_eq_false', Bool.and_eq_true, Bool.or_eq_true, Bool.and_eq_false_iff, Bool.or_eq_false_iff] at c151
              refine W.seq ?_
              refine W.region ?_
              refine WL.c rfl (o_eq rfl rfl ?_)
              refine WL.c rfl (o_ash (show _ = Value.bool _ from rfl) ?_)
              refine WL.nil ?_
              refine W.cond rfl (fun c159 => ?_) (fun c159 => ?_)
              · try simp only [decide_eq_true_eq, decide_eq_false_iff_not, Bool.not_eq_true', Bool.not_eq_false', Bool.and_eq_true, Bool.or_eq_true, Bool.and_eq_false_iff, Bool.or_eq_false_iff] at c159
                have hci : c.2 < ps.length := by omega
                obtain ⟨pl9, hpl9⟩ : ∃ m, m = ps.getD c.2 0 := ⟨_, rfl⟩
                have hA : decA T = (c.1, pl9) := by rw [hDA, if_neg (by omega), if_pos (by omega), hpl9]; exact Prod.ext (by omega) rfl
                have hQ := decQ_ne hA (by omega)
                refine W.region ?_
                refine WL.c rfl (o_mvh h7 ?_)
                refine WL.c rfl (o_fa 1 TI32 rfl TI3 rfl rfl ?_)
                refine WL.c rfl (o_ld TI3 rfl rfl (cell_of hC11 rfl) ?_)
                refine WL.c rfl (o_ix1 TI24 TI3 rfl rfl (Sl.own htp) (hci) ?_)
                intro b164 o164 hc164 hb164
                refine WL.c rfl (o_ld TI3 rfl rfl (show _ = some (Value.int .i64 (pl9 : Int)) from hc164.trans (by rw [hpl9]; simp [ints, hci, List.getD_eq_getElem?_getD])) ?_)
                refine WL.c rfl (o_fa 1 TI32 rfl TI3 rfl rfl ?_)
                refine WL.u (o_stB TI3 rfl (show _ = Value.int .i64 (pl9 : Int) from rfl) rfl hC11 (by simp) ?_)
                intro w158 hB158 ho158 hs158
                replace hC2 := ho158.blk hC2 (by omega)
                replace hC3 := ho158.blk hC3 (by omega)
                replace hx := hx.trans' ho158 (fun _ h => h) (fun q hq he => by omega)
                clear hC11
                have hC11 : w158.heap[b11]? = some (.cells #[.int .i64 (c.1 : Int), .int .i64 (pl9 : Int)] 32 (0, 0)) := hB158
                refine WL.nil ?_
                refine W.seq ?_
                obtain ⟨wd, hwd⟩ : ∃ wd, wd = World.drew w158 := ⟨_, rfl⟩
                have hxd : Ext w158 wd := hwd ▸ Only.drew w158
                replace hC2 := hxd.blk hC2 (fun h => h)
                replace hC3 := hxd.blk hC3 (fun h => h)
                replace hx := hx.tr hxd
                replace hC11 := hxd.blk hC11 (fun h => h)
                refine W.mix [2, 3] 0 (Two b2 b3 26 32 ([.bool false, .slice none 0 0, .slice none 0 0]) ([.int .i64 (c.1 : Int), .int .i64 (pl9 : Int)])) (SF (fun q => q = b2 ∨ q = b3)) [(2, fun v _ => v = (Value.pointer (some ⟨b2, 0, none⟩))), (3, fun v _ => v = (Value.pointer (some ⟨b3, 0, none⟩))), (11, fun v _ => v = (Value.pointer (some ⟨b11, 0, none⟩)))] rfl (by kernel_rfl) (SF.refl _) (SF.trans _) (SF.ext _) Two.ext (fun _ _ _ h => h) ⟨Mono.eq, Mono.eq, Mono.eq, trivial⟩ ⟨h2, h3, rfl, trivial⟩ Two.zero ?_
                refine WX.p rfl (fun t e w hR hW hh => by skip; exact SG.n (o_bldC (cs := [(.bool false), (.slice none 0 0), (.slice none 0 0)]) TI26 (Sizes.cons TI4 (Sizes.cons TI23 (Sizes.cons TI24 Sizes.nil))) rfl lnp rfl rfl ⟨rfl, Only.refl No _⟩)) ?_
                refine WX.p rfl (fun t e w hR hW hh => by obtain ⟨h11, -⟩ := hh; rw [← hwd] at hR; have hc9 := hR.1.blk hC11 (fun h => by rcases h with h | h <;> omega); exact SG.n (o_ldA TI32 rfl h11 (show Cells _ b11 0 [.int .i64 (c.1 : Int), .int .i64 (pl9 : Int)] from Cells.of hc9 0 _ (by simp)) rfl ⟨rfl, Only.refl No _⟩)) ?_
                refine WX.s 0 rfl rfl (fun e w hR hW hh => by obtain ⟨h167, h2, -⟩ := hh; rw [← hwd] at hR; obtain ⟨cs2, hs2, hz2⟩ := hR.2 b2 _ _ hC2; exact SG.n (o_stA TI26 h2 (show _ = Value.agg ([.bool false, .slice none 0 0, .slice none 0 0]).toArray from h167) rfl rfl hs2 hz2 (fun w2 hB2 ho2 hs => ⟨⟨fun _ => hB2, fun h => absurd h (by omega)⟩, SF.put (.inl rfl) ho2 hs2 hB2 hz2.symm⟩))) ?_
                refine WX.s 1 rfl rfl (fun e w hR hW hh => by obtain ⟨h168, h3, -⟩ := hh; rw [← hwd] at hR; obtain ⟨cs3, hs3, hz3⟩ := hR.2 b3 _ _ hC3; exact SG.n (o_stA TI32 h3 (show _ = Value.agg ([.int .i64 (c.1 : Int), .int .i64 (pl9 : Int)]).toArray from h168) rfl rfl hs3 hz3 (fun w2 hB3 ho3 hs => ⟨⟨fun _ => ho3.blk (hW.1 (by omega)) (by omega), fun _ => hB3⟩, SF.put (.inr rfl) ho3 hs3 hB3 hz3.symm⟩))) ?_
                rintro e w hR hW ⟨h168, h167, h2, h3, h11, -⟩
                rw [← hwd] at hR
                have hBp := hW.1 (by decide)
                have hBf := hW.2 (by decide)
                have hO2 := hR.1
                replace hx := hx.trans' hO2 (fun _ h => h) (fun q hq he => by rcases he with he | he <;> omega)
                refine W.ret ?_
                refine retAA rfl TI26 rfl TI32 rfl (by first | exact h2 | rfl) (by first | exact h3 | rfl) (cells_all hBp) rfl (cells_all hBf) rfl ?_
                exact ⟨.slice none 0 0, .slice none 0 0, by rw [hQ, hA]; rfl, by rw [hQ]; exact World.ownsRow_nil _ _ _ _, by rw [hQ]; exact World.ownsRow_nil _ _ _ _, hx⟩
              · try simp only [decide_eq_true_eq, decide_eq_false_iff_not, Bool.not_eq_true', Bool.not_eq_false', Bool.and_eq_true, Bool.or_eq_true, Bool.and_eq_false_iff, Bool.or_eq_false_iff] at c159
                exact absurd hchk (by omega)
end Go.Proofs.YthlbhnefldaoiaaDoor

set_option linter.unusedSimpArgs false
set_option linter.unusedVariables false
set_option maxRecDepth 100000
namespace Go.Proofs.YthlbhnefldaoiaaDoor
open Go Go.Vc Go.RowKit Go.Proofs

def One2 (b2 : Nat) (T2 : TypeId) (A2 : List Value) (t : Nat) (_ : Value) (w : World) : Prop := 1 ≤ t → w.heap[b2]? = some (.cells A2.toArray T2 (0, 0))
theorem One2.ext {b2 : Nat} {T2 : TypeId} {A2 : List Value} (t : Nat) (v : Value) (a b : World) (h : One2 b2 T2 A2 t v a) (ho : Ext a b) : One2 b2 T2 A2 t v b := fun h1 => ho.blk (h h1) (fun h => h)
theorem One2.zero {b2 : Nat} {T2 : TypeId} {A2 : List Value} {v : Value} {w : World} : One2 b2 T2 A2 0 v w := fun h => absurd h (by omega)

end Go.Proofs.YthlbhnefldaoiaaDoor

namespace Go.Proofs
open Go.Shelf
def Tryd.laysM171_ren : Go.Shelf.Ren := ⟨fun | 171 => 49 | 243 => 67 | 246 => 76 | 283 => 78 | 284 => 79 | 285 => 80 | 286 => 81 | 129 => 83 | 317 => 82 | 318 => 84 | 319 => 85 | 320 => 86 | 337 => 87 | 338 => 88 | n => n, fun | 3 => 3 | 9 => 9 | 2 => 2 | 4 => 4 | 171 => 126 | 0 => 0 | 53 => 58 | 37 => 34 | 5 => 5 | 173 => 128 | 212 => 132 | 51 => 133 | 20 => 20 | 213 => 134 | 46 => 109 | 232 => 138 | 233 => 139 | n => n, fun | 17 => 1 | 18 => 2 | 19 => 3 | n => n⟩
theorem Tryd.laysM171 : Go.Proofs.LaysM.n171 Tryd.prog Tryd.laysM171_ren := {
  mixed := by kernel_rfl
  f129 := Tryd.func83.trans (congrArg some (by kernel_rfl))
  f171 := Tryd.func49.trans (congrArg some (by kernel_rfl))
  f243 := Tryd.func67.trans (congrArg some (by kernel_rfl))
  f246 := Tryd.func76.trans (congrArg some (by kernel_rfl))
  f283 := Tryd.func78.trans (congrArg some (by kernel_rfl))
  f284 := Tryd.func79.trans (congrArg some (by kernel_rfl))
  f285 := Tryd.func80.trans (congrArg some (by kernel_rfl))
  f286 := Tryd.func81.trans (congrArg some (by kernel_rfl))
  f317 := Tryd.func82.trans (congrArg some (by kernel_rfl))
  f318 := Tryd.func84.trans (congrArg some (by kernel_rfl))
  f319 := Tryd.func85.trans (congrArg some (by kernel_rfl))
  f320 := Tryd.func86.trans (congrArg some (by kernel_rfl))
  f337 := Tryd.func87.trans (congrArg some (by kernel_rfl))
  f338 := Tryd.func88.trans (congrArg some (by kernel_rfl))
  t0 := Tryd.underlying0
  a0 := Tryd.isAgg0
  z0 := Tryd.sizeOf0
  v0 := Tryd.zeroValue0
  t2 := Tryd.underlying2
  a2 := Tryd.isAgg2
  z2 := Tryd.sizeOf2
  v2 := Tryd.zeroValue2
  t3 := Tryd.underlying3
  a3 := Tryd.isAgg3
  z3 := Tryd.sizeOf3
  v3 := Tryd.zeroValue3
  t4 := Tryd.underlying4
  a4 := Tryd.isAgg4
  z4 := Tryd.sizeOf4
  v4 := Tryd.zeroValue4
  t5 := Tryd.underlying5
  a5 := Tryd.isAgg5
  z5 := Tryd.sizeOf5
  v5 := Tryd.zeroValue5
  t9 := Tryd.underlying9
  a9 := Tryd.isAgg9
  z9 := Tryd.sizeOf9
  v9 := Tryd.zeroValue9
  t20 := Tryd.underlying20
  a20 := Tryd.isAgg20
  z20 := Tryd.sizeOf20
  v20 := Tryd.zeroValue20
  t37 := Tryd.underlying34
  a37 := Tryd.isAgg34
  z37 := Tryd.sizeOf34
  v37 := Tryd.zeroValue34
  t46 := Tryd.underlying109
  a46 := Tryd.isAgg109
  z46 := Tryd.sizeOf109
  v46 := Tryd.zeroValue109
  t51 := Tryd.underlying133
  a51 := Tryd.isAgg133
  z51 := Tryd.sizeOf133
  v51 := Tryd.zeroValue133
  t53 := Tryd.underlying58
  a53 := Tryd.isAgg58
  z53 := Tryd.sizeOf58
  v53 := Tryd.zeroValue58
  t171 := Tryd.underlying126
  a171 := Tryd.isAgg126
  z171 := Tryd.sizeOf126
  v171 := Tryd.zeroValue126
  t173 := Tryd.underlying128
  a173 := Tryd.isAgg128
  z173 := Tryd.sizeOf128
  v173 := Tryd.zeroValue128
  t212 := Tryd.underlying132
  a212 := Tryd.isAgg132
  z212 := Tryd.sizeOf132
  v212 := Tryd.zeroValue132
  t213 := Tryd.underlying134
  a213 := Tryd.isAgg134
  z213 := Tryd.sizeOf134
  t232 := Tryd.underlying138
  a232 := Tryd.isAgg138
  z232 := Tryd.sizeOf138
  v232 := Tryd.zeroValue138
  t233 := Tryd.underlying139
  a233 := Tryd.isAgg139
  z233 := Tryd.sizeOf139
  v233 := Tryd.zeroValue139
  g17 := by kernel_rfl
  g18 := by kernel_rfl
  g19 := by kernel_rfl
  i0 := by kernel_rfl
  i2 := by kernel_rfl
  i3 := by kernel_rfl
  i4 := by kernel_rfl
  i5 := by kernel_rfl
  i9 := by kernel_rfl
  i20 := by kernel_rfl
  i37 := by kernel_rfl
  i46 := by kernel_rfl
  i51 := by kernel_rfl
  i53 := by kernel_rfl
  i171 := by kernel_rfl
  i173 := by kernel_rfl
  i212 := by kernel_rfl
  i232 := by kernel_rfl
  i233 := by kernel_rfl
  m17 := by kernel_rfl
  m18 := by kernel_rfl
  m19 := by kernel_rfl }
open Go.RowKit Go.Sort Go.Lib in
/-- strconv.Itoa: "Itoa is equivalent to FormatInt(int64(i), 10).": i's DECIMAL NUMERAL ('Lib.itoa': a '-' where i is negative, then the digits), FOR EVERY int. The world behind the call: the world before it, new blocks behind the heap (the library's 'var a [24]byte'), draws. (LAID: no walk: one application.) -/
theorem Tryd.strconv_Itoa (n : Int) (h0 : -9223372036854775808 ≤ n) (h1 : n ≤ 9223372036854775807) (w : World) (htab : Lib.TabIs Tryd.prog w "internal/strconv.uint64pow10" .u64 Lib.pow10Tab) :
    Calls Tryd.prog 49 #[.int .i64 n] w fun e w' => e = .returned (.string ⟨(Lib.itoa n).toArray⟩) ∧ ∃ k os, w' = grow (w.drewN k) os := Any.strconv_Itoa Tryd.laysM171 n h0 h1 w htab
end Go.Proofs

namespace Go.Proofs
open Go.Shelf
def Tryd.lays169_ren : Go.Shelf.Ren := ⟨fun | 169 => 50 | n => n, fun | 70 => 93 | 9 => 9 | 0 => 0 | 72 => 95 | 37 => 34 | 127 => 117 | 3 => 3 | 5 => 5 | n => n, fun | n => n⟩
theorem Tryd.lays169 : Go.Proofs.Lays.n169 Tryd.prog Tryd.lays169_ren := {
  mixed := by kernel_rfl
  f169 := Tryd.func50.trans (congrArg some (by kernel_rfl))
  t0 := Tryd.underlying0
  a0 := Tryd.isAgg0
  z0 := Tryd.sizeOf0
  v0 := Tryd.zeroValue0
  t3 := Tryd.underlying3
  a3 := Tryd.isAgg3
  z3 := Tryd.sizeOf3
  v3 := Tryd.zeroValue3
  t9 := Tryd.underlying9
  a9 := Tryd.isAgg9
  z9 := Tryd.sizeOf9
  v9 := Tryd.zeroValue9
  t37 := Tryd.underlying34
  a37 := Tryd.isAgg34
  z37 := Tryd.sizeOf34
  v37 := Tryd.zeroValue34
  t70 := Tryd.underlying93
  a70 := Tryd.isAgg93
  z70 := Tryd.sizeOf93
  v70 := Tryd.zeroValue93
  t72 := Tryd.underlying95
  a72 := Tryd.isAgg95
  z72 := Tryd.sizeOf95
  v72 := Tryd.zeroValue95
  t127 := Tryd.underlying117
  a127 := Tryd.isAgg117
  z127 := Tryd.sizeOf117
  v127 := Tryd.zeroValue117 }
theorem Tryd.Builder_Extra_169 : Builder.Extra Tryd.prog Tryd.lays169_ren := {
  sizeBuilder := by kernel_rfl
  liesBuilder := by kernel_rfl
  t5 := Tryd.underlying5
  a5 := Tryd.isAgg5
  z5 := Tryd.sizeOf5
  v5 := Tryd.zeroValue5
  infoByte := by kernel_rfl
  cellsByte := by kernel_rfl
  sizeByte := by kernel_rfl
  neB5 := by decide }
open Go.RowKit in
/-- (*strings.Builder).String: "String returns the accumulated string.": WHATEVER THE BUILDER HOLDS. (LAID: no walk: one application.) -/
theorem Tryd.Builder_String_any (B b : Nat) (l : List UInt8) (w : World) (h : Lib.IsBuilder 95 5 B b (Lib.byteCells l) w) (hBw : B ≤ w.heap.size) :
    Calls Tryd.prog 50 #[.pointer (some ⟨b, 0, none⟩)] w fun e w' => e = .returned (.string ⟨l.toArray⟩) ∧ Below B w w' := Any.Builder_String_any Tryd.lays169 Tryd.Builder_Extra_169 B b l w h hBw
def Tryd.lays156_ren : Go.Shelf.Ren := ⟨fun | 156 => 48 | 165 => 66 | 166 => 47 | 169 => 50 | 240 => 65 | 241 => 75 | 276 => 74 | 277 => 77 | n => n, fun | 31 => 96 | 9 => 9 | 3 => 3 | 4 => 4 | 0 => 0 | 20 => 20 | 72 => 95 | 76 => 99 | 70 => 93 | 37 => 34 | 75 => 98 | 127 => 117 | 164 => 122 | 5 => 5 | 80 => 104 | n => n, fun | n => n⟩
theorem Tryd.lays156 : Go.Proofs.Lays.n156 Tryd.prog Tryd.lays156_ren := {
  mixed := by kernel_rfl
  f156 := Tryd.func48.trans (congrArg some (by kernel_rfl))
  f165 := Tryd.func66.trans (congrArg some (by kernel_rfl))
  f166 := Tryd.func47.trans (congrArg some (by kernel_rfl))
  f169 := Tryd.func50.trans (congrArg some (by kernel_rfl))
  f240 := Tryd.func65.trans (congrArg some (by kernel_rfl))
  f241 := Tryd.func75.trans (congrArg some (by kernel_rfl))
  f276 := Tryd.func74.trans (congrArg some (by kernel_rfl))
  f277 := Tryd.func77.trans (congrArg some (by kernel_rfl))
  t0 := Tryd.underlying0
  a0 := Tryd.isAgg0
  z0 := Tryd.sizeOf0
  v0 := Tryd.zeroValue0
  t3 := Tryd.underlying3
  a3 := Tryd.isAgg3
  z3 := Tryd.sizeOf3
  v3 := Tryd.zeroValue3
  t4 := Tryd.underlying4
  a4 := Tryd.isAgg4
  z4 := Tryd.sizeOf4
  v4 := Tryd.zeroValue4
  t9 := Tryd.underlying9
  a9 := Tryd.isAgg9
  z9 := Tryd.sizeOf9
  v9 := Tryd.zeroValue9
  t20 := Tryd.underlying20
  a20 := Tryd.isAgg20
  z20 := Tryd.sizeOf20
  v20 := Tryd.zeroValue20
  t31 := Tryd.underlying96
  a31 := Tryd.isAgg96
  z31 := Tryd.sizeOf96
  v31 := Tryd.zeroValue96
  t37 := Tryd.underlying34
  a37 := Tryd.isAgg34
  z37 := Tryd.sizeOf34
  v37 := Tryd.zeroValue34
  t70 := Tryd.underlying93
  a70 := Tryd.isAgg93
  z70 := Tryd.sizeOf93
  v70 := Tryd.zeroValue93
  t72 := Tryd.underlying95
  a72 := Tryd.isAgg95
  z72 := Tryd.sizeOf95
  v72 := Tryd.zeroValue95
  t75 := Tryd.underlying98
  a75 := Tryd.isAgg98
  z75 := Tryd.sizeOf98
  v75 := Tryd.zeroValue98
  t76 := Tryd.underlying99
  a76 := Tryd.isAgg99
  z76 := Tryd.sizeOf99
  v76 := Tryd.zeroValue99
  t127 := Tryd.underlying117
  a127 := Tryd.isAgg117
  z127 := Tryd.sizeOf117
  v127 := Tryd.zeroValue117
  t164 := Tryd.underlying122
  a164 := Tryd.isAgg122
  z164 := Tryd.sizeOf122
  v164 := Tryd.zeroValue122 }
theorem Tryd.Builder_Extra_156 : Builder.Extra Tryd.prog Tryd.lays156_ren := {
  sizeBuilder := by kernel_rfl
  liesBuilder := by kernel_rfl
  t5 := Tryd.underlying5
  a5 := Tryd.isAgg5
  z5 := Tryd.sizeOf5
  v5 := Tryd.zeroValue5
  infoByte := by kernel_rfl
  cellsByte := by kernel_rfl
  sizeByte := by kernel_rfl
  neB5 := by decide }
open Go.RowKit in
/-- strings.Join: "Join concatenates the elements of its first argument to create a single string. The separator string sep is placed between elements in the resulting string.": HOWEVER MANY ELEMENTS. Below the heap's end the world is asx it was. (LAID: no walk: one application.) -/
theorem Tryd.strings_Join (bk o c : Nat) (xs : List ByteArray) (sep : ByteArray) (w : World) (hcells : ∀ (j : Nat) x, xs[j]? = some x → w.cell? ⟨bk, o + j, none⟩ = some (.string x)) (hbk : bk < w.heap.size) (hN : xs.length ≤ 140737488355328) (hcap : xs.length ≤ c) (hlen : (Lib.join (xs.map (·.data.toList)) sep.data.toList).length ≤ 140737488355328) :
    Calls Tryd.prog 48 #[.slice (some ⟨bk, o, none⟩) xs.length c, .string sep] w fun e w' => e = .returned (.string ⟨(Lib.join (xs.map (·.data.toList)) sep.data.toList).toArray⟩) ∧ Below w.heap.size w w' := Any.strings_Join Tryd.lays156 Tryd.Builder_Extra_156 bk o c xs sep w hcells hbk hN hcap hlen
end Go.Proofs

set_option linter.unusedSimpArgs false
set_option linter.unusedVariables false
set_option maxRecDepth 100000
namespace Go.Proofs.YthlbhnefldaoiaaDoor
open Go Go.Vc Go.RowKit Go.Proofs
theorem shape_of {w : World} {b : Nat} {cs : Array Value} {T : TypeId} {fr : Nat × Nat} (h : w.heap[b]? = some (.cells cs T fr)) : w.shape? b = some (T, cs.size) := by unfold World.shape?; rw [h]
theorem o_cvPU {P : Program} {e : Env} {w : World} {K : Value → World → Prop} {ty : TypeId} {x : Operand} {src dst t : TypeId} {d0 : TypeDesc} {sz0 bs0 : Nat} {z0 : Value} {a : Addr} {cs : Array Value} {T : TypeId} {fr : Nat × Nat} (hs : P.underlying src = some (.pointer t)) (hd : P.underlying dst = some .unsafePointer) (hT : Ty P t d0 sz0 bs0 z0) (hj : sz0 ≠ 0) (hx : ev e x = .pointer (some a))
    (hB : w.heap[a.block]? = some (.cells cs T fr)) (ho : a.off < cs.size) (k : K (.pointer (some a)) w) : OP P e (.convert src dst x) ty w K := by
  obtain ⟨i, hi1, hi2, hi3, hi4⟩ := hT.info
  exact OP.of (by simp [execOp, hx, Lib.run_to_unsafe w a hs hd hi1 (by rw [hi2]; exact hj) (shape_of hB) ho]) k
theorem o_cvUP {P : Program} {e : Env} {w : World} {K : Value → World → Prop} {ty : TypeId} {x : Operand} {src dst u : TypeId} {d0 : TypeDesc} {sz0 bs0 : Nat} {z0 : Value} {a : Addr} {cs : Array Value} {T : TypeId} {fr : Nat × Nat} (hs : P.underlying src = some .unsafePointer) (hd : P.underlying dst = some (.pointer u)) (hT : Ty P u d0 sz0 bs0 z0) (hx : ev e x = .pointer (some a))
    (hB : w.heap[a.block]? = some (.cells cs T fr)) (hlies : liesAt P P.depth T (cs.size / P.cellsOf T) a.off u 1 = true) (k : K (.pointer (some a)) w) : OP P e (.convert src dst x) ty w K := by
  obtain ⟨i, hi1, hi2, hi3, hi4⟩ := hT.info
  exact OP.of (by simp [execOp, hx, Lib.run_from_unsafe w a hs hd hi1 (shape_of hB) hlies]) k
theorem o_neP {P : Program} {e : Env} {w : World} {K : Value → World → Prop} {ty : TypeId} {x y : Operand} {t te u : TypeId} {d0 : TypeDesc} {sz0 bs0 : Nat} {z0 : Value} {a : Addr} (ht : P.underlying t = some (.pointer te)) (hT : Ty P te d0 sz0 bs0 z0) (hx : ev e x = .pointer (some a)) (hy : ev e y = .pointer (some a)) (k : K (.bool false) w) : OP P e (.binOp .neq t x y u) ty w K := by
  obtain ⟨i, hi1, hi2, hi3, hi4⟩ := hT.info
  exact OP.of (by have := Lib.run_neq_ptr_same (P := P) w a ht hi1; simp only [execOp, eqGuard, hx, hy]; simp [this]) k
def digL (n : Nat) : List UInt8 := if n < 10 then [UInt8.ofNat (48 + n)] else digL (n / 10) ++ [UInt8.ofNat (48 + n % 10)]
termination_by n
decreasing_by omega
theorem digL_lt {n : Nat} (h : n < 10) : digL n = [UInt8.ofNat (48 + n)] := by rw [digL, if_pos h]
def tabC : Array Value := (Lib.pow10Tab.map fun z => Value.int .u64 z).toArray
def Tab (w : World) : Prop := ∃ T fr, w.heap[1]? = some (.cells tabC T fr)
theorem Tab.only {w w' : World} {F : Nat → Prop} (h : Tab w) (ho : Only F w w') (hn : ¬ F 1) : Tab w' := by
  obtain ⟨T, fr, h⟩ := h
  exact ⟨T, fr, ho.blk h hn⟩
theorem Tab.ext {w w' : World} (h : Tab w) (ho : Ext w w') : Tab w' := h.only ho (fun h => h)
theorem only_grow (w : World) (os : Array Obj) : Ext w (Go.Sort.grow w os) := ⟨rfl, rfl, rfl, by simp [Go.Sort.grow], fun k hk _ => by simp only [Go.Sort.grow]; rw [Array.getElem?_append_left hk]⟩
theorem dec_digL : ∀ n, Lib.decDigits n = digL n := by
  intro n
  induction n using Nat.strongRecOn with
  | _ n ih =>
    rw [Lib.decDigits, digL]
    by_cases h : n < 10
    · rw [if_pos h]; simp [h]
    · rw [if_neg h]; simp only [h, dif_neg, not_false_iff]; rw [ih (n / 10) (by omega)]
theorem itoa_spec (n : Nat) (hn : n ≤ 9223372036854775807) (w0 : World) (hT : Tab w0) : Ca Tryd.prog 49 #[.int .i64 (n : Int)] w0 (fun v w' => v = st (digL n) ∧ Ext w0 w') := by
  have htab : Lib.TabIs Tryd.prog w0 "internal/strconv.uint64pow10" .u64 Lib.pow10Tab := by
    obtain ⟨T, fr, h⟩ := hT
    have hg : (Tryd.prog).globalNamed "internal/strconv.uint64pow10" = some 1 := by kernel_rfl
    simp only [Lib.TabIs, World.var?, hg, Option.bind_some, h]
    rfl
  refine Calls.mono (Tryd.strconv_Itoa (n : Int) (by omega) (by omega) w0 htab) ?_
  rintro e w' ⟨rfl, k, os, rfl⟩
  refine ⟨?_, (Only.drewN w0 k).tr (only_grow _ os)⟩
  rw [Lib.itoa_nonneg, dec_digL]

theorem digL_20 {n : Nat} (h : n < 18446744073709551616) : (digL n).length ≤ 20 := by rw [← dec_digL, Lib.decDigits_length]; exact Lib.nDigits_le20 n h
theorem below_only {B : Nat} {w w' : World} (h : Below B w w') : Only (fun k => B ≤ k) w w' := ⟨h.os, h.tape, h.output, h.size, fun k _ hn => h.block k (by omega)⟩
structure PrB (w : World) (H p : Nat) (ad v : Value) (bs : List UInt8) : Prop where
  cell : w.heap[p]? = some (.cells #[ad, v] 95 (0, 0))
  adr : ad = .pointer none ∨ ad = .pointer (some ⟨p, 0, none⟩)
  row : w.ownsRow H 5 1 v bs.length (bs.map bv)
  hp : H ≤ p
theorem PrB.ext {w w' : World} {H p : Nat} {ad v : Value} {bs : List UInt8} (h : PrB w H p ad v bs) (ho : Ext w w') : PrB w' H p ad v bs := ⟨ho.blk h.cell (fun h => h), h.adr, own_ext h.row ho, h.hp⟩
theorem PrB.lt {w : World} {H p : Nat} {ad v : Value} {bs : List UInt8} (h : PrB w H p ad v bs) : H ≤ p ∧ p < w.heap.size := ⟨h.hp, (Array.getElem?_eq_some_iff.1 h.cell).1⟩
theorem PrB.is {w : World} {H p : Nat} {ad v : Value} {bs : List UInt8} (h : PrB w H p ad v bs) : Lib.IsBuilder 95 5 H p (bs.map bv) w := by
  have hb : Lib.BuilderAt 95 5 H p ad (bs.map bv) w := ⟨h.hp, v, h.cell, by rw [List.length_map]; exact h.row, fun he => own_off h.row h.cell (by decide) he⟩
  rcases h.adr with rfl | rfl
  · exact .inl hb
  · exact .inr hb
theorem bstr_spec (H p : Nat) (ad v : Value) (bs : List UInt8) (w0 : World) (hM : PrB w0 H p ad v bs) : Ca Tryd.prog 50 #[.pointer (some ⟨p, 0, none⟩)] w0 (fun u w' => u = st bs ∧ Only (fun k => H ≤ k) w0 w') := by
  have hlt := hM.lt
  refine Calls.mono (Tryd.Builder_String_any H p bs w0 (by have := hM.is; exact this) (by omega)) ?_
  rintro e w' ⟨rfl, hb⟩
  exact ⟨rfl, below_only hb⟩
theorem join_spec (xs : List (List UInt8)) (sl : Value) (w0 : World) (hS : Sl w0 1 sl xs.length (xs.map st)) (hne : xs ≠ []) (hn : xs.length ≤ 140737488355328) (hl : (Lib.join xs [32]).length ≤ 140737488355328) : Ca Tryd.prog 48 #[sl, st [32]] w0 (fun u w' => u = st (Lib.join xs [32]) ∧ Ext w0 w') := by
  have h0 : 0 < xs.length := List.length_pos_iff.2 hne
  rcases hS.val with ⟨h, -⟩ | ⟨b, off, c, rfl, hnc, hc⟩
  · omega
  · have hm : (xs.map (fun l : List UInt8 => (⟨l.toArray⟩ : ByteArray))).map (·.data.toList) = xs := by rw [List.map_map]; simp [Function.comp_def]
    have hbk : b < w0.heap.size := hS.lt (by omega) rfl
    have := Tryd.strings_Join b off c (xs.map (fun l : List UInt8 => (⟨l.toArray⟩ : ByteArray))) ⟨#[32]⟩ w0 (fun j x hx => by
      rw [List.getElem?_map] at hx
      obtain ⟨l, hl1, rfl⟩ := Option.map_eq_some_iff.1 hx
      have := hc j (st l) (by rw [List.getElem?_map, hl1]; rfl)
      simpa using this) hbk (by rw [List.length_map]; exact hn) (by rw [List.length_map]; exact hnc) (by rw [hm]; exact hl)
    rw [hm, List.length_map] at this
    refine Calls.mono this ?_
    rintro e w' ⟨rfl, hb⟩
    exact ⟨rfl, ⟨hb.os, hb.tape, hb.output, hb.size, fun k hk _ => hb.block k hk⟩⟩
noncomputable def lineS (xs : List (List UInt8)) : List UInt8 := Lib.join xs [32] ++ [10]
def wordS (n : Int) : List UInt8 := if n = -1 then [45] else digL n.toNat
def entParts (i : Nat) (e : Int) : List (List UInt8) := [[116, 121, 112, 101], digL i, digL e.toNat]
def insParts (enc : Bool) (i : Nat) (x : Ins) : List (List UInt8) := digL i :: (fmD enc x.op).1 :: (opsI (fmD enc x.op).2 x).map wordS
def hdrP (enc : Bool) : List UInt8 := if enc then [101, 110, 99, 111, 100, 101, 114] else [100, 101, 99, 111, 100, 101, 114]
noncomputable def prtE (p : Pg) (k : Nat) : List UInt8 := (List.range k).flatMap fun i => lineS (entParts i (p.ent.getD i 0))
noncomputable def prtI (p : Pg) (k : Nat) : List UInt8 := (List.range k).flatMap fun i => lineS (insParts p.enc i (p.code.getD i in0))
noncomputable def prt0 (p : Pg) : List UInt8 := lineS [hdrP p.enc]
noncomputable def prtS (p : Pg) : List UInt8 := prt0 p ++ prtE p p.ent.length ++ prtI p p.code.length
noncomputable def prtB (p : Pg) : List UInt8 := if (chk p).1 = 0 then prtS p else []
theorem prtE_succ (p : Pg) (k : Nat) : prtE p (k + 1) = prtE p k ++ lineS (entParts k (p.ent.getD k 0)) := by unfold prtE; rw [List.range_succ, List.flatMap_append]; simp
theorem prtI_succ (p : Pg) (k : Nat) : prtI p (k + 1) = prtI p k ++ lineS (insParts p.enc k (p.code.getD k in0)) := by unfold prtI; rw [List.range_succ, List.flatMap_append]; simp
theorem lineS_cons (x : List UInt8) (r : List (List UInt8)) : lineS (x :: r) = x ++ r.flatMap (fun y => 32 :: y) ++ [10] := by
  unfold lineS
  rw [Lib.join_cons, Lib.joinTail, List.flatMap]
  rfl
theorem wordS_len {n : Int} (h : -1 ≤ n ∧ n ≤ 2147483647) : (wordS n).length ≤ 20 := by
  unfold wordS
  split
  · simp
  · exact digL_20 (by omega)
theorem fmOf_nm {enc : Bool} {op : Int} {f : List UInt8 × List UInt8} (h : fmOf enc op = some f) : f.1.length ≤ 8 := by
  have : ∀ f ∈ dTab.tail ++ cTab, f.1.length ≤ 8 := by decide +kernel
  exact this f (fmOf_mem h)
theorem rng_len {f : Nat → List UInt8} {c : Nat} : ∀ k, (∀ i, i < k → (f i).length ≤ c) → ((List.range k).flatMap f).length ≤ c * k := fun k h => by
  have := fm_len (f := f) (c := c) (l := List.range k) (fun x hx => h x (List.mem_range.1 hx))
  rwa [List.length_range] at this

theorem copycheck_fresh (H p : Nat) (v : Value) (bs : List UInt8) (w0 : World) (hM : PrB w0 H p (.pointer none) v bs) : Ca Tryd.prog 65 #[.pointer (some ⟨p, 0, none⟩)] w0 (fun u w' => PrB w' H p (.pointer (some ⟨p, 0, none⟩)) v bs ∧ Only (fun k => k = p) w0 w') := by
  have hcell := hM.cell
  refine Ca.of Tryd.func65 Tryd.ntmps65 rfl rfl ?_
  refine W.seq ?_
  refine W.region ?_
  refine WL.c rfl (o_mvh (by first | exact (show _ = Value.pointer _ from rfl) | exact rfl) ?_)
  refine WL.c rfl (o_nil rfl ?_)
  refine WL.c rfl (o_fa 0 TI95 rfl TI93 rfl rfl ?_)
  refine WL.c rfl (o_ld TI93 rfl rfl (cell_of hcell rfl) ?_)
  refine WL.c rfl (o_eqN TI93 rfl rfl ?_)
  refine WL.nil ?_
  refine W.condT' rfl (rfl) ?_
  refine W.region ?_
  refine WL.c rfl (o_mvh (by first | exact (show _ = Value.pointer _ from rfl) | exact rfl) ?_)
  refine WL.c rfl (o_mvh (by first | exact (show _ = Value.pointer _ from rfl) | exact rfl) ?_)
  refine WL.c rfl (o_cvPU Tryd.underlying93 Tryd.underlying122 TI95 (by decide) rfl hcell (by simp) ?_)
  refine WL.c rfl (o_callX Tryd.func74 (by kernel_rfl) rfl (by kernel_rfl) (show _ = some Extern.AbiNoEscape.same by kernel_rfl) (lc rfl ln) (rfl) ?_)
  refine WL.c rfl (o_cvUP Tryd.underlying122 Tryd.underlying93 TI95 rfl hcell (by kernel_rfl) ?_)
  refine WL.c rfl (o_nil rfl ?_)
  refine WL.c rfl (o_fa 0 TI95 rfl TI93 rfl rfl ?_)
  refine WL.u (o_stB TI93 rfl (show _ = Value.pointer (some ⟨p, 0, none⟩) from rfl) rfl hcell (show 0 < 2 by decide) ?_)
  intro wc hB13 ho hs13
  have hM2 : PrB wc H p (.pointer (some ⟨p, 0, none⟩)) v bs := ⟨hB13, .inr rfl, own_only hM.row ho (fun k hk he => by subst he; exact own_off hM.row hcell (by decide) hk), hM.hp⟩
  refine WL.nil ?_
  refine ret0 rfl ?_
  exact ⟨hM2, ho⟩
theorem copycheck_used (H p : Nat) (v : Value) (bs : List UInt8) (w0 : World) (hM : PrB w0 H p (.pointer (some ⟨p, 0, none⟩)) v bs) : Ca Tryd.prog 65 #[.pointer (some ⟨p, 0, none⟩)] w0 (fun u w' => PrB w' H p (.pointer (some ⟨p, 0, none⟩)) v bs ∧ Only (fun k => k = p) w0 w') := by
  have hcell := hM.cell
  refine Ca.of Tryd.func65 Tryd.ntmps65 rfl rfl ?_
  refine W.seq ?_
  refine W.region ?_
  refine WL.c rfl (o_mvh (by first | exact (show _ = Value.pointer _ from rfl) | exact rfl) ?_)
  refine WL.c rfl (o_nil rfl ?_)
  refine WL.c rfl (o_fa 0 TI95 rfl TI93 rfl rfl ?_)
  refine WL.c rfl (o_ld TI93 rfl rfl (cell_of hcell rfl) ?_)
  refine WL.c rfl (o_eqN TI93 rfl rfl ?_)
  refine WL.nil ?_
  refine W.condF' rfl (rfl) ?_
  refine W.seq ?_
  refine W.region ?_
  refine WL.c rfl (o_mvh (by first | exact (show _ = Value.pointer _ from rfl) | exact rfl) ?_)
  refine WL.c rfl (o_nil rfl ?_)
  refine WL.c rfl (o_fa 0 TI95 rfl TI93 rfl rfl ?_)
  refine WL.c rfl (o_ld TI93 rfl rfl (cell_of hcell rfl) ?_)
  refine WL.c rfl (o_mvh (by first | exact (show _ = Value.pointer _ from rfl) | exact rfl) ?_)
  refine WL.c rfl (o_neP Tryd.underlying93 TI95 rfl rfl ?_)
  refine WL.nil ?_
  refine W.condF' rfl (rfl) ?_
  refine W.skip ?_
  refine ret0 rfl ?_
  exact ⟨hM, Only.refl _ _⟩

theorem copycheck_spec (H p : Nat) (ad v : Value) (bs : List UInt8) (w0 : World) (hM : PrB w0 H p ad v bs) : Ca Tryd.prog 65 #[.pointer (some ⟨p, 0, none⟩)] w0 (fun u w' => PrB w' H p (.pointer (some ⟨p, 0, none⟩)) v bs ∧ Only (fun k => k = p) w0 w') := by
  rcases hM.adr with h | h
  · subst h; exact copycheck_fresh H p v bs w0 hM
  · subst h; exact copycheck_used H p v bs w0 hM

theorem write_spec (H p : Nat) (ad v : Value) (bs s : List UInt8) (w0 : World) (hM : PrB w0 H p ad v bs) (hl : bs.length + s.length ≤ 140737488355328) : Ca Tryd.prog 47 #[.pointer (some ⟨p, 0, none⟩), st s] w0 (fun u w' => ∃ ad' v', PrB w' H p ad' v' (bs ++ s) ∧ Only (FP H p w0) w0 w') := by
  refine Ca.of Tryd.func47 Tryd.ntmps47 rfl rfl ?_
  refine W.seq ?_
  refine W.region ?_
  refine WL.c rfl (o_ash (show _ = Value.int _ _ from rfl) ?_)
  refine WL.c rfl (o_as ?_)
  refine WL.nil ?_
  refine W.seq ?_
  refine W.region ?_
  refine WL.c rfl (o_mvh (by first | exact (show _ = Value.pointer _ from rfl) | exact rfl) ?_)
  refine WL.c rfl (o_call Tryd.call65 (lc rfl ln) ((copycheck_spec H p ad v bs _ hM).mono ?_))
  rintro v7 w7 ⟨hM7, ho7⟩
  have hcell := hM7.cell
  have hlt := hM7.lt
  have hmx : 140737488355328 ≤ maxLen := by rw [maxLen_eq]; decide
  refine WL.nil ?_
  refine W.seq ?_
  refine W.region ?_
  refine WL.c rfl (o_mvh (by first | exact (show _ = Value.pointer _ from rfl) | exact rfl) ?_)
  refine WL.c rfl (o_mvh (by first | exact (show _ = Value.pointer _ from rfl) | exact rfl) ?_)
  refine WL.c rfl (o_nil rfl ?_)
  refine WL.c rfl (o_fa 1 TI95 rfl TI34 rfl rfl ?_)
  refine WL.c rfl (o_ld TI34 rfl rfl (cell_of hcell rfl) ?_)
  refine WL.c rfl (o_mvh (show _ = Value.string _ from rfl) ?_)
  refine WL.c rfl (o_apS (H) TI34 TI5 TI9 rfl rfl hM7.row rfl (by omega) hl (by omega) ?_)
  intro v14 w14 hr14 ho14
  rw [← List.map_append, ← List.length_append] at hr14
  have hoff := own_off hM7.row hcell (show 5 ≠ 95 by decide)
  have hc14 := ho14.blk hcell hoff
  have hge := fun k hk => (hM7.row.lt k hk).1
  have hu8 := fun k (hk : v.ownBlock = some k) => own_u8 hM7.row hk
  refine WL.c rfl (o_nil rfl ?_)
  refine WL.c rfl (o_fa 1 TI95 rfl TI34 rfl rfl ?_)
  refine WL.u (o_stB TI34 rfl (show _ = v14 from rfl) (own_one hr14) hc14 (show 1 < 2 by decide) ?_)
  intro w16 hB16 ho16 hs16
  have hM2 : PrB w16 H p (.pointer (some ⟨p, 0, none⟩)) v14 (bs ++ s) := ⟨hB16, .inr rfl, own_only hr14 ho16 (fun k hk he => by subst he; exact own_off hr14 hc14 (by decide) hk), hM7.hp⟩
  have hO : Only (FP H p w0) w0 w16 := FP.tr (ho7.mono (fun k _ h => .inl h)) (FP.tr (ho14.mono (fun k _ h => .inr ⟨hge k h, hu8 k h⟩)) (ho16.mono (fun k _ h => .inl h)))
  refine WL.nil ?_
  refine W.seq ?_
  refine W.region ?_
  refine WL.c rfl (o_mvh (show _ = Value.string _ from rfl) ?_)
  refine WL.c rfl (o_lenT TI9 rfl ?_)
  refine WL.c rfl (o_ash (show _ = Value.int _ _ from rfl) ?_)
  refine WL.c rfl (o_as ?_)
  refine WL.nil ?_
  refine W.ret ?_
  refine ret2v rfl (show _ = Value.int _ _ from rfl) rfl ?_
  exact ⟨_, _, hM2, hO⟩
theorem line_spec (H p : Nat) (ad v : Value) (bs : List UInt8) (sl : Value) (xs : List (List UInt8)) (w0 : World) (hM : PrB w0 H p ad v bs) (hS : Sl w0 1 sl xs.length (xs.map st)) (hne : xs ≠ []) (hn : xs.length ≤ 140737488355328) (hl : bs.length + (lineS xs).length ≤ 140737488355328) : Ca Tryd.prog 46 #[sl, .pointer (some ⟨p, 0, none⟩)] w0 (fun _ w' => ∃ ad' v', PrB w' H p ad' v' (bs ++ lineS xs) ∧ Only (FP H p w0) w0 w') := by
  have hl2 : (lineS xs).length = (Lib.join xs [32]).length + 1 := by unfold lineS; simp
  refine Ca.of Tryd.func46 Tryd.ntmps46 rfl rfl ?_
  refine W.region ?_
  refine WL.c rfl (o_mvh (by first | exact (show _ = Value.slice _ _ _ from rfl) | exact rfl) ?_)
  refine WL.c rfl (o_call Tryd.call48 (lc rfl (lc rfl ln)) ((join_spec xs sl _ hS hne hn (by omega)).mono ?_))
  rintro v4 w4 ⟨rfl, hx4⟩
  replace hM := hM.ext hx4
  refine WL.c rfl (o_addT rfl rfl (by simp; omega) ?_)
  refine WL.c rfl (o_call Tryd.call47 (lc rfl (lc rfl ln)) ((write_spec H p ad v bs (lineS xs) _ hM hl).mono ?_))
  rintro v6 w6 ⟨ad', v', hM2, ho6⟩
  refine WL.nil ?_
  refine ret0 rfl ?_
  exact ⟨_, _, hM2, FP.ext0 hx4 ho6⟩
end Go.Proofs.YthlbhnefldaoiaaDoor

set_option linter.unusedSimpArgs false
set_option linter.unusedVariables false
set_option maxRecDepth 100000
namespace Go.Proofs.YthlbhnefldaoiaaDoor
open Go Go.Vc Go.RowKit Go.Proofs

theorem itoa_int (z : Int) (h0 : 0 ≤ z) (h1 : z ≤ 9223372036854775807) (w0 : World) (hT : Tab w0) : Ca Tryd.prog 49 #[.int .i64 z] w0 (fun v w' => v = st (digL z.toNat) ∧ Ext w0 w') := by
  have := itoa_spec z.toNat (by omega) w0 hT
  rwa [Int.toNat_of_nonneg h0] at this
theorem PrB.only {F : Nat → Prop} {w w' : World} {H p : Nat} {ad v : Value} {bs : List UInt8} (h : PrB w H p ad v bs) (ho : Only F w w') (hc : ¬ F p) (hr : ∀ k, v.ownBlock = some k → ¬ F k) : PrB w' H p ad v bs := ⟨ho.blk h.cell hc, h.adr, own_only h.row ho hr, h.hp⟩
/-- the parts of an instruction's line, asx far asx they go -/
def prtJ (k : Nat) (nm : List UInt8) (x : Ins) (S : List Nat) (j : Nat) : List (List UInt8) := digL k :: nm :: (S.take j).map (fun t => wordS (opAt x t))
theorem prtJ_succ {k : Nat} {nm : List UInt8} {x : Ins} {S : List Nat} {j : Nat} (h : j < S.length) : prtJ k nm x S (j + 1) = prtJ k nm x S j ++ [wordS (opAt x S[j])] := by
  unfold prtJ
  rw [← List.take_append_getElem h, List.map_append]; rfl
theorem prtJ_len {k : Nat} {nm : List UInt8} {x : Ins} {S : List Nat} {j : Nat} (h : j ≤ S.length) : (prtJ k nm x S j).length = 2 + j := by
  unfold prtJ
  simp; omega
theorem prtJ_all {enc : Bool} {k : Nat} {nm : List UInt8} {x : Ins} {l0 l1 l2 : UInt8} (h : fmOf enc x.op = some (nm, [l0, l1, l2])) : prtJ k nm x (selI [l0, l1, l2]) (selI [l0, l1, l2]).length = insParts enc k x := by
  have e1 : fmD enc x.op = (nm, [l0, l1, l2]) := by rw [fmD, h]; rfl
  unfold prtJ insParts
  rw [List.take_length, e1, opsI_sel, List.map_map]; rfl
theorem insL_len {p : Pg} (hr : ReadP p) {k : Nat} (hk : k < p.code.length) : (lineS (insParts p.enc k (p.code.getD k in0))).length ≤ 120 := by
  obtain ⟨nm, l0, l1, l2, hfm, -, -, hop⟩ := hr.form hk
  have e0 : p.code.getD k in0 = p.code[k] := by rw [List.getD_eq_getElem?_getD, List.getElem?_eq_getElem hk]; rfl
  have hn := hr.nc
  rw [e0, ← prtJ_all hfm]
  unfold prtJ
  rw [lineS_cons, List.take_length]
  have h1 := digL_20 (n := k) (by omega)
  have h2 := fmOf_nm hfm
  have h3 : (selI [l0, l1, l2]).length ≤ 3 := selK_le [l0, l1, l2] 3
  have h4 := fm_len (f := fun y : List UInt8 => 32 :: y) (c := 21) (l := (selI [l0, l1, l2]).map (fun t => wordS (opAt p.code[k] t))) (fun y hy => by
    obtain ⟨t, ht, rfl⟩ := List.mem_map.1 hy
    have := wordS_len (hop t ht)
    simp; omega)
  rw [List.length_map] at h4
  simp only [List.flatMap_cons, List.length_append, List.length_cons, List.length_nil] at h2 h4 ⊢
  omega
theorem prt_bd {p : Pg} (hr : ReadP p) : (prt0 p).length ≤ 10 ∧ (∀ k, k ≤ p.ent.length → (prtE p k).length ≤ 62914560) ∧ (∀ k, k ≤ p.code.length → (prtI p k).length ≤ 125829120) ∧ ∀ k, k < p.ent.length → (lineS (entParts k (p.ent.getD k 0))).length ≤ 60 := by
  have h1 := hr.nc
  have h2 := hr.ne
  have h3 : ∀ k, k < p.ent.length → (lineS (entParts k (p.ent.getD k 0))).length ≤ 60 := fun k hk => by
    have e0 : p.ent.getD k 0 = p.ent[k] := by rw [List.getD_eq_getElem?_getD, List.getElem?_eq_getElem hk]; rfl
    have he := layE_put (hr.ent p.ent[k] (List.getElem_mem _))
    rw [e0]
    have g1 := digL_20 (n := k) (by omega)
    have g2 := digL_20 (n := p.ent[k].toNat) (by omega)
    unfold entParts
    rw [lineS_cons]
    simp; omega
  refine ⟨?_, fun k hk => ?_, fun k hk => ?_, h3⟩
  · unfold prt0 hdrP
    rw [lineS_cons]
    split <;> simp
  · have := rng_len (f := fun i => lineS (entParts i (p.ent.getD i 0))) (c := 60) k (fun i hi => h3 i (by omega))
    unfold prtE; omega
  · have := rng_len (f := fun i => lineS (insParts p.enc i (p.code.getD i in0))) (c := 120) k (fun i hi => insL_len hr (by omega))
    unfold prtI; omega

set_option maxHeartbeats 32000000 in
theorem print_spec (p : Pg) (cv ev_ : Value) (w0 : World) (hT : Tab w0) (hp : PgR w0 p cv ev_) (hlc : p.code.length ≤ 4611686018427387904) (hle : p.ent.length ≤ 4611686018427387904) : Ca Tryd.prog 23 #[.agg (pgV p cv ev_).toArray] w0 (fun r w' => r = .tuple #[st (prtB p), .agg #[.int .i64 ((chk p).1 : Int), .int .i64 ((chk p).2 : Int)]] ∧ Ext w0 w') := by
  refine Ca.of Tryd.func23 Tryd.ntmps23 rfl rfl ?_
  refine W.seq ?_
  refine W.region ?_
  refine WL.c rfl (o_boxB rfl ?_)
  intro w1 hC1 hx1 hs1
  obtain ⟨b1, hb1⟩ : ∃ b, b = w0.heap.size := ⟨_, rfl⟩
  rw [← hb1] at hC1 ⊢
  replace hC1 : w1.heap[b1]? = some (.cells (pgV p cv ev_).toArray 26 (0, 0)) := hC1
  have hx : Ext w0 w1 := hx1
  refine WL.c rfl (o_ash (show _ = Value.string _ from rfl) ?_)
  refine WL.c rfl (o_alB TI32 ?_)
  intro w3 hC3 hx3 hs3
  obtain ⟨b3, hb3⟩ : ∃ b, b = w1.heap.size := ⟨_, rfl⟩
  rw [← hb3] at hC3 ⊢
  replace hC3 : w3.heap[b3]? = some (.cells ([.int .i64 0, .int .i64 0]).toArray 32 (0, 0)) := hC3
  have hb3g : w0.heap.size ≤ b3 := by have := hx.size; omega
  replace hx := hx.tr hx3
  replace hC1 := hx3.blk hC1 (fun h => h)
  refine WL.nil ?_
  refine W.seq ?_
  refine W.seq ?_
  refine W.region ?_
  refine WL.c rfl (o_ldA TI26 rfl rfl (show Cells _ b1 0 (pgV p cv ev_) from Cells.of hC1 0 _ (by simp)) rfl ?_)
  refine WL.c rfl (o_call Tryd.call12 (lc rfl ln) ((check_spec p cv ev_ _ (hp.ext hx) hlc hle).mono ?_))
  rintro v17 w17 ⟨rfl, hx17⟩
  replace hx := hx.tr hx17
  replace hC1 := hx17.blk hC1 (fun h => h)
  replace hC3 := hx17.blk hC3 (fun h => h)
  refine WL.c rfl (o_alB TI32 ?_)
  intro wa hCa hxa hsa
  refine WL.u (o_stA TI32 rfl (show _ = Value.agg ([.int .i64 ((chk p).1 : Int), .int .i64 ((chk p).2 : Int)]).toArray from rfl) rfl rfl hCa rfl ?_)
  intro wb4 hC4 hob hsb
  have hxb := Ext.own hxa (Nat.le_refl _) hob
  obtain ⟨b4, hb4⟩ : ∃ b, b = w17.heap.size := ⟨_, rfl⟩
  rw [← hb4] at hC4 ⊢
  clear hCa hxa hsa hob hsb
  replace hx := hx.tr hxb
  replace hC1 := hxb.blk hC1 (fun h => h)
  replace hC3 := hxb.blk hC3 (fun h => h)
  clear hxb
  refine WL.nil ?_
  refine W.seq ?_
  refine W.region ?_
  refine WL.c rfl (o_fa 0 TI32 rfl TI30 rfl rfl ?_)
  refine WL.c rfl (o_ld TI30 rfl rfl (cell_of hC4 rfl) ?_)
  refine WL.c rfl (o_ne rfl rfl ?_)
  refine WL.nil ?_
  refine W.cond rfl (fun c20 => ?_) (fun c20 => ?_)
  · try simp only [decide_eq_true_eq, decide_eq_false_iff_not, Bool.not_eq_true', Bool.not_eq_false', Bool.and_eq_true, Bool.or_eq_true, Bool.and_eq_false_iff, Bool.or_eq_false_iff] at c20
    have hne : (chk p).1 ≠ 0 := by omega
    have heb : prtB p = [] := by rw [prtB, if_neg hne]
    refine W.seq ?_
    refine W.tail 2 rfl (by kernel_rfl) ?_
    refine WS.c rfl ((SO.o rfl (o_ldA TI32 rfl rfl (show Cells _ b4 0 [.int .i64 ((chk p).1 : Int), .int .i64 ((chk p).2 : Int)] from Cells.of ((Only.drew _).blk hC4 (fun h => h)) 0 _ (by simp)) rfl ⟨rfl, rfl⟩))) ?_
    refine WS.c rfl ((SO.o rfl (o_ash (show _ = Value.string _ from rfl) ⟨rfl, rfl⟩))) ?_
    refine WS.nil ?_
    have hxd := Only.drew wb4
    replace hx := hx.tr hxd
    replace hC3 := hxd.blk hC3 (fun h => h)
    refine WL.u (o_stA TI32 rfl (show _ = Value.agg #[.int .i64 ((chk p).1 : Int), .int .i64 ((chk p).2 : Int)] from rfl) rfl rfl (by assumption) rfl ?_)
    intro ws hBs hos hss
    replace hx := hx.trans' hos (fun _ h => h) (fun k hk he => by subst he; omega)
    refine WL.nil ?_
    refine W.ret ?_
    refine retTC rfl TI32 rfl rfl rfl (cells_all (by assumption)) rfl ?_
    exact ⟨by rw [heb]; first | rfl | (congr 1), hx⟩
  · try simp only [decide_eq_true_eq, decide_eq_false_iff_not, Bool.not_eq_true', Bool.not_eq_false', Bool.and_eq_true, Bool.or_eq_true, Bool.and_eq_false_iff, Bool.or_eq_false_iff] at c20
    have hz : (chk p).1 = 0 := by omega
    have hok := chk_zero.1 hz
    have hcz := chk_okP hok
    have heb : prtB p = prtS p := by rw [prtB, if_pos hz]
    have hrd := hok.read
    have hnc := hrd.nc
    have hne := hrd.ne
    obtain ⟨hb0, hbE, hbI, hbe1⟩ := prt_bd hrd
    refine W.skip ?_
    refine W.seq ?_
    refine W.region ?_
    refine WL.c rfl (o_alB TI95 ?_)
    intro w5 hC5 hx5 hs5
    obtain ⟨b5, hb5⟩ : ∃ b, b = wb4.heap.size := ⟨_, rfl⟩
    rw [← hb5] at hC5 ⊢
    replace hC5 : w5.heap[b5]? = some (.cells ([.pointer none, .slice none 0 0]).toArray 95 (0, 0)) := hC5
    have hg5 : w0.heap.size ≤ b5 := by have := hx.size; omega
    have hl1 := (Array.getElem?_eq_some_iff.1 hC1).1
    have hl3 := (Array.getElem?_eq_some_iff.1 hC3).1
    have hn1 : b1 ≠ b5 := by omega
    have hn3 : b3 ≠ b5 := by omega
    replace hx := hx.tr hx5
    replace hC1 := hx5.blk hC1 (fun h => h)
    replace hC3 := hx5.blk hC3 (fun h => h)
    obtain ⟨H0, hH0⟩ : ∃ H, H = b5 := ⟨_, rfl⟩
    have hH0x : w0.heap.size ≤ H0 := by omega
    have hH5 : H0 ≤ b5 := by omega
    have hb3H : b3 < H0 := by omega
    have hM : PrB w5 H0 b5 (.pointer none) (.slice none 0 0) [] := ⟨hC5, .inl rfl, World.ownsRow_nil _ _ _ _, hH5⟩
    clear hC5
    refine WL.nil ?_
    refine W.seq ?_
    refine W.region ?_
    refine WL.c rfl (o_mkF (lc rfl ln) ?_)
    refine WL.c rfl (o_as ?_)
    refine WL.nil ?_
    refine W.seq ?_
    refine W.seq ?_
    refine W.region ?_
    refine WL.c rfl (o_fa 0 TI26 rfl TI4 rfl rfl ?_)
    refine WL.c rfl (o_ld TI4 rfl rfl (cell_of hC1 rfl) ?_)
    refine WL.nil ?_
    refine W.cut (fun e1 w1 => ∃ ad vb, PrB w1 H0 b5 ad vb (prt0 p) ∧ e1 1 = .pointer (some ⟨b1, 0, none⟩) ∧ e1 3 = .pointer (some ⟨b3, 0, none⟩) ∧ e1 5 = .pointer (some ⟨b5, 0, none⟩) ∧ e1 6 = Value.func (.func 46) #[] #[.pointer (some ⟨b5, 0, none⟩)] ∧ w1.heap[b1]? = some (.cells (pgV p cv ev_).toArray 26 (0, 0)) ∧ w1.heap[b3]? = some (.cells #[.int .i64 0, .int .i64 0] 32 (0, 0)) ∧ Ext w0 w1) ?_ ?_
    · -- both ways
      refine W.cond rfl (fun c24 => ?_) (fun c24 => ?_)
      · try simp only [decide_eq_true_eq, decide_eq_false_iff_not, Bool.not_eq_true', Bool.not_eq_false', Bool.and_eq_true, Bool.or_eq_true, Bool.and_eq_false_iff, Bool.or_eq_false_iff] at c24
        refine W.region ?_
        refine WL.c rfl (o_mv ?_)
        refine WL.c rfl (o_bs1 TI96 TI9 (show _ = Value.string _ from rfl) (by decide) (by decide) rfl ?_)
        have hr26 := own_newN (w := w5) (vs := [st [101, 110, 99, 111, 100, 101, 114]]) (el := 9) (n := 1) rfl (by decide)
        have hx26 : Ext w5 (w5.alloc (.cells ([st [101, 110, 99, 111, 100, 101, 114]]).toArray 9)) := Only.alloc w5 _
        obtain ⟨w26, hw26⟩ : ∃ w, w = w5.alloc (.cells ([st [101, 110, 99, 111, 100, 101, 114]]).toArray 9) := ⟨_, rfl⟩
        rw [← hw26] at hr26 hx26
        first | rw [← hw26] | (have hww : w5.alloc (.cells ([st [101, 110, 99, 111, 100, 101, 114]]).toArray 9) = w26 := hw26.symm; refine Eq.mpr (congrArg _ hww) ?_) | (have hww : w5.alloc (.cells ([st [101, 110, 99, 111, 100, 101, 114]]).toArray 9) = w26 := hw26.symm; simp only [Value.cells] at hww ⊢; rw [hww])
        clear hw26
        obtain ⟨g26, hg26⟩ : ∃ b, b = w5.heap.size := ⟨_, rfl⟩
        rw [← hg26] at hr26 ⊢
        replace hx := hx.tr hx26
        replace hC1 := hx26.blk hC1 (fun h => h)
        replace hC3 := hx26.blk hC3 (fun h => h)
        replace hM := hM.ext hx26
        refine WL.c rfl (o_callC (show _ = Value.func (.func 46) #[] #[.pointer (some ⟨b5, 0, none⟩)] from by first | rfl | assumption) Tryd.call46 (lc (show _ = Value.slice (some ⟨g26, 0, none⟩) 1 1 from by first | rfl | assumption) ln) ((line_spec H0 b5 _ _ _ (Value.slice (some ⟨g26, 0, none⟩) 1 1) ([[101, 110, 99, 111, 100, 101, 114]]) _ hM (Sl.own hr26) (by first | exact List.cons_ne_nil _ _ | (unfold prtJ; exact List.cons_ne_nil _ _)) (by first | decide | omega | (simp [entParts]; done)) (by rw [lineS_cons]; simp)).mono ?_))
        rintro v27 w27 ⟨ad27, vb27, hM27, ho27⟩
        replace hC1 := FP.blk ho27 hC1 (by decide) hn1
        replace hC3 := FP.blk ho27 hC3 (by decide) hn3
        replace hx := FP.top hx ho27 hH0x hH5
        clear hM
        have hM := hM27
        clear hM27
        refine WL.nil ?_
        first | exact ⟨_, _, by (have hh : prt0 p = [] ++ lineS [[101, 110, 99, 111, 100, 101, 114]] := by (unfold prt0 hdrP; rw [c24]; rfl)); rw [hh]; exact hM, rfl, rfl, rfl, rfl, hC1, hC3, hx⟩ | exact ⟨_, _, by (have hh : prt0 p = [] ++ lineS [[100, 101, 99, 111, 100, 101, 114]] := by (unfold prt0 hdrP; rw [c24]; rfl)); rw [hh]; exact hM, rfl, rfl, rfl, rfl, hC1, hC3, hx⟩
      · try simp only [decide_eq_true_eq, decide_eq_false_iff_not, Bool.not_eq_true', Bool.not_eq_false', Bool.and_eq_true, Bool.or_eq_true, Bool.and_eq_false_iff, Bool.or_eq_false_iff] at c24
        refine W.region ?_
        refine WL.c rfl (o_mv ?_)
        refine WL.c rfl (o_bs1 TI96 TI9 (show _ = Value.string _ from rfl) (by decide) (by decide) rfl ?_)
        have hr29 := own_newN (w := w5) (vs := [st [100, 101, 99, 111, 100, 101, 114]]) (el := 9) (n := 1) rfl (by decide)
        have hx29 : Ext w5 (w5.alloc (.cells ([st [100, 101, 99, 111, 100, 101, 114]]).toArray 9)) := Only.alloc w5 _
        obtain ⟨w29, hw29⟩ : ∃ w, w = w5.alloc (.cells ([st [100, 101, 99, 111, 100, 101, 114]]).toArray 9) := ⟨_, rfl⟩
        rw [← hw29] at hr29 hx29
        first | rw [← hw29] | (have hww : w5.alloc (.cells ([st [100, 101, 99, 111, 100, 101, 114]]).toArray 9) = w29 := hw29.symm; refine Eq.mpr (congrArg _ hww) ?_) | (have hww : w5.alloc (.cells ([st [100, 101, 99, 111, 100, 101, 114]]).toArray 9) = w29 := hw29.symm; simp only [Value.cells] at hww ⊢; rw [hww])
        clear hw29
        obtain ⟨g29, hg29⟩ : ∃ b, b = w5.heap.size := ⟨_, rfl⟩
        rw [← hg29] at hr29 ⊢
        replace hx := hx.tr hx29
        replace hC1 := hx29.blk hC1 (fun h => h)
        replace hC3 := hx29.blk hC3 (fun h => h)
        replace hM := hM.ext hx29
        refine WL.c rfl (o_callC (show _ = Value.func (.func 46) #[] #[.pointer (some ⟨b5, 0, none⟩)] from by first | rfl | assumption) Tryd.call46 (lc (show _ = Value.slice (some ⟨g29, 0, none⟩) 1 1 from by first | rfl | assumption) ln) ((line_spec H0 b5 _ _ _ (Value.slice (some ⟨g29, 0, none⟩) 1 1) ([[100, 101, 99, 111, 100, 101, 114]]) _ hM (Sl.own hr29) (by first | exact List.cons_ne_nil _ _ | (unfold prtJ; exact List.cons_ne_nil _ _)) (by first | decide | omega | (simp [entParts]; done)) (by rw [lineS_cons]; simp)).mono ?_))
        rintro v30 w30 ⟨ad30, vb30, hM30, ho30⟩
        replace hC1 := FP.blk ho30 hC1 (by decide) hn1
        replace hC3 := FP.blk ho30 hC3 (by decide) hn3
        replace hx := FP.top hx ho30 hH0x hH5
        clear hM
        have hM := hM30
        clear hM30
        refine WL.nil ?_
        first | exact ⟨_, _, by (have hh : prt0 p = [] ++ lineS [[101, 110, 99, 111, 100, 101, 114]] := by (unfold prt0 hdrP; rw [c24]; rfl)); rw [hh]; exact hM, rfl, rfl, rfl, rfl, hC1, hC3, hx⟩ | exact ⟨_, _, by (have hh : prt0 p = [] ++ lineS [[100, 101, 99, 111, 100, 101, 114]] := by (unfold prt0 hdrP; rw [c24]; rfl)); rw [hh]; exact hM, rfl, rfl, rfl, rfl, hC1, hC3, hx⟩
    rintro e w ⟨ad0, vb0, hM, h1, h3, h5, h6, hC1, hC3, hx⟩
    refine W.seq ?_
    refine W.seq ?_
    refine W.region ?_
    refine WL.c rfl (o_fa 2 TI26 rfl TI24 rfl h1 ?_)
    refine WL.c rfl (o_ld TI24 rfl rfl (cell_of hC1 rfl) ?_)
    refine WL.c rfl (o_lenR TI24 rfl (hp.ent.ext hx) ?_)
    refine WL.c rfl (o_mvh (show _ = Value.int _ _ from rfl) ?_)
    refine WL.nil ?_
    refine W.block ?_
    refine W.loop (fun e w => ∃ (k : Nat) (ad vb : Value), k ≤ p.ent.length ∧ e 1 = .pointer (some ⟨b1, 0, none⟩) ∧ e 3 = .pointer (some ⟨b3, 0, none⟩) ∧ e 5 = .pointer (some ⟨b5, 0, none⟩) ∧ e 6 = Value.func (.func 46) #[] #[.pointer (some ⟨b5, 0, none⟩)] ∧ e 32 = ev_ ∧ e 33 = .int .i64 (p.ent.length : Int) ∧ e 34 = .int .i64 (k : Int) ∧ PrB w H0 b5 ad vb (prt0 p ++ prtE p k) ∧ w.heap[b1]? = some (.cells (pgV p cv ev_).toArray 26 (0, 0)) ∧ w.heap[b3]? = some (.cells #[.int .i64 0, .int .i64 0] 32 (0, 0)) ∧ Ext w0 w) (fun e w => p.ent.length - (intOf (e 34)).toNat) ?_ ?_
    · exact ⟨0, _, _, Nat.zero_le _, h1, h3, h5, h6, rfl, rfl, rfl, by simpa [prtE] using hM, hC1, hC3, hx⟩
    rintro e w ⟨k, ad1, vb, hk, h1, h3, h5, h6, h32, h33, h34, hM, hC1, hC3, hx⟩
    have hm34 := h34
    refine W.seq ?_
    refine W.region ?_
    refine WL.c rfl (o_lt h34 h33 ?_)
    refine WL.nil ?_
    refine W.seq ?_
    refine W.cond rfl (fun c35 => ?_) (fun c35 => ?_)
    · try simp only [decide_eq_true_eq, decide_eq_false_iff_not, Bool.not_eq_true', Bool.not_eq_false', Bool.and_eq_true, Bool.or_eq_true, Bool.and_eq_false_iff, Bool.or_eq_false_iff] at c35
      have hk1 : k < p.ent.length := by omega
      have hek := (okE_at hk1).1 (hok.ent k hk1)
      have hgk : p.ent.getD k 0 = p.ent[k] := by rw [List.getD_eq_getElem?_getD, List.getElem?_eq_getElem hk1]; rfl
      have hlk := hbe1 k hk1
      rw [hgk] at hlk
      have hbk := hbE k hk
      refine W.skip ?_
      refine W.seq ?_
      refine W.block ?_
      refine W.seq ?_
      refine W.region ?_
      refine WL.c rfl (o_mvh h34 ?_)
      refine WL.c rfl (o_ix1 TI24 TI3 h32 h34 (hp.ent.ext hx) (by omega) ?_)
      intro b37 o37 hc37 hb37
      refine WL.c rfl (o_ld TI3 rfl rfl (hc37.trans (zs_at hk1)) ?_)
      refine WL.c rfl (o_ash (show _ = Value.int _ _ from rfl) ?_)
      refine WL.c rfl (o_ash (show _ = Value.int _ _ from rfl) ?_)
      refine WL.nil ?_
      refine W.region ?_
      refine WL.c rfl (o_mvh h6 ?_)
      refine WL.c rfl (o_mvh (show _ = Value.int _ _ from rfl) ?_)
      refine WL.c rfl (o_call Tryd.call49 (lc rfl ln) ((itoa_spec k (by omega) _ (hT.ext hx)).mono ?_))
      rintro v41 w41 ⟨rfl, hx41⟩
      replace hx := hx.tr hx41
      replace hC1 := hx41.blk hC1 (fun h => h)
      replace hC3 := hx41.blk hC3 (fun h => h)
      replace hM := hM.ext hx41
      refine WL.c rfl (o_mvh (show _ = Value.int _ _ from rfl) ?_)
      refine WL.c rfl (o_call Tryd.call49 (lc rfl ln) ((itoa_int p.ent[k] (by omega) (by omega) _ (hT.ext hx)).mono ?_))
      rintro v43 w43 ⟨rfl, hx43⟩
      replace hx := hx.tr hx43
      replace hC1 := hx43.blk hC1 (fun h => h)
      replace hC3 := hx43.blk hC3 (fun h => h)
      replace hM := hM.ext hx43
      refine WL.c rfl (o_bsn (vs := [st [116, 121, 112, 101], st (digL k), st (digL p.ent[k].toNat)]) (xs := [(.const (.string (.mk #[116, 121, 112, 101]))), (.tmp 41), (.tmp 43)]) TI96 TI9 rfl (lc (show _ = Value.string _ from rfl) (lc (show _ = Value.string _ from rfl) (lc (show _ = Value.string _ from rfl) ln))) rfl rfl (by decide) (by decide) ?_)
      have hr44 := own_newN (w := w43) (vs := [st [116, 121, 112, 101], st (digL k), st (digL p.ent[k].toNat)]) (el := 9) (n := 3) rfl (by decide)
      have hx44 : Ext w43 (w43.alloc (.cells ([st [116, 121, 112, 101], st (digL k), st (digL p.ent[k].toNat)]).toArray 9)) := Only.alloc w43 _
      obtain ⟨w44, hw44⟩ : ∃ w, w = w43.alloc (.cells ([st [116, 121, 112, 101], st (digL k), st (digL p.ent[k].toNat)]).toArray 9) := ⟨_, rfl⟩
      rw [← hw44] at hr44 hx44
      first | rw [← hw44] | (have hww : w43.alloc (.cells ([st [116, 121, 112, 101], st (digL k), st (digL p.ent[k].toNat)]).toArray 9) = w44 := hw44.symm; refine Eq.mpr (congrArg _ hww) ?_) | (have hww : w43.alloc (.cells ([st [116, 121, 112, 101], st (digL k), st (digL p.ent[k].toNat)]).toArray 9) = w44 := hw44.symm; simp only [Value.cells] at hww ⊢; rw [hww])
      clear hw44
      obtain ⟨g44, hg44⟩ : ∃ b, b = w43.heap.size := ⟨_, rfl⟩
      rw [← hg44] at hr44 ⊢
      replace hx := hx.tr hx44
      replace hC1 := hx44.blk hC1 (fun h => h)
      replace hC3 := hx44.blk hC3 (fun h => h)
      replace hM := hM.ext hx44
      refine WL.c rfl (o_callC (show _ = Value.func (.func 46) #[] #[.pointer (some ⟨b5, 0, none⟩)] from by first | rfl | assumption) Tryd.call46 (lc (show _ = Value.slice (some ⟨g44, 0, none⟩) 3 3 from by first | rfl | assumption) ln) ((line_spec H0 b5 _ _ _ (Value.slice (some ⟨g44, 0, none⟩) 3 3) (entParts k p.ent[k]) _ hM (Sl.own hr44) (by first | exact List.cons_ne_nil _ _ | (unfold prtJ; exact List.cons_ne_nil _ _)) (by first | decide | omega | (simp [entParts]; done)) (by simp only [List.length_append]; omega)).mono ?_))
      rintro v45 w45 ⟨ad45, vb45, hM45, ho45⟩
      replace hC1 := FP.blk ho45 hC1 (by decide) hn1
      replace hC3 := FP.blk ho45 hC3 (by decide) hn3
      replace hx := FP.top hx ho45 hH0x hH5
      clear hM
      have hM := hM45
      clear hM45
      refine WL.nil ?_
      refine W.region ?_
      refine WL.c rfl (o_addi h34 rfl (by omega) ?_)
      refine WL.c rfl (o_mvh (show _ = Value.int _ _ from rfl) ?_)
      refine WL.nil ?_
      refine ⟨⟨k + 1, _, _, by omega, h1, h3, h5, h6, h32, h33, rfl, by rw [prtE_succ, ← List.append_assoc, hgk]; exact hM, hC1, hC3, hx⟩, ?_⟩
      show p.ent.length - ((k : Int) + 1).toNat < _
      rw [hm34]; simp [intOf]; omega
    · try simp only [decide_eq_true_eq, decide_eq_false_iff_not, Bool.not_eq_true', Bool.not_eq_false', Bool.and_eq_true, Bool.or_eq_true, Bool.and_eq_false_iff, Bool.or_eq_false_iff] at c35
      obtain rfl : k = p.ent.length := by omega
      refine W.exit ?_
      refine W.seq ?_
      refine W.seq ?_
      refine W.region ?_
      refine WL.c rfl (o_fa 1 TI26 rfl TI23 rfl h1 ?_)
      refine WL.c rfl (o_ld TI23 rfl rfl (cell_of hC1 rfl) ?_)
      refine WL.c rfl (o_lenR TI23 rfl (hp.code.ext hx) ?_)
      refine WL.c rfl (o_mvh (show _ = Value.int _ _ from rfl) ?_)
      refine WL.nil ?_
      refine W.block ?_
      refine W.loop (fun e w => ∃ (k : Nat) (ad vb : Value), k ≤ p.code.length ∧ e 1 = .pointer (some ⟨b1, 0, none⟩) ∧ e 3 = .pointer (some ⟨b3, 0, none⟩) ∧ e 5 = .pointer (some ⟨b5, 0, none⟩) ∧ e 6 = Value.func (.func 46) #[] #[.pointer (some ⟨b5, 0, none⟩)] ∧ e 48 = cv ∧ e 49 = .int .i64 (p.code.length : Int) ∧ e 50 = .int .i64 (k : Int) ∧ PrB w H0 b5 ad vb (prt0 p ++ prtE p p.ent.length ++ prtI p k) ∧ w.heap[b1]? = some (.cells (pgV p cv ev_).toArray 26 (0, 0)) ∧ w.heap[b3]? = some (.cells #[.int .i64 0, .int .i64 0] 32 (0, 0)) ∧ Ext w0 w) (fun e w => p.code.length - (intOf (e 50)).toNat) ?_ ?_
      · exact ⟨0, _, _, Nat.zero_le _, h1, h3, h5, h6, rfl, rfl, rfl, by simpa [prtI] using hM, hC1, hC3, hx⟩
      rintro e w ⟨k, ad1, vb, hk, h1, h3, h5, h6, h48, h49, h50, hM, hC1, hC3, hx⟩
      have hm50 := h50
      refine W.seq ?_
      refine W.region ?_
      refine WL.c rfl (o_lt h50 h49 ?_)
      refine WL.nil ?_
      refine W.seq ?_
      refine W.cond rfl (fun c51 => ?_) (fun c51 => ?_)
      · try simp only [decide_eq_true_eq, decide_eq_false_iff_not, Bool.not_eq_true', Bool.not_eq_false', Bool.and_eq_true, Bool.or_eq_true, Bool.and_eq_false_iff, Bool.or_eq_false_iff] at c51
        have hk1 : k < p.code.length := by omega
        obtain ⟨sb, so, sc, hve, hsc⟩ := Sl.ins (hp.code.ext hx) hk1
        rw [hve] at h48
        obtain ⟨nm, l0, l1, l2, hfm, hop, hLI, hopb⟩ := hrd.form hk1
        have hlk := insL_len hrd hk1
        have hbk := hbI k hk
        have hbE1 := hbE p.ent.length (Nat.le_refl _)
        obtain ⟨x, hxk⟩ : ∃ x, p.code[k] = x := ⟨_, rfl⟩
        have hgk : p.code.getD k in0 = x := by rw [← hxk, List.getD_eq_getElem?_getD, List.getElem?_eq_getElem hk1]; rfl
        rw [hxk] at hsc hfm hop hLI hopb
        rw [hgk] at hlk
        have hpa := prtJ_all (k := k) hfm
        refine W.skip ?_
        refine W.seq ?_
        refine W.block ?_
        refine W.seq ?_
        refine W.region ?_
        refine WL.c rfl (o_mvh h50 ?_)
        refine WL.c rfl (o_ixB (i := k) TI23 TI28 h48 h50 hk1 ?_)
        refine WL.c rfl (o_ldA TI28 rfl rfl hsc rfl ?_)
        refine WL.c rfl (o_alB TI28 ?_)
        intro wa hCa hxa hsa
        refine WL.c rfl (o_ash (show _ = Value.int _ _ from rfl) ?_)
        refine WL.u (o_stA TI28 rfl (show _ = Value.agg (insV x).toArray from rfl) rfl rfl hCa rfl ?_)
        intro wb10 hC10 hob hsb
        have hxb := Ext.own hxa (Nat.le_refl _) hob
        obtain ⟨b10, hb10⟩ : ∃ b, b = w.heap.size := ⟨_, rfl⟩
        rw [← hb10] at hC10 ⊢
        clear hCa hxa hsa hob hsb
        replace hx := hx.tr hxb
        replace hC1 := hxb.blk hC1 (fun h => h)
        replace hC3 := hxb.blk hC3 (fun h => h)
        replace hM := hM.ext hxb
        have hn10 : b10 ≠ b5 := fun h => by rw [h, hM.cell] at hC10; cases hC10
        clear hxb
        refine WL.nil ?_
        refine W.seq ?_
        refine W.region ?_
        refine WL.c rfl (o_ldA TI26 rfl h1 (show Cells _ b1 0 (pgV p cv ev_) from Cells.of hC1 0 _ (by simp)) rfl ?_)
        refine WL.c rfl (o_fa 0 TI28 rfl TI3 rfl rfl ?_)
        refine WL.c rfl (o_ld TI3 rfl rfl (cell_of hC10 rfl) ?_)
        refine WL.c rfl (o_call Tryd.call28 (lc rfl (lc rfl ln)) ((of_spec p cv ev_ x.op _ (hp.ext hx)).mono ?_))
        rintro v59 w59 ⟨rfl, hx59⟩
        rw [fmP_some hfm]
        replace hx := hx.tr hx59
        replace hC1 := hx59.blk hC1 (fun h => h)
        replace hC3 := hx59.blk hC3 (fun h => h)
        replace hC10 := hx59.blk hC10 (fun h => h)
        replace hM := hM.ext hx59
        refine WL.c rfl (o_mvh (by first | exact (show _ = Value.tuple _ from rfl) | exact rfl) ?_)
        refine WL.c rfl (o_ext rfl rfl ?_)
        refine WL.c rfl (o_ext rfl rfl ?_)
        refine WL.c rfl (o_alB TI61 ?_)
        intro wa hCa hxa hsa
        refine WL.u (o_stA TI61 rfl (show _ = Value.agg ([st nm, st [tl l0, tl l1, tl l2]]).toArray from rfl) rfl rfl hCa rfl ?_)
        intro wb11 hC11 hob hsb
        have hxb := Ext.own hxa (Nat.le_refl _) hob
        obtain ⟨b11, hb11⟩ : ∃ b, b = w59.heap.size := ⟨_, rfl⟩
        rw [← hb11] at hC11 ⊢
        clear hCa hxa hsa hob hsb
        replace hx := hx.tr hxb
        replace hC1 := hxb.blk hC1 (fun h => h)
        replace hC3 := hxb.blk hC3 (fun h => h)
        replace hC10 := hxb.blk hC10 (fun h => h)
        replace hM := hM.ext hxb
        clear hxb
        refine WL.c rfl (o_ash (show _ = Value.bool _ from rfl) ?_)
        refine WL.nil ?_
        refine W.seq ?_
        obtain ⟨wd, hwd⟩ : ∃ wd, wd = World.drew wb11 := ⟨_, rfl⟩
        have hxd : Ext wb11 wd := hwd ▸ Only.drew wb11
        replace hx := hx.tr hxd
        replace hC1 := hxd.blk hC1 (fun h => h)
        replace hC3 := hxd.blk hC3 (fun h => h)
        replace hC10 := hxd.blk hC10 (fun h => h)
        replace hC11 := hxd.blk hC11 (fun h => h)
        replace hM := hM.ext hxd
        refine W.draw (Ext) [(1, fun v _ => v = (Value.pointer (some ⟨b1, 0, none⟩))), (3, fun v _ => v = (Value.pointer (some ⟨b3, 0, none⟩))), (5, fun v _ => v = (Value.pointer (some ⟨b5, 0, none⟩))), (6, fun v _ => v = (Value.func (.func 46) #[] #[.pointer (some ⟨b5, 0, none⟩)])), (9, fun v _ => v = (Value.int .i64 (k : Int))), (10, fun v _ => v = (Value.pointer (some ⟨b10, 0, none⟩))), (11, fun v _ => v = (Value.pointer (some ⟨b11, 0, none⟩))), (48, fun v _ => v = (Value.slice (some ⟨sb, so, none⟩) p.code.length sc)), (49, fun v _ => v = (Value.int .i64 (p.code.length : Int))), (50, fun v _ => v = (Value.int .i64 (k : Int)))] rfl (by kernel_rfl) (Only.refl No) (fun _ _ _ h k => h.trans k) ⟨Mono.eq, Mono.eq, Mono.eq, Mono.eq, Mono.eq, Mono.eq, Mono.eq, Mono.eq, Mono.eq, Mono.eq, trivial⟩ ⟨h1, h3, h5, h6, rfl, rfl, rfl, h48, h49, h50, trivial⟩ ?_
        refine WD.p rfl (fun e w hR hh => by obtain ⟨h9, -⟩ := hh; exact SG.n (o_mvh h9 ⟨rfl, Only.refl No _⟩)) ?_
        refine WD.p rfl (fun e w hR hh => by obtain ⟨h62, -⟩ := hh; rw [← hwd] at hR; exact SG.n (o_call Tryd.call49 (lc h62 ln) ((itoa_spec k (by omega) _ (hT.ext (hx.tr hR))).mono (fun v w' hh => hh)))) ?_
        refine WD.p rfl (fun e w hR hh => by obtain ⟨h11, -⟩ := hh; exact SG.n (o_fa 0 TI61 rfl TI9 rfl h11 ⟨rfl, Only.refl No _⟩)) ?_
        refine WD.p rfl (fun e w hR hh => by obtain ⟨h64, -⟩ := hh; rw [← hwd] at hR; have hc9 := hR.blk hC11 (fun h => h); exact SG.n (o_ld TI9 rfl h64 (cell_of hc9 rfl) ⟨rfl, Only.refl No _⟩)) ?_
        refine WD.q (fun v w => w.ownsRow wd.heap.size 9 1 v 2 [st (digL k), st nm]) (fun v w w2 hR hh => own_ext hh hR) rfl (fun e w hR hh => by obtain ⟨h65, h63, -⟩ := hh; rw [← hwd] at hR; exact SG.n (o_bsn (vs := [st (digL k), st nm]) (xs := [(.tmp 63), (.tmp 65)]) TI96 TI9 rfl (lc h63 (lc h65 ln)) rfl rfl (by decide) (by decide) ⟨own_mono (own_newN rfl (by decide)) hR.size, Only.alloc w _⟩)) ?_
        refine WD.q (fun v w => w.ownsRow wd.heap.size 9 1 v 2 [st (digL k), st nm]) (fun v w w2 hR hh => own_ext hh hR) rfl (fun e w hR hh => by obtain ⟨h66, -⟩ := hh; exact SG.n (o_as ⟨h66, Only.refl No _⟩)) ?_
        rintro e w hR ⟨h13, h66, h65, h64, h63, h62, h1, h3, h5, h6, h9, h10, h11, h48, h49, h50, -⟩
        rw [← hwd] at hR
        obtain ⟨v13, hv13⟩ : ∃ v, v = e 13 := ⟨_, rfl⟩
        have hw13 := h13
        clear h13
        rw [← hv13] at hw13
        replace hv13 := hv13.symm
        obtain ⟨B13, hB13⟩ : ∃ B, B = wd.heap.size := ⟨_, rfl⟩
        rw [← hB13] at hw13
        have hB13g : w0.heap.size ≤ B13 := by have := hx.size; omega
        have hB13s : B13 ≤ w.heap.size := by rw [hB13]; exact hR.size
        replace hx := hx.tr hR
        replace hC1 := hR.blk hC1 (fun h => h)
        replace hC3 := hR.blk hC3 (fun h => h)
        replace hC10 := hR.blk hC10 (fun h => h)
        replace hC11 := hR.blk hC11 (fun h => h)
        replace hM := hM.ext hR
        refine W.seq ?_
        refine W.seq ?_
        refine W.region ?_
        refine WL.c rfl (o_ldA TI61 rfl h11 (show Cells _ b11 0 [st nm, st [tl l0, tl l1, tl l2]] from Cells.of hC11 0 _ (by simp)) rfl ?_)
        refine WL.c rfl (o_call Tryd.call29 (lc rfl (lc h10 ln)) ((operands_spec b10 nm [tl l0, tl l1, tl l2] _ rfl).mono ?_))
        rintro v68 w68 ⟨hr68, hx68⟩
        rw [selI_tl] at hr68
        obtain ⟨S, hS⟩ : ∃ S, S = selI [l0, l1, l2] := ⟨_, rfl⟩
        have hSl := selK_le [l0, l1, l2] 3
        rw [← hS] at hr68 hLI hopb hpa
        replace hSl : S.length ≤ 3 := by rw [hS]; exact hSl
        have hS3 : ∀ t ∈ S, t < 3 := fun t ht => selK_lt (hS ▸ ht)
        replace hx := hx.tr hx68
        replace hC1 := hx68.blk hC1 (fun h => h)
        replace hC3 := hx68.blk hC3 (fun h => h)
        replace hC10 := hx68.blk hC10 (fun h => h)
        replace hM := hM.ext hx68
        replace hw13 := own_ext hw13 hx68
        replace hB13s := Nat.le_trans hB13s hx68.size
        obtain ⟨B68, hB68⟩ : ∃ B, B = w.heap.size := ⟨_, rfl⟩
        rw [← hB68] at hr68
        refine WL.c rfl (o_lenR TI64 rfl (Sl.own (show World.ownsRow _ _ _ _ _ (S.map (ptrJ b10)).length (S.map (ptrJ b10)) from by rw [List.length_map]; exact hr68)) ?_)
        refine WL.c rfl (o_mvh (show _ = Value.int _ _ from rfl) ?_)
        refine WL.nil ?_
        refine W.block ?_
        refine W.loop (fun e w => ∃ (j : Nat) (v13 : Value), j ≤ S.length ∧ e 1 = .pointer (some ⟨b1, 0, none⟩) ∧ e 3 = .pointer (some ⟨b3, 0, none⟩) ∧ e 5 = .pointer (some ⟨b5, 0, none⟩) ∧ e 6 = Value.func (.func 46) #[] #[.pointer (some ⟨b5, 0, none⟩)] ∧ e 48 = .slice (some ⟨sb, so, none⟩) p.code.length sc ∧ e 49 = .int .i64 (p.code.length : Int) ∧ e 50 = .int .i64 (k : Int) ∧ e 13 = v13 ∧ e 68 = v68 ∧ e 69 = .int .i64 (S.length : Int) ∧ e 70 = .int .i64 (j : Int) ∧ w.ownsRow B13 9 1 v13 (prtJ k nm x S j).length ((prtJ k nm x S j).map st) ∧ PrB w H0 b5 ad1 vb (prt0 p ++ prtE p p.ent.length ++ prtI p k) ∧ w.ownsRow B68 67 1 v68 S.length (S.map (ptrJ b10)) ∧ w.heap[b10]? = some (.cells (insV x).toArray 28 (0, 0)) ∧ B13 ≤ w.heap.size ∧ w.heap[b1]? = some (.cells (pgV p cv ev_).toArray 26 (0, 0)) ∧ w.heap[b3]? = some (.cells #[.int .i64 0, .int .i64 0] 32 (0, 0)) ∧ Ext w0 w) (fun e w => S.length - (intOf (e 70)).toNat) ?_ ?_
        · exact ⟨0, v13, Nat.zero_le _, h1, h3, h5, h6, h48, h49, h50, hv13, rfl, by first | rfl | (show Value.int _ _ = Value.int _ _; simp), rfl, by simpa [prtJ] using hw13, hM, hr68, hC10, hB13s, hC1, hC3, hx⟩
        rintro e w ⟨j, v13, hj, h1, h3, h5, h6, h48, h49, h50, h13, h68, h69, h70, hw13, hM, hr68, hC10, hB13s, hC1, hC3, hx⟩
        have hm70 := h70
        refine W.seq ?_
        refine W.region ?_
        refine WL.c rfl (o_lt h70 h69 ?_)
        refine WL.nil ?_
        refine W.seq ?_
        refine W.cond rfl (fun c71 => ?_) (fun c71 => ?_)
        · try simp only [decide_eq_true_eq, decide_eq_false_iff_not, Bool.not_eq_true', Bool.not_eq_false', Bool.and_eq_true, Bool.or_eq_true, Bool.and_eq_false_iff, Bool.or_eq_false_iff] at c71
          have hj1 : j < S.length := by omega
          have ht3 := hS3 S[j] (List.getElem_mem _)
          have hob := hopb S[j] (List.getElem_mem _)
          have hpl := prtJ_len (k := k) (nm := nm) (x := x) hj
          refine W.skip ?_
          refine W.seq ?_
          refine W.block ?_
          refine W.seq ?_
          refine W.region ?_
          refine WL.c rfl (o_ix1 TI64 TI67 h68 h70 (Sl.own hr68) (by omega) ?_)
          intro b72 o72 hc72 hb72
          refine WL.c rfl (o_ld TI67 rfl rfl (show _ = some (ptrJ b10 S[j]) from hc72.trans (by simp [hj1])) ?_)
          refine WL.c rfl (o_ash (by first | exact (show _ = Value.pointer _ from rfl) | exact rfl) ?_)
          refine WL.nil ?_
          refine W.seq ?_
          refine W.region ?_
          refine WL.c rfl (o_mvh (by first | exact (show _ = Value.pointer _ from rfl) | exact rfl) ?_)
          refine WL.c rfl (o_nil (show _ = Value.pointer (some ⟨b10, 1 + S[j], none⟩) from rfl) ?_)
          refine WL.c rfl (o_ld TI3 rfl rfl (cell_of hC10 (ins_opAt x ht3)) ?_)
          refine WL.c rfl (o_eq rfl rfl ?_)
          refine WL.nil ?_
          refine W.cond rfl (fun c77 => ?_) (fun c77 => ?_)
          · try simp only [decide_eq_true_eq, decide_eq_false_iff_not, Bool.not_eq_true', Bool.not_eq_false', Bool.and_eq_true, Bool.or_eq_true, Bool.and_eq_false_iff, Bool.or_eq_false_iff] at c77
            have hwo : wordS (opAt x S[j]) = [45] := by unfold wordS; rw [if_pos (by omega)]
            refine W.region ?_
            refine WL.c rfl (o_mvh h13 ?_)
            refine WL.ap1 (B13) rfl rfl TI96 TI9 (show _ = Value.string _ from rfl) rfl hw13 (by decide) (by decide) rfl (one1 rfl) rfl (by rw [maxLen_eq]; omega) (by omega) hB13s ?_
            intro v13n w80n h13n ho80n
            have hs13 := fun q (hq : v13.ownBlock = some q) => (hw13.lt q hq).1
            replace hC1 := ho80n.blk hC1 (own_off hw13 hC1 (by decide))
            replace hC3 := ho80n.blk hC3 (own_off hw13 hC3 (by decide))
            replace hC10 := ho80n.blk hC10 (own_off hw13 hC10 (by decide))
            replace hM := hM.only ho80n (own_off hw13 hM.cell (by decide)) (fun q hq hF => own_row_off hw13 hM.row (by decide) q hq hF)
            replace hr68 := own_only hr68 ho80n (fun q hq hF => own_row_off hw13 hr68 (by decide) q hq hF)
            replace hx := hx.trans' ho80n (fun _ h => h) (fun q hq hF => by have := hs13 q hF; omega)
            replace hB13s := Nat.le_trans hB13s ho80n.size
            clear hw13
            have hw13 : w80n.ownsRow B13 9 1 v13n (prtJ k nm x S (j + 1)).length ((prtJ k nm x S (j + 1)).map st) := by rw [prtJ_succ hj1, hwo, List.map_append, List.length_append]; exact h13n
            refine WL.c rfl (o_ash (by first | exact (show _ = Value.slice _ _ _ from rfl) | exact rfl) ?_)
            refine WL.nil ?_
            refine W.region ?_
            refine WL.c rfl (o_addi h70 rfl (by omega) ?_)
            refine WL.c rfl (o_mvh (show _ = Value.int _ _ from rfl) ?_)
            refine WL.nil ?_
            refine ⟨⟨j + 1, v13n, by omega, h1, h3, h5, h6, h48, h49, h50, rfl, h68, h69, rfl, hw13, hM, hr68, hC10, hB13s, hC1, hC3, hx⟩, ?_⟩
            show S.length - ((j : Int) + 1).toNat < _
            rw [hm70]; simp [intOf]; omega
          · try simp only [decide_eq_true_eq, decide_eq_false_iff_not, Bool.not_eq_true', Bool.not_eq_false', Bool.and_eq_true, Bool.or_eq_true, Bool.and_eq_false_iff, Bool.or_eq_false_iff] at c77
            have hwo : wordS (opAt x S[j]) = digL (opAt x S[j]).toNat := by unfold wordS; rw [if_neg (by omega)]
            refine W.region ?_
            refine WL.c rfl (o_mvh h13 ?_)
            refine WL.c rfl (o_mvh (by first | exact (show _ = Value.pointer _ from rfl) | exact rfl) ?_)
            refine WL.c rfl (o_nil (show _ = Value.pointer (some ⟨b10, 1 + S[j], none⟩) from rfl) ?_)
            refine WL.c rfl (o_ld TI3 rfl rfl (cell_of hC10 (ins_opAt x ht3)) ?_)
            refine WL.c rfl (o_call Tryd.call49 (lc rfl ln) ((itoa_int (opAt x S[j]) (by omega) (by omega) _ (hT.ext hx)).mono ?_))
            rintro v85 w85 ⟨rfl, hx85⟩
            replace hx := hx.tr hx85
            replace hC1 := hx85.blk hC1 (fun h => h)
            replace hC3 := hx85.blk hC3 (fun h => h)
            replace hC10 := hx85.blk hC10 (fun h => h)
            replace hM := hM.ext hx85
            replace hw13 := own_ext hw13 hx85
            replace hr68 := own_ext hr68 hx85
            replace hB13s := Nat.le_trans hB13s hx85.size
            refine WL.ap1 (B13) rfl rfl TI96 TI9 (show _ = Value.string _ from rfl) rfl hw13 (by decide) (by decide) rfl (one1 rfl) rfl (by rw [maxLen_eq]; omega) (by omega) hB13s ?_
            intro v13n w87n h13n ho87n
            have hs13 := fun q (hq : v13.ownBlock = some q) => (hw13.lt q hq).1
            replace hC1 := ho87n.blk hC1 (own_off hw13 hC1 (by decide))
            replace hC3 := ho87n.blk hC3 (own_off hw13 hC3 (by decide))
            replace hC10 := ho87n.blk hC10 (own_off hw13 hC10 (by decide))
            replace hM := hM.only ho87n (own_off hw13 hM.cell (by decide)) (fun q hq hF => own_row_off hw13 hM.row (by decide) q hq hF)
            replace hr68 := own_only hr68 ho87n (fun q hq hF => own_row_off hw13 hr68 (by decide) q hq hF)
            replace hx := hx.trans' ho87n (fun _ h => h) (fun q hq hF => by have := hs13 q hF; omega)
            replace hB13s := Nat.le_trans hB13s ho87n.size
            clear hw13
            have hw13 : w87n.ownsRow B13 9 1 v13n (prtJ k nm x S (j + 1)).length ((prtJ k nm x S (j + 1)).map st) := by rw [prtJ_succ hj1, hwo, List.map_append, List.length_append]; exact h13n
            refine WL.c rfl (o_ash (by first | exact (show _ = Value.slice _ _ _ from rfl) | exact rfl) ?_)
            refine WL.nil ?_
            refine W.region ?_
            refine WL.c rfl (o_addi h70 rfl (by omega) ?_)
            refine WL.c rfl (o_mvh (show _ = Value.int _ _ from rfl) ?_)
            refine WL.nil ?_
            refine ⟨⟨j + 1, v13n, by omega, h1, h3, h5, h6, h48, h49, h50, rfl, h68, h69, rfl, hw13, hM, hr68, hC10, hB13s, hC1, hC3, hx⟩, ?_⟩
            show S.length - ((j : Int) + 1).toNat < _
            rw [hm70]; simp [intOf]; omega
        · try simp only [decide_eq_true_eq, decide_eq_false_iff_not, Bool.not_eq_true', Bool.not_eq_false', Bool.and_eq_true, Bool.or_eq_true, Bool.and_eq_false_iff, Bool.or_eq_false_iff] at c71
          obtain rfl : j = S.length := by omega
          have hpl := prtJ_len (k := k) (nm := nm) (x := x) hj
          refine W.exit ?_
          refine W.region ?_
          refine WL.c rfl (o_mvh h6 ?_)
          refine WL.c rfl (o_mvh h13 ?_)
          refine WL.c rfl (o_callC (show _ = Value.func (.func 46) #[] #[.pointer (some ⟨b5, 0, none⟩)] from by first | rfl | assumption) Tryd.call46 (lc (show _ = v13 from by first | rfl | assumption) ln) ((line_spec H0 b5 _ _ _ (v13) (prtJ k nm x S S.length) _ hM (Sl.own hw13) (by first | exact List.cons_ne_nil _ _ | (unfold prtJ; exact List.cons_ne_nil _ _)) (by first | decide | omega | (simp [entParts]; done)) (by rw [hpa]; simp only [List.length_append]; omega)).mono ?_))
          rintro v91 w91 ⟨ad91, vb91, hM91, ho91⟩
          replace hC1 := FP.blk ho91 hC1 (by decide) hn1
          replace hC3 := FP.blk ho91 hC3 (by decide) hn3
          replace hx := FP.top hx ho91 hH0x hH5
          clear hM
          have hM := hM91
          clear hM91
          refine WL.nil ?_
          refine W.region ?_
          refine WL.c rfl (o_addi h50 rfl (by omega) ?_)
          refine WL.c rfl (o_mvh (show _ = Value.int _ _ from rfl) ?_)
          refine WL.nil ?_
          refine ⟨⟨k + 1, _, _, by omega, h1, h3, h5, h6, h48.trans hve.symm, h49, rfl, by rw [prtI_succ, ← List.append_assoc, hgk, ← hpa]; exact hM, hC1, hC3, hx⟩, ?_⟩
          show p.code.length - ((k : Int) + 1).toNat < _
          rw [hm50]; simp [intOf]; omega
      · try simp only [decide_eq_true_eq, decide_eq_false_iff_not, Bool.not_eq_true', Bool.not_eq_false', Bool.and_eq_true, Bool.or_eq_true, Bool.and_eq_false_iff, Bool.or_eq_false_iff] at c51
        obtain rfl : k = p.code.length := by omega
        refine W.exit ?_
        refine W.seq ?_
        refine W.region ?_
        refine WL.c rfl (o_call Tryd.call50 (lc h5 ln) ((bstr_spec H0 b5 _ _ _ _ hM).mono ?_))
        rintro v93 w93 ⟨rfl, ho93⟩
        replace hC3 := ho93.blk hC3 (by omega)
        replace hx := hx.trans' ho93 (fun _ h => h) (fun k hk hF => by omega)
        refine WL.c rfl (o_bldC (cs := [(.int .i64 0), (.int .i64 0)]) TI32 (Sizes.cons TI30 (Sizes.cons TI3 Sizes.nil)) rfl lnp rfl rfl ?_)
        refine WL.c rfl (o_ash (show _ = Value.string _ from rfl) ?_)
        refine WL.u (o_stA TI32 h3 rfl rfl rfl (by assumption) rfl ?_)
        intro ws hBs hos hss
        replace hx := hx.trans' hos (fun _ h => h) (fun k hk he => by subst he; omega)
        refine WL.nil ?_
        refine W.ret ?_
        refine retTC rfl TI32 rfl (show _ = st (prt0 p ++ prtE p p.ent.length ++ prtI p p.code.length) from rfl) h3 (cells_all (by assumption)) rfl ?_
        exact ⟨by rw [hcz, heb]; rfl, hx⟩
end Go.Proofs.YthlbhnefldaoiaaDoor

set_option linter.unusedSimpArgs false
set_option linter.unusedVariables false
set_option maxRecDepth 100000
namespace Go.Proofs.YthlbhnefldaoiaaDoor
open Go Go.Vc Go.RowKit Go.Proofs

theorem dec_enc {p : Pg} (h : OkP p) : decA (lay p) = (0, 0) ∧ decQ (lay p) = p := by
  obtain ⟨h1, h2, h3, h4⟩ := dec_lay h.read []
  rw [List.append_nil] at h1 h2 h3 h4
  rw [← h2] at h4
  have hA : decA (lay p) = (0, 0) := by
    rw [decA_end h1 h4 (Nat.lt_irrefl _), h3, chk_okP h]
    rfl
  refine ⟨hA, ?_⟩
  unfold decQ
  rw [hA, if_pos rfl, h3]
theorem encB_ok {p : Pg} (h : OkP p) : encB p = lay p := by rw [encB, if_pos (chk_zero.2 h)]
theorem prtB_ok {p : Pg} (h : OkP p) : prtB p = prtS p := by rw [prtB, if_pos (chk_zero.2 h)]
def smL (b : Int) : List Ins := [⟨1, -1, b, 0⟩, ⟨20, 0, 0, 0⟩]
def smP (b : Int) : Pg := ⟨false, smL b, [0]⟩
theorem smP_ok : OkP (smP 2) := ⟨by unfold BigP; decide, fun j hj => by
  have : j = 0 ∨ j = 1 := by have : j < 2 := hj; omega
  rcases this with rfl | rfl
  · exact ⟨([117, 105, 110, 116], [107, 119, 32]), rfl, by unfold fitP; decide, by unfold fitP; decide, by unfold fitP; decide, by unfold moreP; rw [if_neg (by decide), if_neg (by decide), if_neg (by decide), if_neg (by decide)]; trivial⟩
  · exact ⟨([114, 101, 116], [32, 32, 32]), rfl, by unfold fitP; decide, by unfold fitP; decide, by unfold fitP; decide, by unfold moreP; rw [if_neg (by decide), if_neg (by decide), if_neg (by decide), if_neg (by decide)]; trivial⟩, fun j hj => by
  have : j = 0 := by have : j < 1 := hj; omega
  subst this
  unfold OkE; decide⟩
theorem smP_bad : chk (smP 3) = (140, 0) := chk_eq (.inr (.inl ⟨by unfold BigP; decide, by decide, fun j hj => absurd hj (by omega), fun ⟨f, hf⟩ => by
  have h1 := hf.fm
  have h2 : f = ([117, 105, 110, 116], [107, 119, 32]) := by
    have : fmOf false 1 = some ([117, 105, 110, 116], [107, 119, 32]) := rfl
    have h3 : fmOf false 1 = some f := h1
    rw [this] at h3; cases h3; rfl
  subst h2
  have h4 := hf.fb
  unfold fitP at h4
  revert h4
  decide, rfl⟩))
theorem smP_lay : lay (smP 2) = [109, 0, 1, 0, 2, 1, 0, 3, 20] := by decide +kernel
theorem smP_txt : prtS (smP 2) = [100, 101, 99, 111, 100, 101, 114] ++ [10] ++ ([116, 121, 112, 101, 32, 48, 32, 48] ++ [10]) ++ ([48, 32, 117, 105, 110, 116, 32, 45, 32, 50] ++ [10] ++ ([49, 32, 114, 101, 116] ++ [10])) := by
  have e1 : prt0 (smP 2) = [100, 101, 99, 111, 100, 101, 114] ++ [10] := by unfold prt0 hdrP; rw [lineS_cons]; rfl
  have e2 : prtE (smP 2) 1 = [116, 121, 112, 101, 32, 48, 32, 48] ++ [10] := by
    rw [show (1 : Nat) = 0 + 1 from rfl, prtE_succ]
    show [] ++ lineS [[116, 121, 112, 101], digL 0, digL (0 : Int).toNat] = _
    rw [show (0 : Int).toNat = 0 from rfl, digL_lt (by decide), lineS_cons]; rfl
  have e3 : prtI (smP 2) 2 = [48, 32, 117, 105, 110, 116, 32, 45, 32, 50] ++ [10] ++ ([49, 32, 114, 101, 116] ++ [10]) := by
    rw [show (2 : Nat) = 0 + 1 + 1 from rfl, prtI_succ, prtI_succ]
    show [] ++ lineS [digL 0, [117, 105, 110, 116], wordS (-1), wordS 2] ++ lineS [digL (0 + 1), [114, 101, 116]] = _
    rw [show wordS (-1) = [45] from rfl, show wordS 2 = digL 2 from rfl, digL_lt (by decide), digL_lt (by decide), digL_lt (by decide), lineS_cons, lineS_cons]; rfl
  show prt0 (smP 2) ++ prtE (smP 2) 1 ++ prtI (smP 2) 2 = _
  rw [e1, e2, e3]


theorem lay_len {p : Pg} (hr : ReadP p) : (lay p).length ≤ 60000000 := by
  obtain ⟨h1, h2, h3, h4⟩ := lay_bd hr p.code.length
  rw [List.take_length] at h4
  unfold lay
  rw [List.length_append]; omega
theorem encode_ok (p : Pg) (hok : OkP p) (cv ev_ : Value) (w0 : World) (hp : PgR w0 p cv ev_) : Ca Tryd.prog 13 #[.agg (pgV p cv ev_).toArray] w0 (fun r w' => ∃ v, r = .tuple #[v, .agg #[.int .i64 0, .int .i64 0]] ∧ w'.ownsRow w0.heap.size 5 1 v (lay p).length ((lay p).map bv) ∧ Ext w0 w') := by
  have h := encode_spec p cv ev_ w0 hp (by have := hok.read.nc; omega) (by have := hok.read.ne; omega)
  rw [encB_ok hok, chk_okP hok] at h
  exact h
theorem print_ok (p : Pg) (hok : OkP p) (cv ev_ : Value) (w0 : World) (hT : Tab w0) (hp : PgR w0 p cv ev_) : Ca Tryd.prog 23 #[.agg (pgV p cv ev_).toArray] w0 (fun r w' => r = .tuple #[st (prtS p), .agg #[.int .i64 0, .int .i64 0]] ∧ Ext w0 w') := by
  have h := print_spec p cv ev_ w0 hT hp (by have := hok.read.nc; omega) (by have := hok.read.ne; omega)
  rw [prtB_ok hok, chk_okP hok] at h
  exact h
theorem decode_by (T : List UInt8) (v : Value) (w0 : World) (hB : By w0 v T) (hT : T.length ≤ 4611686018427387904) : Ca Tryd.prog 14 #[v] w0 (fun r w' => ∃ cv ev_, r = .tuple #[.agg (pgV (decQ T) cv ev_).toArray, .agg #[.int .i64 ((decA T).1 : Int), .int .i64 ((decA T).2 : Int)]] ∧ w'.ownsRow w0.heap.size 28 4 cv (decQ T).code.length (inss (decQ T).code) ∧ w'.ownsRow w0.heap.size 3 1 ev_ (decQ T).ent.length (zs (decQ T).ent) ∧ Ext w0 w') := by
  obtain ⟨a, c, rfl⟩ := hB.isSlice
  exact decode_spec a c T w0 hB hT
theorem decode_ok (p : Pg) (hok : OkP p) (v : Value) (w0 : World) (hB : By w0 v (lay p)) : Ca Tryd.prog 14 #[v] w0 (fun r w' => ∃ cv ev_, r = .tuple #[.agg (pgV p cv ev_).toArray, .agg #[.int .i64 0, .int .i64 0]] ∧ w'.ownsRow w0.heap.size 28 4 cv p.code.length (inss p.code) ∧ w'.ownsRow w0.heap.size 3 1 ev_ p.ent.length (zs p.ent) ∧ Ext w0 w') := by
  have h := decode_by (lay p) v w0 hB (by have := lay_len hok.read; omega)
  obtain ⟨h1, h2⟩ := dec_enc hok
  rw [h1, h2] at h
  exact h
theorem check_ok (p : Pg) (cv ev_ : Value) (w0 : World) (hp : PgR w0 p cv ev_) (e a : Nat) (hc : chk p = (e, a)) (hlc : p.code.length ≤ 4611686018427387904) (hle : p.ent.length ≤ 4611686018427387904) : Ca Tryd.prog 12 #[.agg (pgV p cv ev_).toArray] w0 (fun r w' => r = .agg #[.int .i64 (e : Int), .int .i64 (a : Int)] ∧ Ext w0 w') := by
  have h := check_spec p cv ev_ w0 hp hlc hle
  rw [hc] at h
  exact h

theorem num_spec (er : Int) (w0 : World) : Ca Tryd.prog 20 #[.int .i64 er] w0 (fun v w' => v = .int .i64 er ∧ w' = w0) := by
  refine Ca.of Tryd.func20 Tryd.ntmps20 rfl rfl ?_
  refine W.seq ?_
  refine W.region ?_
  refine WL.c rfl (o_ash (show _ = Value.int _ _ from rfl) ?_)
  refine WL.nil ?_
  refine W.seq ?_
  refine W.region ?_
  refine WL.c rfl (o_mvh (show _ = Value.int _ _ from rfl) ?_)
  refine WL.c rfl (o_ash (show _ = Value.int _ _ from rfl) ?_)
  refine WL.nil ?_
  refine W.ret ?_
  refine ret1v rfl (show _ = Value.int _ _ from rfl) ?_
  exact ⟨rfl, rfl⟩
theorem is_spec (e1 a1 er at_ : Int) (w0 : World) : Ca Tryd.prog 11 #[.agg #[.int .i64 e1, .int .i64 a1], .int .i64 er, .int .i64 at_] w0 (fun v w' => v = .bool (decide (e1 = er ∧ a1 = at_)) ∧ Ext w0 w') := by
  refine Ca.of Tryd.func11 Tryd.ntmps11 rfl rfl ?_
  refine W.seq ?_
  refine W.region ?_
  refine WL.c rfl (o_boxB rfl ?_)
  intro w3 hC3 hx3 hs3
  obtain ⟨b3, hb3⟩ : ∃ b, b = w0.heap.size := ⟨_, rfl⟩
  rw [← hb3] at hC3 ⊢
  replace hC3 : w3.heap[b3]? = some (.cells ([.int .i64 e1, .int .i64 a1]).toArray 32 (0, 0)) := hC3
  have hx := hx3
  refine WL.c rfl (o_ash (show _ = Value.bool _ from rfl) ?_)
  refine WL.nil ?_
  refine W.seq ?_
  refine W.region ?_
  refine WL.c rfl (o_fa 0 TI32 rfl TI30 rfl rfl ?_)
  refine WL.c rfl (o_ld TI30 rfl rfl (cell_of hC3 rfl) ?_)
  refine WL.c rfl (o_call Tryd.call20 (lc rfl ln) ((num_spec e1 _).mono ?_))
  rintro v9 w9 ⟨rfl, rfl⟩
  refine WL.c rfl (o_mvh (show _ = Value.int _ _ from rfl) ?_)
  refine WL.c rfl (o_eq rfl rfl ?_)
  refine WL.c rfl (o_mvh (show _ = Value.bool _ from rfl) ?_)
  refine WL.sp 5 rfl (fun g12 => ?_) (fun g12 => ?_)
  · skip
    refine WL.g rfl (g12) rfl (o_fa 1 TI32 rfl TI3 rfl rfl ?_)
    refine WL.g rfl (g12) rfl (o_ld TI3 rfl rfl (cell_of hC3 rfl) ?_)
    refine WL.g rfl (g12) rfl (o_mvh (show _ = Value.int _ _ from rfl) ?_)
    refine WL.g rfl (g12) rfl (o_eq rfl rfl ?_)
    refine WL.c rfl (o_pickA rfl rfl ?_)
    refine WL.c rfl (o_ash (show _ = Value.bool _ from rfl) ?_)
    refine WL.nil ?_
    refine W.ret ?_
    refine ret1v rfl (show _ = Value.bool _ from rfl) ?_
    exact ⟨congrArg Value.bool (by rw [Bool.eq_iff_iff]; simp_all), hx⟩
  · skip
    refine WL.s rfl (g12) rfl ?_
    refine WL.s rfl (g12) rfl ?_
    refine WL.s rfl (g12) rfl ?_
    refine WL.s rfl (g12) rfl ?_
    refine WL.c rfl (o_pickF rfl (g12) ?_)
    refine WL.c rfl (o_ash (show _ = Value.bool _ from rfl) ?_)
    refine WL.nil ?_
    refine W.ret ?_
    refine ret1v rfl (show _ = Value.bool _ from rfl) ?_
    exact ⟨congrArg Value.bool (by rw [Bool.eq_iff_iff]; simp_all), hx⟩
set_option maxHeartbeats 2000000 in
theorem small_spec (w0 : World) : Ca Tryd.prog 22 #[] w0 (fun r w' => ∃ cv ev_, r = .agg (pgV (smP 2) cv ev_).toArray ∧ w'.ownsRow w0.heap.size 28 4 cv 2 (inss (smL 2)) ∧ w'.ownsRow w0.heap.size 3 1 ev_ 1 (zs [0]) ∧ Ext w0 w') := by
  refine Ca.of Tryd.func22 Tryd.ntmps22 rfl rfl ?_
  refine W.seq ?_
  refine W.region ?_
  refine WL.c rfl (o_alB TI26 ?_)
  intro w0b hC0 hx0 hs0
  obtain ⟨b0, hb0⟩ : ∃ b, b = w0.heap.size := ⟨_, rfl⟩
  rw [← hb0] at hC0 ⊢
  replace hC0 : w0b.heap[b0]? = some (.cells ([.bool false, .slice none 0 0, .slice none 0 0]).toArray 26 (0, 0)) := hC0
  have hx : Ext w0 w0b := hx0
  have hz0 := hx.size
  refine WL.nil ?_
  refine W.seq ?_
  refine W.region ?_
  refine WL.c rfl (o_bldC (cs := [(.int .i64 1), (.int .i64 (-1)), (.int .i64 2), (.int .i64 0)]) TI28 (Sizes.cons TI3 (Sizes.cons TI3 (Sizes.cons TI3 (Sizes.cons TI3 Sizes.nil)))) rfl (lcp (show _ = Value.int _ _ from rfl) (lcp (show _ = Value.int _ _ from rfl) (lcp (show _ = Value.int _ _ from rfl) lnp))) rfl rfl ?_)
  refine WL.c rfl (o_bldC (cs := [(.int .i64 20), (.int .i64 0), (.int .i64 0), (.int .i64 0)]) TI28 (Sizes.cons TI3 (Sizes.cons TI3 (Sizes.cons TI3 (Sizes.cons TI3 Sizes.nil)))) rfl (lcp (show _ = Value.int _ _ from rfl) lnp) rfl rfl ?_)
  refine WL.c rfl (o_bsA (xs := [(.tmp 1), (.tmp 2)]) (cs := inss (smL 2)) TI23 TI28 rfl (lc rfl (lc rfl ln)) rfl rfl (by decide) (by decide) rfl ?_)
  have hT3 : World.ownsRow (w0b.alloc (.cells (inss (smL 2)).toArray 28)) w0b.heap.size 28 4 (.slice (some ⟨w0b.heap.size, 0, none⟩) 2 2) 2 (inss (smL 2)) := ⟨by decide, .inr ⟨_, 2, _, rfl, Nat.le_refl _, heap_alloc_new _ _, Nat.le_refl _, by rw [maxLen_eq]; decide, by decide, by rfl⟩⟩
  have hxr : Ext w0b (w0b.alloc (.cells (inss (smL 2)).toArray 28)) := Only.alloc w0b _
  obtain ⟨g3, hg3⟩ : ∃ g, g = w0b.heap.size := ⟨_, rfl⟩
  rw [← hg3] at hT3 ⊢
  generalize w0b.alloc (.cells (inss (smL 2)).toArray 28) = w3 at hT3 hxr ⊢
  replace hC0 := hxr.blk hC0 (fun h => h)
  replace hx := hx.tr hxr
  have hz3 := hx.size
  refine WL.c rfl (o_bs1 TI24 TI3 (show _ = Value.int _ _ from rfl) (by decide) (by decide) rfl ?_)
  have hT4 : World.ownsRow (w3.alloc (.cells (Value.int .i64 0).cells 3)) w3.heap.size 3 1 (.slice (some ⟨w3.heap.size, 0, none⟩) 1 1) 1 (zs [0]) := ⟨by decide, .inr ⟨_, 1, _, rfl, Nat.le_refl _, heap_alloc_new _ _, Nat.le_refl _, by rw [maxLen_eq]; decide, by decide, by rfl⟩⟩
  have hxr : Ext w3 (w3.alloc (.cells (Value.int .i64 0).cells 3)) := Only.alloc w3 _
  obtain ⟨g4, hg4⟩ : ∃ g, g = w3.heap.size := ⟨_, rfl⟩
  rw [← hg4] at hT4 ⊢
  generalize w3.alloc (.cells (Value.int .i64 0).cells 3) = w4 at hT4 hxr ⊢
  replace hC0 := hxr.blk hC0 (fun h => h)
  replace hx := hx.tr hxr
  replace hT3 := own_ext hT3 hxr
  refine WL.c rfl (o_bldC (cs := [(.bool false), _, _]) TI26 (Sizes.cons TI4 (Sizes.cons TI23 (Sizes.cons TI24 Sizes.nil))) rfl (lcp (show _ = Value.slice _ _ _ from rfl) (lcp (show _ = Value.slice _ _ _ from rfl) lnp)) rfl rfl ?_)
  refine WL.u (o_stA TI26 rfl (show _ = Value.agg (pgV (smP 2) (.slice (some ⟨g3, 0, none⟩) 2 2) (.slice (some ⟨g4, 0, none⟩) 1 1)).toArray from rfl) rfl rfl hC0 rfl ?_)
  intro ws hBs hos hss
  replace hx := hx.trans' hos (fun _ h => h) (fun k hk he => by omega)
  replace hT3 := own_only hT3 hos (fun k hk he => by subst he; exact own_off hT3 hC0 (by decide) hk)
  replace hT4 := own_only hT4 hos (fun k hk he => by subst he; exact own_off hT4 hC0 (by decide) hk)
  refine WL.nil ?_
  refine W.ret ?_
  refine retC rfl TI26 rfl rfl (cells_all (by assumption)) rfl ?_
  exact ⟨_, _, rfl, own_mono hT3 (by omega), own_mono hT4 (by omega), hx⟩
end Go.Proofs.YthlbhnefldaoiaaDoor

set_option linter.unusedSimpArgs false
set_option linter.unusedVariables false
namespace Go.Vc
open Go Go.RowKit Go.ChangeShapes Go.WideShapes

theorem addr_add (a : Addr) (m k : Nat) : (a.add m).add k = a.add (m + k) := by
  unfold Addr.add
  by_cases hm : m = 0 <;> by_cases hk : k = 0 <;> simp [hm, hk, Nat.add_assoc]

theorem list_of {α : Type} (p : Nat → α → Prop) : ∀ n, (∀ i, i < n → ∃ o, p i o) → ∃ os : List α, os.length = n ∧ ∀ i (h : i < os.length), p i os[i]
  | 0, _ => ⟨[], rfl, fun i h => by simp at h⟩
  | n + 1, h => by
    obtain ⟨os, h1, h2⟩ := list_of p n (fun i hi => h i (by omega))
    obtain ⟨o, ho⟩ := h n (by omega)
    refine ⟨os ++ [o], by simp [h1], fun i hi => ?_⟩
    by_cases e : i < os.length
    · rw [List.getElem_append_left e]; exact h2 i e
    · simp at hi
      have e2 : i = n := by omega
      subst e2
      rw [List.getElem_append_right (by omega)]
      simpa [h1] using ho
theorem flatMap_get {α : Type} {cells : α → List Value} {s : Nat} (hlen : ∀ o, (cells o).length = s) : ∀ (os : List α) (idx : Nat) (v : Value), (os.flatMap cells)[idx]? = some v → ∃ i j, ∃ h : i < os.length, idx = i * s + j ∧ (cells os[i])[j]? = some v
  | [], idx, v, h => by simp at h
  | o :: os, idx, v, h => by
    rw [List.flatMap_cons] at h
    by_cases e : idx < s
    · rw [List.getElem?_append_left (by rw [hlen]; exact e)] at h
      exact ⟨0, idx, by simp, by omega, h⟩
    · rw [List.getElem?_append_right (by rw [hlen]; omega), hlen] at h
      obtain ⟨i, j, hi, h1, h2⟩ := flatMap_get hlen os (idx - s) v h
      refine ⟨i + 1, j, by simp; omega, ?_, by simpa using h2⟩
      rw [Nat.add_mul]; omega
/-- its weights are within reach -/
def Small {H : Type} (P : Program) (t : TypeId) (d : DataW H) : Prop := ∀ n ∈ d.weights P t, n ≤ reachBytes
theorem Small.top {H : Type} {P : Program} {ts : List TypeId} {ds : List (DataW H)} {j : Nat} {t : TypeId} {d : DataW H} (h : (DataW.weightsEach P ts ds).all (· ≤ reachBytes) = true) (ht : ts[j]? = some t) (hd : ds[j]? = some d) : Small P t d := fun n hn => by
  have := List.all_eq_true.1 h _ (DataW.weights_mem_each ht hd n hn)
  simpa using this
theorem Small.size {H : Type} {P : Program} {t e : TypeId} {elems spare : List (DataW H)} (h : Small P t (.slice elems spare)) (hu : P.underlying t = some (.slice e)) : (elems.length + spare.length) * P.bytesOf e ≤ reachBytes :=
  h _ (by simp only [DataW.weights, hu]; exact List.mem_cons_self ..)
theorem Small.part {H : Type} {P : Program} {t u : TypeId} {fs : Array Field} {parts : List (DataW H)} {i : Nat} {d : DataW H} (h : Small P t (.agg parts)) (hu : P.underlying t = some (.struct fs)) (hf : (fs.toList.map (·.type))[i]? = some u) (hd : parts[i]? = some d) : Small P u d := fun n hn =>
  h n (by simp only [DataW.weights, hu]; exact DataW.weights_mem_each hf hd n hn)
section
variable {H : Type} {enc : TypeId × Value → H} {P : Program} {W : World} {held : Bool}
theorem open_struct_len {t : TypeId} {fs : Array Field} {s : Nat} (hu : P.underlying t = some (.struct fs)) (hs : P.cellsOf t = s) {fuel : Nat} {cs : List Value} {x : DataW H × List MemPlace} (h : DataW.trod enc P W 0 (fun _ => true) held fuel t cs = some x) : cs.length = s := by
  obtain ⟨xs, n, -, -, h1, -⟩ := DataW.trod_struct hu h
  rw [h1, hs]
end
end Go.Vc

set_option linter.unusedSimpArgs false
set_option linter.unusedVariables false
set_option maxRecDepth 100000
namespace Go.Proofs.YthlbhnefldaoiaaDoor
open Go Go.Vc Go.RowKit Go.Proofs
section
variable {H : Type} {enc : TypeId × Value → H} {P : Program} {W : World} {held : Bool}
theorem open_rowsN {α : Type} {t e : TypeId} (s : Nat) (cells : α → List Value) (p : α → Prop) (hu : P.underlying t = some (.slice e)) (hs : P.cellsOf e = s) (hs0 : 0 < s) (hlen : ∀ o, (cells o).length = s)
    (hc : ∀ (n : Nat) (cs : List Value) (y : DataW H × List MemPlace), DataW.trod enc P W 0 (fun _ => true) held n e cs = some y → ∃ o, cs = cells o ∧ p o)
    {fuel : Nat} {v : Value} {x : DataW H × List MemPlace} (h : DataW.trod enc P W 0 (fun _ => true) held fuel t [v] = some x) :
    ∃ os : List α, os.length ≤ maxLen ∧ Sl W s v os.length (os.flatMap cells) ∧ ∀ o ∈ os, p o := by
  rcases DataW.trod_slice hu h with ⟨hcs, hd⟩ | ⟨a, len, cap, elems, rest, n, -, hcs, hx, -, hl, hm, hle, hel, -, -⟩
  · simp only [List.cons.injEq, and_true] at hcs
    subst hcs
    exact ⟨[], Nat.zero_le _, Sl.nil W s, fun o h => by cases h⟩
  · simp only [List.cons.injEq, and_true] at hcs
    subst hcs
    subst hx
    have key : ∀ i, i < len → ∃ o : α, (∀ j v, (cells o)[j]? = some v → W.cell? (a.add (i * s + j)) = some v) ∧ p o := by
      intro i hi
      have he := hel i hi
      rw [List.getElem?_eq_getElem (by omega), hs, Option.bind_eq_some_iff] at he
      obtain ⟨cs, h1, h2⟩ := he
      obtain ⟨-, h4, h5⟩ := World.cells?_some h1
      obtain ⟨o, ho, hp⟩ := hc n cs _ h2
      subst ho
      refine ⟨o, fun j v hj => ?_, hp⟩
      have hjs : j < s := by have := (List.getElem?_eq_some_iff.1 hj).1; rw [hlen] at this; exact this
      have := h5 j hjs
      rw [← hj, ← this, addr_add]
    obtain ⟨os, ho1, ho2⟩ := list_of _ len key
    refine ⟨os, by omega, ⟨?_, ?_⟩, fun o ho => ?_⟩
    · clear ho2 ho1
      induction os with
      | nil => simp
      | cons o os ih => rw [List.flatMap_cons, List.length_append, hlen, ih, List.length_cons, Nat.add_mul]; omega
    · by_cases h0 : len = 0
      · subst h0; exact .inl ⟨ho1, _, _, rfl⟩
      · obtain ⟨b, off, spot⟩ := a
        have h00 := (ho2 0 (by omega)).1 0 ((cells (os[0]'(by omega)))[0]'(by rw [hlen]; exact hs0)) (List.getElem?_eq_getElem _)
        have hsp : spot = none := by simpa [Addr.add] using World.cell?_spot h00
        subst hsp
        refine .inr ⟨b, off, cap, by rw [ho1], by omega, fun idx u hu => ?_⟩
        obtain ⟨i, j, hi, h1, h2⟩ := flatMap_get hlen os idx u hu
        have h3 := (ho2 i hi).1 j u h2
        rw [h1, ← h3, add_none]
    · obtain ⟨i, hi, rfl⟩ := List.getElem_of_mem ho
      exact (ho2 i hi).2
theorem open_fieldN {t u : TypeId} {fs : Array Field} {f : Field} (i off s : Nat) (hu : P.underlying t = some (.struct fs)) (hf : fs[i]? = some f) (ht : f.type = u) (ho : f.offset = off) (hs : P.cellsOf u = s) {fuel : Nat} {cs : List Value} {x : DataW H × List MemPlace}
    (h : DataW.trod enc P W 0 (fun _ => true) held fuel t cs = some x) : ∃ n y, DataW.trod enc P W 0 (fun _ => true) held n u ((cs.drop off).take s) = some y := by
  subst ht ho hs
  obtain ⟨xs, n, -, hx, -, hl, hall⟩ := DataW.trod_struct hu h
  have hi : i < fs.size := (Array.getElem?_eq_some_iff.1 hf).1
  have h1 := hall i f hf
  rw [List.getElem?_eq_getElem (by omega)] at h1
  exact ⟨n, _, h1⟩
theorem three_cells {cs : List Value} (h : cs.length = 3) : ∃ a b c, cs = [a, b, c] := by
  match cs, h with
  | [a, b, c], _ => exact ⟨a, b, c, rfl⟩

theorem fm_one {α : Type} {f : α → Value} : ∀ l : List α, (l.flatMap fun x => [f x]) = l.map f
  | [] => rfl
  | x :: l => by rw [List.flatMap_cons, fm_one l]; rfl
theorem open_i64 {n : Nat} {cs : List Value} {y : DataW H × List MemPlace} (h : DataW.trod enc Tryd.prog W 0 (fun _ => true) held n 3 cs = some y) : ∃ c : Int, cs = [.int .i64 c] ∧ (-9223372036854775808 ≤ c ∧ c ≤ 9223372036854775807) := by
  obtain ⟨k, hk, -, wk⟩ := DataW.trod_int Tryd.underlying3 h
  simp [Lit.wf, IntKind.min, IntKind.max, IntKind.signed, IntKind.bits] at wk
  exact ⟨k, hk, by omega⟩
def bI (c : Int) : Prop := -9223372036854775808 ≤ c ∧ c ≤ 9223372036854775807
structure BIns (x : Ins) : Prop where
  op : bI x.op
  a : bI x.a
  b : bI x.b
  c : bI x.c
theorem four_cells {cs : List Value} (h : cs.length = 4) : ∃ a b c d, cs = [a, b, c, d] := by
  match cs, h with
  | [a, b, c, d], _ => exact ⟨a, b, c, d, rfl⟩
theorem open_instr {n : Nat} {cs : List Value} {y : DataW H × List MemPlace} (h : DataW.trod enc Tryd.prog W 0 (fun _ => true) held n 28 cs = some y) : ∃ x : Ins, cs = insV x ∧ BIns x := by
  have hl := open_struct_len (s := 4) Tryd.underlying28 (by kernel_rfl) h
  obtain ⟨a, b, c, d, rfl⟩ := four_cells hl
  obtain ⟨n0, y0, h0⟩ := open_fieldN 0 0 1 Tryd.underlying28 rfl rfl rfl (by kernel_rfl) h
  obtain ⟨n1, y1, h1⟩ := open_fieldN 1 1 1 Tryd.underlying28 rfl rfl rfl (by kernel_rfl) h
  obtain ⟨n2, y2, h2⟩ := open_fieldN 2 2 1 Tryd.underlying28 rfl rfl rfl (by kernel_rfl) h
  obtain ⟨n3, y3, h3⟩ := open_fieldN 3 3 1 Tryd.underlying28 rfl rfl rfl (by kernel_rfl) h
  obtain ⟨k0, e0, b0⟩ := open_i64 h0
  obtain ⟨k1, e1, b1⟩ := open_i64 h1
  obtain ⟨k2, e2, b2⟩ := open_i64 h2
  obtain ⟨k3, e3, b3⟩ := open_i64 h3
  simp only [List.drop_zero, List.drop_succ_cons, List.take_succ_cons, List.take_zero, List.cons.injEq, and_true] at e0 e1 e2 e3
  exact ⟨⟨k0, k1, k2, k3⟩, by rw [e0, e1, e2, e3]; rfl, ⟨b0, b1, b2, b3⟩⟩
theorem open_instrs {fuel : Nat} {v : Value} {x : DataW H × List MemPlace} (h : DataW.trod enc Tryd.prog W 0 (fun _ => true) held fuel 23 [v] = some x) : ∃ R : List Ins, Sl W 4 v R.length (inss R) ∧ R.length ≤ 9223372036854775807 ∧ ∀ x ∈ R, BIns x := by
  obtain ⟨R, h1, h2, h3⟩ := open_rowsN 4 insV BIns Tryd.underlying23 (by kernel_rfl) (by decide) (fun _ => rfl) (fun n cs y hy => open_instr hy) h
  exact ⟨R, h2, by rw [maxLen_eq] at h1; omega, h3⟩
theorem open_intl {fuel : Nat} {v : Value} {x : DataW H × List MemPlace} (h : DataW.trod enc Tryd.prog W 0 (fun _ => true) held fuel 24 [v] = some x) : ∃ R : List Int, Sl W 1 v R.length (zs R) ∧ R.length ≤ 9223372036854775807 ∧ ∀ x ∈ R, bI x := by
  obtain ⟨R, h1, h2, h3⟩ := open_rowsN 1 (fun c : Int => [Value.int .i64 c]) bI Tryd.underlying24 (by kernel_rfl) (by decide) (fun _ => rfl) (fun n cs y hy => open_i64 hy) h
  rw [fm_one] at h2
  exact ⟨R, h2, by rw [maxLen_eq] at h1; omega, h3⟩
/-- a program that is handed in -/
structure BPg (p : Pg) : Prop where
  lc : p.code.length ≤ 9223372036854775807
  le : p.ent.length ≤ 9223372036854775807
  ins : ∀ x ∈ p.code, BIns x
  ent : ∀ x ∈ p.ent, bI x
theorem open_pg {n : Nat} {cs : List Value} {y : DataW H × List MemPlace} (h : DataW.trod enc Tryd.prog W 0 (fun _ => true) held n 26 cs = some y) : ∃ p cv ev_, cs = pgV p cv ev_ ∧ PgR W p cv ev_ ∧ BPg p := by
  have hl := open_struct_len (s := 3) Tryd.underlying26 (by kernel_rfl) h
  obtain ⟨a, b, c, rfl⟩ := three_cells hl
  obtain ⟨n0, y0, h0⟩ := open_fieldN 0 0 1 Tryd.underlying26 rfl rfl rfl (by kernel_rfl) h
  obtain ⟨n1, y1, h1⟩ := open_fieldN 1 1 1 Tryd.underlying26 rfl rfl rfl (by kernel_rfl) h
  obtain ⟨n2, y2, h2⟩ := open_fieldN 2 2 1 Tryd.underlying26 rfl rfl rfl (by kernel_rfl) h
  obtain ⟨k0, e0, -⟩ := DataW.trod_bool Tryd.underlying4 h0
  simp only [List.drop_zero, List.drop_succ_cons, List.take_succ_cons, List.take_zero] at h1 h2 e0
  obtain ⟨L, g1, g2, g3⟩ := open_instrs h1
  obtain ⟨E, g4, g5, g6⟩ := open_intl h2
  simp only [List.cons.injEq, and_true] at e0
  exact ⟨⟨k0, L, E⟩, b, c, by rw [e0]; rfl, ⟨g1, g4⟩, ⟨g2, g5, g3, g6⟩⟩
end

end Go.Proofs.YthlbhnefldaoiaaDoor

set_option linter.unusedSimpArgs false
set_option linter.unusedVariables false
set_option maxRecDepth 100000
namespace Go.Proofs.YthlbhnefldaoiaaDoor
open Go Go.Vc Go.RowKit Go.Proofs

def isS (t : List UInt8) : Prop := ∃ c r, t = c :: r ∧ (c = 10 ∨ c = 32)
end Go.Proofs.YthlbhnefldaoiaaDoor

set_option linter.unusedSimpArgs false
set_option linter.unusedVariables false
set_option maxRecDepth 100000
namespace Go.Proofs.YthlbhnefldaoiaaDoor
open Go Go.Vc Go.RowKit Go.Proofs
set_option maxHeartbeats 16000000 in
theorem awake_spec (w0 : World) (hT : Tab w0) : Ca Tryd.prog 10 #[] w0 (fun r w' => r = .bool true ∧ Ext w0 w') := by
  have hx : Ext w0 w0 := Only.refl _ _
  refine Ca.of Tryd.func10 Tryd.ntmps10 rfl rfl ?_
  refine W.seq ?_
  refine W.region ?_
  refine WL.c rfl (o_ash (show _ = Value.bool _ from rfl) ?_)
  refine WL.nil ?_
  refine W.seq ?_
  refine W.region ?_
  refine WL.c rfl (o_call Tryd.call22 ln ((small_spec _).mono ?_))
  rintro v8 w8 ⟨cv, ev_, rfl, hcv, hev, hx8⟩
  replace hx := hx.tr hx8
  refine WL.c rfl (o_alB TI26 ?_)
  intro wa hCa hxa hsa
  refine WL.u (o_stA TI26 rfl (show _ = Value.agg (pgV (smP 2) cv ev_).toArray from rfl) rfl (by simp [pgV, own_one hcv, own_one hev]; rfl) hCa rfl ?_)
  intro wb1 hC1 hob hsb
  have hxb := Ext.own hxa (Nat.le_refl _) hob
  obtain ⟨b1, hb1⟩ : ∃ b, b = w8.heap.size := ⟨_, rfl⟩
  rw [← hb1] at hC1 ⊢
  clear hCa hxa hsa hob hsb
  replace hx := hx.tr hxb
  replace hcv := own_ext hcv hxb
  replace hev := own_ext hev hxb
  clear hxb
  refine WL.nil ?_
  refine W.seq ?_
  refine W.region ?_
  refine WL.c rfl (o_ldA TI26 rfl rfl (show Cells _ b1 0 (pgV (smP 2) cv ev_) from Cells.of hC1 0 _ (by simp [pgV] <;> exact fun i v h => h)) rfl ?_)
  refine WL.c rfl (o_call Tryd.call13 (lc rfl ln) ((encode_ok (smP 2) smP_ok cv ev_ _ ⟨Sl.own hcv, Sl.own hev⟩).mono ?_))
  rintro v11 w11 ⟨vb, rfl, hvb, hx11⟩
  rw [smP_lay] at hvb
  replace hx := hx.tr hx11
  replace hcv := own_ext hcv hx11
  replace hev := own_ext hev hx11
  replace hC1 := hx11.blk hC1 (fun h => h)
  refine WL.c rfl (o_mvh (by first | exact (show _ = Value.tuple _ from rfl) | exact rfl) ?_)
  refine WL.c rfl (o_ext rfl rfl ?_)
  refine WL.c rfl (o_ext rfl rfl ?_)
  refine WL.c rfl (o_alB TI32 ?_)
  intro wa hCa hxa hsa
  refine WL.c rfl (o_ash (by first | exact (show _ = Value.slice _ _ _ from rfl) | exact rfl) ?_)
  refine WL.u (o_stA TI32 rfl (show _ = Value.agg ([.int .i64 0, .int .i64 0]).toArray from rfl) rfl rfl hCa rfl ?_)
  intro wb3 hC3 hob hsb
  have hxb := Ext.own hxa (Nat.le_refl _) hob
  obtain ⟨b3, hb3⟩ : ∃ b, b = w11.heap.size := ⟨_, rfl⟩
  rw [← hb3] at hC3 ⊢
  clear hCa hxa hsa hob hsb
  replace hx := hx.tr hxb
  replace hcv := own_ext hcv hxb
  replace hev := own_ext hev hxb
  replace hvb := own_ext hvb hxb
  replace hC1 := hxb.blk hC1 (fun h => h)
  clear hxb
  refine WL.nil ?_
  refine W.seq ?_
  refine W.region ?_
  refine WL.c rfl (o_mvh (by first | exact (show _ = Value.slice _ _ _ from rfl) | exact rfl) ?_)
  refine WL.c rfl (o_call Tryd.call14 (lc rfl ln) ((decode_ok (smP 2) smP_ok vb _ (by rw [smP_lay]; exact Sl.own hvb)).mono ?_))
  rintro v16 w16 ⟨cq, eq_, rfl, hcq, heq, hx16⟩
  have hcvR := fun q (hq : cv.ownBlock = some q) => (hcv.lt q hq).2
  replace hx := hx.tr hx16
  replace hcv := own_ext hcv hx16
  replace hev := own_ext hev hx16
  replace hvb := own_ext hvb hx16
  replace hC1 := hx16.blk hC1 (fun h => h)
  replace hC3 := hx16.blk hC3 (fun h => h)
  have hz4 := hx.size
  refine WL.c rfl (o_mvh (by first | exact (show _ = Value.tuple _ from rfl) | exact rfl) ?_)
  refine WL.c rfl (o_ext rfl rfl ?_)
  refine WL.c rfl (o_ext rfl rfl ?_)
  refine WL.c rfl (o_alB TI26 ?_)
  intro w4 hC4 hx4 hs4
  obtain ⟨b4, hb4⟩ : ∃ b, b = w16.heap.size := ⟨_, rfl⟩
  have hn14 : b1 < b4 := by have := (Array.getElem?_eq_some_iff.1 hC1).1; omega
  have hn34 : b3 < b4 := by have := (Array.getElem?_eq_some_iff.1 hC3).1; omega
  rw [← hb4] at hC4 ⊢
  replace hC4 : w4.heap[b4]? = some (.cells ([.bool false, .slice none 0 0, .slice none 0 0]).toArray 26 (0, 0)) := hC4
  replace hx := hx.tr hx4
  replace hcv := own_ext hcv hx4
  replace hev := own_ext hev hx4
  replace hvb := own_ext hvb hx4
  replace hcq := own_ext hcq hx4
  replace heq := own_ext heq hx4
  replace hC1 := hx4.blk hC1 (fun h => h)
  replace hC3 := hx4.blk hC3 (fun h => h)
  have hb4 : w0.heap.size ≤ b4 := by have := hx16; have h9 := hx4.size; rw [hb4]; exact hz4
  refine WL.c rfl (o_alB TI32 ?_)
  intro w5 hC5 hx5 hs5
  obtain ⟨b5, hb5⟩ : ∃ b, b = w4.heap.size := ⟨_, rfl⟩
  rw [← hb5] at hC5 ⊢
  replace hC5 : w5.heap[b5]? = some (.cells ([.int .i64 0, .int .i64 0]).toArray 32 (0, 0)) := hC5
  replace hx := hx.tr hx5
  replace hcv := own_ext hcv hx5
  replace hev := own_ext hev hx5
  replace hvb := own_ext hvb hx5
  replace hcq := own_ext hcq hx5
  replace heq := own_ext heq hx5
  replace hC1 := hx5.blk hC1 (fun h => h)
  replace hC3 := hx5.blk hC3 (fun h => h)
  replace hC4 := hx5.blk hC4 (fun h => h)
  have hb45 : b4 < b5 := by have := (Array.getElem?_eq_some_iff.1 hC4).1; omega
  refine WL.u (o_stA TI26 rfl (show _ = Value.agg (pgV (smP 2) cq eq_).toArray from rfl) rfl (by simp [pgV, own_one hcq, own_one heq]; rfl) hC4 rfl ?_)
  intro w4s hB4 ho4 hs4s
  replace hx := hx.trans' ho4 (fun _ h => h) (fun k hk he => by omega)
  replace hcv := own_only hcv ho4 (fun k hk he => by subst he; exact own_off hcv hC4 (by decide) hk)
  replace hev := own_only hev ho4 (fun k hk he => by subst he; exact own_off hev hC4 (by decide) hk)
  replace hvb := own_only hvb ho4 (fun k hk he => by subst he; exact own_off hvb hC4 (by decide) hk)
  replace hcq := own_only hcq ho4 (fun k hk he => by subst he; exact own_off hcq hC4 (by decide) hk)
  replace heq := own_only heq ho4 (fun k hk he => by subst he; exact own_off heq hC4 (by decide) hk)
  replace hC1 := ho4.blk hC1 (fun h => by rw [h, hC4] at hC1; have := hn14; omega)
  replace hC3 := ho4.blk hC3 (fun h => by rw [h, hC4] at hC3; cases hC3)
  replace hC5 := ho4.blk hC5 (by omega)
  clear hC4
  have hC4 := hB4
  clear hB4
  refine WL.u (o_stA TI32 rfl (show _ = Value.agg #[.int .i64 0, .int .i64 0] from rfl) rfl rfl hC5 rfl ?_)
  intro w5s hB5 ho5 hs5s
  replace hx := hx.trans' ho5 (fun _ h => h) (fun k hk he => by omega)
  replace hcv := own_only hcv ho5 (fun k hk he => by subst he; exact own_off hcv hC5 (by decide) hk)
  replace hev := own_only hev ho5 (fun k hk he => by subst he; exact own_off hev hC5 (by decide) hk)
  replace hvb := own_only hvb ho5 (fun k hk he => by subst he; exact own_off hvb hC5 (by decide) hk)
  replace hcq := own_only hcq ho5 (fun k hk he => by subst he; exact own_off hcq hC5 (by decide) hk)
  replace heq := own_only heq ho5 (fun k hk he => by subst he; exact own_off heq hC5 (by decide) hk)
  replace hC1 := ho5.blk hC1 (fun h => by rw [h, hC5] at hC1; cases hC1)
  replace hC3 := ho5.blk hC3 (by omega)
  replace hC4 := ho5.blk hC4 (by omega)
  clear hC5
  have hC5 := hB5
  clear hB5
  refine WL.nil ?_
  refine W.seq ?_
  refine W.region ?_
  refine WL.c rfl (o_ldA TI26 rfl rfl (show Cells _ b1 0 (pgV (smP 2) cv ev_) from Cells.of hC1 0 _ (by simp [pgV] <;> exact fun i v h => h)) rfl ?_)
  refine WL.c rfl (o_call Tryd.call23 (lc rfl ln) ((print_ok (smP 2) smP_ok cv ev_ _ (hT.ext hx) ⟨Sl.own hcv, Sl.own hev⟩).mono ?_))
  rintro v21 w21 ⟨rfl, hx21⟩
  rw [smP_txt]
  replace hx := hx.tr hx21
  replace hcv := own_ext hcv hx21
  replace hev := own_ext hev hx21
  replace hvb := own_ext hvb hx21
  replace hcq := own_ext hcq hx21
  replace heq := own_ext heq hx21
  replace hC1 := hx21.blk hC1 (fun h => h)
  replace hC3 := hx21.blk hC3 (fun h => h)
  replace hC4 := hx21.blk hC4 (fun h => h)
  replace hC5 := hx21.blk hC5 (fun h => h)
  refine WL.c rfl (o_mvh (by first | exact (show _ = Value.tuple _ from rfl) | exact rfl) ?_)
  refine WL.c rfl (o_ext rfl rfl ?_)
  refine WL.c rfl (o_ext rfl rfl ?_)
  refine WL.c rfl (o_alB TI32 ?_)
  intro wa hCa hxa hsa
  refine WL.c rfl (o_ash (show _ = Value.string _ from rfl) ?_)
  refine WL.u (o_stA TI32 rfl (show _ = Value.agg ([.int .i64 0, .int .i64 0]).toArray from rfl) rfl rfl hCa rfl ?_)
  intro wb7 hC7 hob hsb
  have hxb := Ext.own hxa (Nat.le_refl _) hob
  obtain ⟨b7, hb7⟩ : ∃ b, b = w21.heap.size := ⟨_, rfl⟩
  rw [← hb7] at hC7 ⊢
  clear hCa hxa hsa hob hsb
  replace hx := hx.tr hxb
  replace hcv := own_ext hcv hxb
  replace hev := own_ext hev hxb
  replace hvb := own_ext hvb hxb
  replace hcq := own_ext hcq hxb
  replace heq := own_ext heq hxb
  replace hC1 := hxb.blk hC1 (fun h => h)
  replace hC3 := hxb.blk hC3 (fun h => h)
  replace hC4 := hxb.blk hC4 (fun h => h)
  replace hC5 := hxb.blk hC5 (fun h => h)
  clear hxb
  refine WL.nil ?_
  refine W.seq ?_
  obtain ⟨g9, k9, hv9, hg9⟩ := own_some hcv (show 0 < 2 by decide)
  subst hv9
  refine W.region ?_
  refine WL.c rfl (o_fa 1 TI26 rfl TI23 rfl rfl ?_)
  refine WL.c rfl (o_ld TI23 rfl rfl (cell_of hC1 rfl) ?_)
  refine WL.c rfl (o_ixB (i := 0) TI23 TI28 rfl rfl (by decide) ?_)
  refine WL.c rfl (o_fa 2 TI28 rfl TI3 rfl rfl ?_)
  refine WL.u (o_stRj TI3 rfl (show _ = 2 from rfl) (show _ = Value.int .i64 3 from rfl) rfl hcv rfl (by decide) ?_)
  intro w27 hr27 ho27 hs27
  have hlo := fun q (hq : (Value.slice (some ⟨g9, 0, none⟩) 2 k9).ownBlock = some q) => (hcv.lt q hq).1
  replace hC1 := ho27.blk hC1 (own_off hcv hC1 (by decide))
  replace hC3 := ho27.blk hC3 (own_off hcv hC3 (by decide))
  replace hC4 := ho27.blk hC4 (own_off hcv hC4 (by decide))
  replace hC5 := ho27.blk hC5 (own_off hcv hC5 (by decide))
  replace hC7 := ho27.blk hC7 (own_off hcv hC7 (by decide))
  replace hev := own_only hev ho27 (fun q hq hF => own_row_off hcv hev (by decide) q hq hF)
  replace hvb := own_only hvb ho27 (fun q hq hF => own_row_off hcv hvb (by decide) q hq hF)
  replace heq := own_only heq ho27 (fun q hq hF => own_row_off hcv heq (by decide) q hq hF)
  replace hcq := own_only hcq ho27 (fun q hq hF => by have := (hcq.lt q hq).1; have := hcvR q hF; omega)
  replace hx := hx.trans' ho27 (fun _ h => h) (fun q hq hF => by have := hlo q hF; omega)
  clear hcv
  have hcv : w27.ownsRow w0.heap.size 28 4 (.slice (some ⟨g9, 0, none⟩) 2 k9) 2 (inss (smL 3)) := hr27
  clear hr27
  refine WL.nil ?_
  refine W.seq ?_
  refine W.seq ?_
  refine W.region ?_
  refine WL.c rfl (o_call Tryd.call22 ln ((small_spec _).mono ?_))
  rintro v28 w28 ⟨cs, es, rfl, hcs, hes, hx28⟩
  replace hx := hx.tr hx28
  replace hcv := own_ext hcv hx28
  replace hev := own_ext hev hx28
  replace hvb := own_ext hvb hx28
  replace hcq := own_ext hcq hx28
  replace heq := own_ext heq hx28
  replace hC1 := hx28.blk hC1 (fun h => h)
  replace hC3 := hx28.blk hC3 (fun h => h)
  replace hC4 := hx28.blk hC4 (fun h => h)
  replace hC5 := hx28.blk hC5 (fun h => h)
  replace hC7 := hx28.blk hC7 (fun h => h)
  refine WL.c rfl (o_call Tryd.call12 (lc rfl ln) ((check_ok (smP 2) cs es _ ⟨Sl.own hcs, Sl.own hes⟩ 0 0 (chk_okP smP_ok) (by decide) (by decide)).mono ?_))
  rintro v29 w29 ⟨rfl, hx29⟩
  replace hx := hx.tr hx29
  replace hcv := own_ext hcv hx29
  replace hev := own_ext hev hx29
  replace hvb := own_ext hvb hx29
  replace hcq := own_ext hcq hx29
  replace heq := own_ext heq hx29
  replace hC1 := hx29.blk hC1 (fun h => h)
  replace hC3 := hx29.blk hC3 (fun h => h)
  replace hC4 := hx29.blk hC4 (fun h => h)
  replace hC5 := hx29.blk hC5 (fun h => h)
  replace hC7 := hx29.blk hC7 (fun h => h)
  refine WL.c rfl (o_call Tryd.call11 (lc rfl (lc rfl (lc rfl ln))) ((is_spec 0 0 0 0 _).mono ?_))
  rintro v30 w30 ⟨rfl, hx30⟩
  replace hx := hx.tr hx30
  replace hcv := own_ext hcv hx30
  replace hev := own_ext hev hx30
  replace hvb := own_ext hvb hx30
  replace hcq := own_ext hcq hx30
  replace heq := own_ext heq hx30
  replace hC1 := hx30.blk hC1 (fun h => h)
  replace hC3 := hx30.blk hC3 (fun h => h)
  replace hC4 := hx30.blk hC4 (fun h => h)
  replace hC5 := hx30.blk hC5 (fun h => h)
  replace hC7 := hx30.blk hC7 (fun h => h)
  refine WL.c rfl (o_not' rfl ?_)
  refine WL.c rfl (o_mvh (show _ = Value.bool _ from rfl) ?_)
  refine WL.g rfl (by decide) rfl (o_ldA TI26 rfl rfl (show Cells _ b1 0 (pgV (smP 3) (.slice (some ⟨g9, 0, none⟩) 2 k9) ev_) from Cells.of hC1 0 _ (by simp [pgV] <;> exact fun i v h => h)) rfl ?_)
  refine WL.g rfl (by decide) rfl (o_call Tryd.call12 (lc rfl ln) ((check_ok (smP 3) (.slice (some ⟨g9, 0, none⟩) 2 k9) ev_ _ ⟨Sl.own hcv, Sl.own hev⟩ 140 0 smP_bad (by decide) (by decide)).mono ?_))
  rintro v34 w34 ⟨rfl, hx34⟩
  replace hx := hx.tr hx34
  replace hcv := own_ext hcv hx34
  replace hev := own_ext hev hx34
  replace hvb := own_ext hvb hx34
  replace hcq := own_ext hcq hx34
  replace heq := own_ext heq hx34
  replace hC1 := hx34.blk hC1 (fun h => h)
  replace hC3 := hx34.blk hC3 (fun h => h)
  replace hC4 := hx34.blk hC4 (fun h => h)
  replace hC5 := hx34.blk hC5 (fun h => h)
  replace hC7 := hx34.blk hC7 (fun h => h)
  refine WL.g rfl (by decide) rfl (o_call Tryd.call11 (lc rfl (lc rfl (lc rfl ln))) ((is_spec 140 0 140 0 _).mono ?_))
  rintro v35 w35 ⟨rfl, hx35⟩
  replace hx := hx.tr hx35
  replace hcv := own_ext hcv hx35
  replace hev := own_ext hev hx35
  replace hvb := own_ext hvb hx35
  replace hcq := own_ext hcq hx35
  replace heq := own_ext heq hx35
  replace hC1 := hx35.blk hC1 (fun h => h)
  replace hC3 := hx35.blk hC3 (fun h => h)
  replace hC4 := hx35.blk hC4 (fun h => h)
  replace hC5 := hx35.blk hC5 (fun h => h)
  replace hC7 := hx35.blk hC7 (fun h => h)
  refine WL.g rfl (by decide) rfl (o_not' rfl ?_)
  refine WL.c rfl (o_pickO rfl rfl ?_)
  refine WL.c rfl (o_mvh (show _ = Value.bool _ from rfl) ?_)
  refine WL.g rfl (by decide) rfl (o_ldA TI32 rfl rfl (show Cells _ b3 0 [.int .i64 0, .int .i64 0] from Cells.of hC3 0 _ (by simp)) rfl ?_)
  refine WL.g rfl (by decide) rfl (o_call Tryd.call11 (lc rfl (lc rfl (lc rfl ln))) ((is_spec 0 0 0 0 _).mono ?_))
  rintro v40 w40 ⟨rfl, hx40⟩
  replace hx := hx.tr hx40
  replace hcv := own_ext hcv hx40
  replace hev := own_ext hev hx40
  replace hvb := own_ext hvb hx40
  replace hcq := own_ext hcq hx40
  replace heq := own_ext heq hx40
  replace hC1 := hx40.blk hC1 (fun h => h)
  replace hC3 := hx40.blk hC3 (fun h => h)
  replace hC4 := hx40.blk hC4 (fun h => h)
  replace hC5 := hx40.blk hC5 (fun h => h)
  replace hC7 := hx40.blk hC7 (fun h => h)
  refine WL.g rfl (by decide) rfl (o_not' rfl ?_)
  refine WL.c rfl (o_pickO rfl rfl ?_)
  refine WL.c rfl (o_mvh (show _ = Value.bool _ from rfl) ?_)
  refine WL.g rfl (by decide) rfl (o_ldA TI32 rfl rfl (show Cells _ b5 0 [.int .i64 0, .int .i64 0] from Cells.of hC5 0 _ (by simp)) rfl ?_)
  refine WL.g rfl (by decide) rfl (o_call Tryd.call11 (lc rfl (lc rfl (lc rfl ln))) ((is_spec 0 0 0 0 _).mono ?_))
  rintro v45 w45 ⟨rfl, hx45⟩
  replace hx := hx.tr hx45
  replace hcv := own_ext hcv hx45
  replace hev := own_ext hev hx45
  replace hvb := own_ext hvb hx45
  replace hcq := own_ext hcq hx45
  replace heq := own_ext heq hx45
  replace hC1 := hx45.blk hC1 (fun h => h)
  replace hC3 := hx45.blk hC3 (fun h => h)
  replace hC4 := hx45.blk hC4 (fun h => h)
  replace hC5 := hx45.blk hC5 (fun h => h)
  replace hC7 := hx45.blk hC7 (fun h => h)
  refine WL.g rfl (by decide) rfl (o_not' rfl ?_)
  refine WL.c rfl (o_pickO rfl rfl ?_)
  refine WL.c rfl (o_mvh (show _ = Value.bool _ from rfl) ?_)
  refine WL.g rfl (by decide) rfl (o_ldA TI32 rfl rfl (show Cells _ b7 0 [.int .i64 0, .int .i64 0] from Cells.of hC7 0 _ (by simp)) rfl ?_)
  refine WL.g rfl (by decide) rfl (o_call Tryd.call11 (lc rfl (lc rfl (lc rfl ln))) ((is_spec 0 0 0 0 _).mono ?_))
  rintro v50 w50 ⟨rfl, hx50⟩
  replace hx := hx.tr hx50
  replace hcv := own_ext hcv hx50
  replace hev := own_ext hev hx50
  replace hvb := own_ext hvb hx50
  replace hcq := own_ext hcq hx50
  replace heq := own_ext heq hx50
  replace hC1 := hx50.blk hC1 (fun h => h)
  replace hC3 := hx50.blk hC3 (fun h => h)
  replace hC4 := hx50.blk hC4 (fun h => h)
  replace hC5 := hx50.blk hC5 (fun h => h)
  replace hC7 := hx50.blk hC7 (fun h => h)
  refine WL.g rfl (by decide) rfl (o_not' rfl ?_)
  refine WL.c rfl (o_pickO rfl rfl ?_)
  refine WL.nil ?_
  refine W.condF' rfl (by decide) ?_
  refine W.skip ?_
  refine W.seq ?_
  obtain ⟨wd, hwd⟩ : ∃ wd, wd = World.drew w50 := ⟨_, rfl⟩
  have hxd : Ext w50 wd := hwd ▸ Only.drew w50
  replace hx := hx.tr hxd
  replace hcv := own_ext hcv hxd
  replace hev := own_ext hev hxd
  replace hvb := own_ext hvb hxd
  replace hcq := own_ext hcq hxd
  replace heq := own_ext heq hxd
  replace hC1 := hxd.blk hC1 (fun h => h)
  replace hC3 := hxd.blk hC3 (fun h => h)
  replace hC4 := hxd.blk hC4 (fun h => h)
  replace hC5 := hxd.blk hC5 (fun h => h)
  replace hC7 := hxd.blk hC7 (fun h => h)
  refine W.draw (Ext) [(1, fun v _ => v = (Value.pointer (some ⟨b1, 0, none⟩))), (2, fun v _ => v = (vb)), (4, fun v _ => v = (Value.pointer (some ⟨b4, 0, none⟩))), (6, fun v _ => v = (st ([100, 101, 99, 111, 100, 101, 114] ++ [10] ++ ([116, 121, 112, 101, 32, 48, 32, 48] ++ [10]) ++ ([48, 32, 117, 105, 110, 116, 32, 45, 32, 50] ++ [10] ++ ([49, 32, 114, 101, 116] ++ [10])))))] rfl (by kernel_rfl) (Only.refl No) (fun _ _ _ h k => h.trans k) ⟨Mono.eq, Mono.eq, Mono.eq, Mono.eq, trivial⟩ ⟨rfl, rfl, rfl, rfl, trivial⟩ ?_
  refine WD.p rfl (fun e w hR hh => by obtain ⟨h2, -⟩ := hh; exact SG.n (o_mvh h2 ⟨rfl, Only.refl No _⟩)) ?_
  refine WD.p rfl (fun e w hR hh => by obtain ⟨h53, -⟩ := hh; rw [← hwd] at hR; have hvb9 := own_ext hvb hR; exact SG.n (o_cvBS TI34 TI5 TI9 h53 (Sl.own hvb9) ⟨rfl, Only.refl No _⟩)) ?_
  refine WD.p rfl (fun e w hR hh => by obtain ⟨h54, -⟩ := hh; exact SG.n (o_eqT h54 rfl ⟨rfl, Only.refl No _⟩)) ?_
  refine WD.p rfl (fun e w hR hh => by obtain ⟨h55, -⟩ := hh; exact SG.n (o_mvh h55 ⟨rfl, Only.refl No _⟩)) ?_
  refine WD.p rfl (fun e w hR hh => by obtain ⟨h56, h4, -⟩ := hh; rw [← hwd] at hR; have hc9 := hR.blk hC4 (fun h => h); exact SG.g h56 (by decide) (o_ldA TI26 rfl h4 (show Cells _ b4 0 (pgV (smP 2) cq eq_) from Cells.of hc9 0 _ (by simp [pgV] <;> exact fun i v h => h)) rfl ⟨rfl, Only.refl No _⟩)) ?_
  refine WD.q (fun v w => ∃ cs es, v = .agg (pgV (smP 2) cs es).toArray ∧ PgR w (smP 2) cs es) (fun v w w2 hR hh => by obtain ⟨cs, es, h1, h2⟩ := hh; exact ⟨cs, es, h1, h2.ext hR⟩) rfl (fun e w hR hh => by obtain ⟨h56, -⟩ := hh; exact SG.g h56 (by decide) (o_call Tryd.call22 ln ((small_spec _).mono (fun v w' hh => by obtain ⟨cs, es, h1, h2, h3, h4⟩ := hh; exact ⟨⟨cs, es, h1, ⟨Sl.own h2, Sl.own h3⟩⟩, h4⟩)))) ?_
  refine WD.p rfl (fun e w hR hh => by obtain ⟨h58, h57, h56, -⟩ := hh; rw [← hwd] at hR; obtain ⟨cs9, es9, h58v, h58p⟩ := h58; exact SG.g h56 (by decide) (o_call Tryd.call15 (lc h57 (lc h58v ln)) ((equal_spec (smP 2) (smP 2) cq eq_ cs9 es9 _ ⟨Sl.own (own_ext hcq hR), Sl.own (own_ext heq hR)⟩ h58p (by decide) (by decide)).mono (fun v w' h => h)))) ?_
  refine WD.p rfl (fun e w hR hh => by obtain ⟨h59, h56, -⟩ := hh; exact SG.n (o_pickA h56 h59 ⟨rfl, Only.refl No _⟩)) ?_
  refine WD.p rfl (fun e w hR hh => by obtain ⟨h60, -⟩ := hh; exact SG.n (o_mvh h60 ⟨rfl, Only.refl No _⟩)) ?_
  refine WD.p rfl (fun e w hR hh => by obtain ⟨h61, h4, -⟩ := hh; rw [← hwd] at hR; have hc9 := hR.blk hC4 (fun h => h); exact SG.g h61 (by decide) (o_ldA TI26 rfl h4 (show Cells _ b4 0 (pgV (smP 2) cq eq_) from Cells.of hc9 0 _ (by simp [pgV] <;> exact fun i v h => h)) rfl ⟨rfl, Only.refl No _⟩)) ?_
  refine WD.p rfl (fun e w hR hh => by obtain ⟨h61, h1, -⟩ := hh; rw [← hwd] at hR; have hc9 := hR.blk hC1 (fun h => h); exact SG.g h61 (by decide) (o_ldA TI26 rfl h1 (show Cells _ b1 0 (pgV (smP 3) (.slice (some ⟨g9, 0, none⟩) 2 k9) ev_) from Cells.of hc9 0 _ (by simp [pgV] <;> exact fun i v h => h)) rfl ⟨rfl, Only.refl No _⟩)) ?_
  refine WD.p rfl (fun e w hR hh => by obtain ⟨h63, h62, h61, -⟩ := hh; rw [← hwd] at hR; exact SG.g h61 (by decide) (o_call Tryd.call15 (lc h62 (lc h63 ln)) ((equal_spec (smP 2) (smP 3) cq eq_ (.slice (some ⟨g9, 0, none⟩) 2 k9) ev_ _ ⟨Sl.own (own_ext hcq hR), Sl.own (own_ext heq hR)⟩ ⟨Sl.own (own_ext hcv hR), Sl.own (own_ext hev hR)⟩ (by decide) (by decide)).mono (fun v w' h => h)))) ?_
  refine WD.p rfl (fun e w hR hh => by obtain ⟨h64, h61, -⟩ := hh; exact SG.g h61 (by decide) (o_not' h64 ⟨rfl, Only.refl No _⟩)) ?_
  refine WD.p rfl (fun e w hR hh => by obtain ⟨h65, h61, -⟩ := hh; exact SG.n (o_pickA h61 h65 ⟨rfl, Only.refl No _⟩)) ?_
  refine WD.p rfl (fun e w hR hh => by obtain ⟨h66, -⟩ := hh; exact SG.n (o_mvh h66 ⟨rfl, Only.refl No _⟩)) ?_
  refine WD.p rfl (fun e w hR hh => by obtain ⟨h67, h6, -⟩ := hh; exact SG.g h67 (by decide) (o_mvh h6 ⟨rfl, Only.refl No _⟩)) ?_
  refine WD.p rfl (fun e w hR hh => by obtain ⟨h68, h67, -⟩ := hh; exact SG.g h67 (by decide) (o_eqT h68 rfl ⟨rfl, Only.refl No _⟩)) ?_
  refine WD.p rfl (fun e w hR hh => by obtain ⟨h69, h67, -⟩ := hh; exact SG.n (o_pickA h67 h69 ⟨rfl, Only.refl No _⟩)) ?_
  refine WD.p rfl (fun e w hR hh => by obtain ⟨h70, -⟩ := hh; exact SG.n (o_ash h70 ⟨rfl, Only.refl No _⟩)) ?_
  rintro e w hR ⟨h0, h70, h69, h68, h67, h66, h65, h64, h63, h62, h61, h60, h59, h58, h57, h56, h55, h54, h53, h1, h2, h4, h6, -⟩
  rw [← hwd] at hR
  refine W.ret ?_
  refine ret1v rfl h0 ?_
  exact ⟨by first | rfl | (rw [h0]; rfl) | (rw [h0]; decide), hx.tr hR⟩
end Go.Proofs.YthlbhnefldaoiaaDoor

set_option linter.unusedSimpArgs false
set_option linter.unusedVariables false
set_option maxRecDepth 100000
namespace Go.Proofs.YthlbhnefldaoiaaDoor
open Go Go.Vc Go.RowKit Go.Proofs
theorem o_minI {P : Program} {e : Env} {w : World} {K : Value → World → Prop} {ty : TypeId} {x y : Operand} {t u : TypeId} {k : IntKind} {a b : Int} (hx : ev e x = .int k a) (hy : ev e y = .int k b) (kk : K (.int k (if b < a then b else a)) w) : OP P e (.call ⟨.builtin .min, #[x, y], #[t, u]⟩) ty w K := by
  refine OP.of ?_ kk
  simp [execOp, resolve, invoke, builtin, Builtin.min_, Builtin.min2, hx, hy]

end Go.Proofs.YthlbhnefldaoiaaDoor

set_option linter.unusedSimpArgs false
set_option linter.unusedVariables false
set_option maxRecDepth 100000
namespace Go.Proofs.YthlbhnefldaoiaaDoor
open Go Go.Vc Go.RowKit Go.Proofs
theorem own_made1 {w : World} {el : TypeId} {l n : Nat} {z : Value} (hz : z.cells = #[z]) (hln : l ≤ n) (hn : n ≤ 9223372036854775807) : (w.alloc (.cells (madeCells z.cells (n * 1)) el)).ownsRow w.heap.size el 1 (.slice (some ⟨w.heap.size, 0, none⟩) l n) l (List.replicate l z) := by
  have hc : (madeCells z.cells (n * 1)).toList = List.replicate n z := by rw [hz, Nat.mul_one, toList_madeCells_one]
  refine ⟨by simp, .inr ⟨w.heap.size, n, madeCells z.cells (n * 1), rfl, Nat.le_refl _, heap_alloc_new w _, hln, by rw [maxLen_eq]; omega, ?_, ?_⟩⟩
  · have := congrArg List.length hc; simpa using this
  · rw [hc, List.take_replicate, Nat.mul_one, Nat.min_eq_left hln]

def ret0I : Ins := ⟨20, 0, 0, 0⟩
theorem inss_rep (n : Nat) : inss (List.replicate n in0) = List.replicate (n * 4) (.int .i64 0) := by
  induction n with
  | zero => rfl
  | succ n ih => rw [List.replicate_succ, inss, List.flatMap_cons, ← inss, ih, show (n + 1) * 4 = 4 + n * 4 by omega, ← List.replicate_append_replicate]; rfl
theorem made4 (n : Nat) : (madeCells (Value.agg #[.int .i64 0, .int .i64 0, .int .i64 0, .int .i64 0]).cells (n * 4)).toList = inss (List.replicate n in0) := by
  rw [inss_rep]
  refine List.ext_getElem (by simp [size_madeCells]) fun i h1 h2 => ?_
  have h4 : i % 4 = 0 ∨ i % 4 = 1 ∨ i % 4 = 2 ∨ i % 4 = 3 := by omega
  simp only [madeCells, Array.toList_map, List.getElem_map, Array.getElem_toList, Array.getElem_range, List.getElem_replicate]
  show (#[Value.int .i64 0, .int .i64 0, .int .i64 0, .int .i64 0] : Array Value)[i % 4]! = _
  rcases h4 with h | h | h | h <;> rw [h] <;> rfl
theorem own_made4 {w : World} {n : Nat} {el : TypeId} (hn : n ≤ 9223372036854775807) : (w.alloc (.cells (madeCells (Value.agg #[.int .i64 0, .int .i64 0, .int .i64 0, .int .i64 0]).cells (n * 4)) el)).ownsRow w.heap.size el 4 (.slice (some ⟨w.heap.size, 0, none⟩) n n) n (inss (List.replicate n in0)) :=
  ⟨by rw [inss_len, List.length_replicate], .inr ⟨w.heap.size, n, _, rfl, Nat.le_refl _, heap_alloc_new w _, Nat.le_refl _, by rw [maxLen_eq]; omega, size_madeCells _ _, by rw [made4, List.take_of_length_le (by rw [inss_len, List.length_replicate]; omega)]⟩⟩
theorem fitP_blank {nc ne : Nat} : fitP nc ne 32 0 := by simp [fitP]
end Go.Proofs.YthlbhnefldaoiaaDoor
