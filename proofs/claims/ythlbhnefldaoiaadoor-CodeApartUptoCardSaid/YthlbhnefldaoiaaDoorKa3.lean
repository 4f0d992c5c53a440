/-
  Walks and lemmas. Written by program out of specs of mine.
-/
import Derived.WalkKit
import Derived.WalkSpells
import Derived.WalkLawsBesides
import Derived.Deep.Quiet
import Derived.StillTail
import Derived.StringKeys
import Derived.Laws.StructEq
import Derived.Laws.Externs
import Derived.Laws.Tables
import Derived.Scope
import Derived.Laws.AppendOwn
import Derived.Maps.AppendAt
import Derived.Recover
import Derived.Test.YthlbhnefldaoiaaDoorProg
import Derived.Shelf.Strconv.Itoa0
import Derived.Shelf.Strconv.Itoa1
import Derived.Shelf.LaysM
import Derived.Shelf.Strconv.Itoa2
import Derived.Shelf.Strconv.Itoa3
import Derived.Shelf.Strings.Builder1
import Derived.Shelf.Strings.OnBuilder
import Derived.Lib.Builder
import Derived.Lib.UnsafeStr
import Derived.Lib.ItoaLen
import Derived.SizedLaws
import Derived.ChangeArms
import Derived.ChangeSlices
import Derived.Lib.ConvBytes
import Derived.Test.YthlbhnefldaoiaaDoorRows
import Derived.ProofKit
import Derived.OpenShut
import Derived.ShutString
import Derived.ChangeOld
import Derived.Below
import Derived.JoinedCond
import Derived.SliceStrings
import Derived.Test.YthlbhnefldaoiaaDoorCards
import Derived.Test.YthlbhnefldaoiaaDoorTie
import Derived.Deep.DeepHandedRow
import Derived.Lib.LaidTab
import Derived.Test.YthlbhnefldaoiaaDoorKa2
set_option linter.unusedSimpArgs false
set_option linter.unusedVariables false
set_option maxRecDepth 100000
set_option linter.unusedSimpArgs false
set_option linter.unusedVariables false
set_option maxRecDepth 100000
namespace Go.Proofs.YthlbhnefldaoiaaDoor
open Go Go.Vc Go.RowKit Go.Proofs

theorem fm_sub {α : Type} {f : α → List Value} {s : Nat} (hf : ∀ a, (f a).length = s) (L : List α) (l m : Nat) : ((L.flatMap f).drop (l * s)).take (m * s) = ((L.drop l).take m).flatMap f := by
  have h1 : ∀ (k : Nat) (M : List α), (M.flatMap f).drop (k * s) = (M.drop k).flatMap f := by
    intro k
    induction k with
    | zero => intro M; simp
    | succ k ih =>
      intro M
      cases M with
      | nil => simp
      | cons x M =>
        rw [List.flatMap_cons, List.drop_succ_cons, ← ih M, Nat.add_mul, Nat.one_mul, Nat.add_comm, ← List.drop_drop, List.drop_left' (hf x)]
  have h2 : ∀ (k : Nat) (M : List α), (M.flatMap f).take (k * s) = (M.take k).flatMap f := by
    intro k
    induction k with
    | zero => intro M; simp
    | succ k ih =>
      intro M
      cases M with
      | nil => simp
      | cons x M =>
        rw [List.flatMap_cons, List.take_succ_cons, List.flatMap_cons, ← ih M, Nat.add_mul, Nat.one_mul, Nat.add_comm (k * s), List.take_append, List.take_of_length_le (by rw [hf]; omega), hf, Nat.add_sub_cancel_left]
  rw [h1, h2]
theorem inss_sub (L : List Ins) (l m : Nat) : ((inss L).drop (l * 4)).take (m * 4) = inss ((L.drop l).take m) := fm_sub insV_len L l m
theorem inss_take (L : List Ins) (m : Nat) : (inss L).take (m * 4) = inss (L.take m) := by have := inss_sub L 0 m; simpa using this
def AR (L : List Ins) (i k : Nat) : Prop := (L.getD (i + 1 + k) in0).op = 9 ∧ ∀ j, j < k → (L.getD (i + 1 + j) in0).a ≠ (L.getD (i + 1 + k) in0).a
theorem arms_iff {L : List Ins} {i : Nat} {n : Int} : ArmsP L i n ↔ (i : Int) + n < L.length ∧ ∀ k : Nat, (k : Int) < n → AR L i k := by
  constructor
  · intro h
    refine ⟨h.room, fun k hk => ⟨?_, fun j hj => ?_⟩⟩
    · have := h.arm (1 + k) (by omega) (by omega)
      rwa [← Nat.add_assoc] at this
    · have := h.tags (1 + j) (1 + k) (by omega) (by omega) (by omega)
      rwa [← Nat.add_assoc, ← Nat.add_assoc] at this
  · rintro ⟨h1, h2⟩
    refine ⟨h1, fun k hk hn => ?_, fun j k hj hk hn => ?_⟩
    · have := (h2 (k - 1) (by omega)).1
      rwa [show i + 1 + (k - 1) = i + k by omega] at this
    · have := (h2 (k - 1) (by omega)).2 (j - 1) (by omega)
      rwa [show i + 1 + (k - 1) = i + k by omega, show i + 1 + (j - 1) = i + j by omega] at this
theorem fitP_bd {nc ne : Nat} (h1 : nc ≤ 1048576) (h2 : ne ≤ 1048576) {c : UInt8} (hc : c ∈ lets) {x : Int} (h : fitP nc ne c x) : -1 ≤ x ∧ x ≤ 16777216 := by
  rcases lets_cases hc with rfl | rfl | rfl | rfl | rfl | rfl | rfl | rfl | rfl | rfl | rfl | rfl | rfl | rfl | rfl | rfl | rfl <;> simp [fitP] at h <;> omega
theorem mul_bd {b c : Int} (h1 : -1 ≤ b) (h2 : b ≤ 16777216) (h3 : -1 ≤ c) (h4 : c ≤ 16777216) : -16777217 ≤ b * c ∧ b * c ≤ 281474976710656 := by
  obtain ⟨n, hn⟩ : ∃ n : Nat, b = (n : Int) - 1 := ⟨(b + 1).toNat, by omega⟩
  obtain ⟨m, hm⟩ : ∃ m : Nat, c = (m : Int) - 1 := ⟨(c + 1).toNat, by omega⟩
  subst hn hm
  have e : ((n : Int) - 1) * ((m : Int) - 1) = ((n * m : Nat) : Int) - n - m + 1 := by
    rw [Int.sub_mul, Int.mul_sub]; simp only [Int.natCast_mul]; omega
  rcases Nat.eq_zero_or_pos n with rfl | hn
  · rw [e]; omega
  · rcases Nat.eq_zero_or_pos m with rfl | hm
    · rw [e]; omega
    · obtain ⟨a, rfl⟩ : ∃ a, n = a + 1 := ⟨n - 1, by omega⟩
      obtain ⟨d, rfl⟩ : ∃ d, m = d + 1 := ⟨m - 1, by omega⟩
      have h5 : a * d ≤ 16777216 * 16777216 := Nat.mul_le_mul (by omega) (by omega)
      have e2 : (((a + 1 : Nat) : Int) - 1) * (((d + 1 : Nat) : Int) - 1) = ((a * d : Nat) : Int) := by
        rw [show ((a + 1 : Nat) : Int) - 1 = (a : Int) by omega, show ((d + 1 : Nat) : Int) - 1 = (d : Int) by omega]; simp
      rw [e2]
      omega
/-- the form of an instruction, and which of its operands fit -/
theorem form_cases (p : Pg) (x : Ins) : (fmOf p.enc x.op = none) ∨ ∃ nm l0 l1 l2, fmOf p.enc x.op = some (nm, [l0, l1, l2]) ∧ (l0 ∈ lets ∧ l1 ∈ lets ∧ l2 ∈ lets) ∧
    ((¬ fitP p.code.length p.ent.length l0 x.a) ∨ (fitP p.code.length p.ent.length l0 x.a ∧ ¬ fitP p.code.length p.ent.length l1 x.b) ∨ (fitP p.code.length p.ent.length l0 x.a ∧ fitP p.code.length p.ent.length l1 x.b ∧ ¬ fitP p.code.length p.ent.length l2 x.c) ∨ (fitP p.code.length p.ent.length l0 x.a ∧ fitP p.code.length p.ent.length l1 x.b ∧ fitP p.code.length p.ent.length l2 x.c)) := by
  cases h : fmOf p.enc x.op with
  | none => exact .inl rfl
  | some f =>
    right
    obtain ⟨h1, h2⟩ := fmOf_three h
    obtain ⟨nm, ls⟩ := f
    match ls, h1, h2 with
    | [l0, l1, l2], _, h2 =>
      refine ⟨nm, l0, l1, l2, rfl, ⟨h2 _ (by simp), h2 _ (by simp), h2 _ (by simp)⟩, ?_⟩
      by_cases ha : fitP p.code.length p.ent.length l0 x.a
      · by_cases hb : fitP p.code.length p.ent.length l1 x.b
        · by_cases hc : fitP p.code.length p.ent.length l2 x.c
          · exact .inr (.inr (.inr ⟨ha, hb, hc⟩))
          · exact .inr (.inr (.inl ⟨ha, hb, hc⟩))
        · exact .inr (.inl ⟨ha, hb⟩)
      · exact .inl ha
theorem okI_none {p : Pg} {i : Nat} {x : Ins} (hx : p.code.getD i in0 = x) (h : fmOf p.enc x.op = none) : ¬ OkI p i := by
  rintro ⟨f, h1, -⟩
  rw [hx, h] at h1
  cases h1
theorem okI_iff {p : Pg} {i : Nat} {x : Ins} {nm : List UInt8} {l0 l1 l2 : UInt8} (hx : p.code.getD i in0 = x) (h : fmOf p.enc x.op = some (nm, [l0, l1, l2])) : OkI p i ↔ fitP p.code.length p.ent.length l0 x.a ∧ fitP p.code.length p.ent.length l1 x.b ∧ fitP p.code.length p.ent.length l2 x.c ∧ moreP p.code i x nm := by
  constructor
  · rintro ⟨f, h1, h2, h3, h4, h5⟩
    rw [hx] at h1 h2 h3 h4 h5
    rw [h] at h1
    cases h1
    exact ⟨h2, h3, h4, h5⟩
  · rintro ⟨h2, h3, h4, h5⟩
    exact ⟨_, by rw [hx]; exact ⟨h, h2, h3, h4, h5⟩⟩
theorem fm_union : ∀ f ∈ dTab.tail ++ cTab, f.1 = [117, 110, 105, 111, 110] ∨ f.1 = [99, 104, 111, 105, 99, 101] → f.2 = [97, 32, 32] := by decide +kernel
theorem fmP_some {enc : Bool} {op : Int} {nm : List UInt8} {l0 l1 l2 : UInt8} (h : fmOf enc op = some (nm, [l0, l1, l2])) : fmP enc op = (nm, [tl l0, tl l1, tl l2], true) := by rw [fmP_eq, fmR, h]; rfl
theorem fmP_none {enc : Bool} {op : Int} (h : fmOf enc op = none) : fmP enc op = ([], [], false) := by rw [fmP_eq, fmR, h]
theorem getD_at {L : List Ins} {k : Nat} (h : k < L.length) : L.getD k in0 = L[k] := by rw [List.getD_eq_getElem?_getD, List.getElem?_eq_getElem h]; rfl

theorem right1_spec (z y : Ins) (b1 : Nat) (w0 : World) (hC : w0.heap[b1]? = some (.cells (insV y).toArray 28 (0, 0))) : Ca Tryd.prog 53 #[.agg (insV z).toArray, .pointer (some ⟨b1, 0, none⟩)] w0 (fun r w' => r = .bool (decide (z.a = y.a)) ∧ Ext w0 w') := by
  refine Ca.of Tryd.func53 Tryd.ntmps53 rfl rfl ?_
  refine W.seq ?_
  refine W.region ?_
  refine WL.c rfl (o_boxB rfl ?_)
  intro w2 hC2 hx2 hs2
  obtain ⟨b2, hb2⟩ : ∃ b, b = w0.heap.size := ⟨_, rfl⟩
  rw [← hb2] at hC2 ⊢
  replace hC2 : w2.heap[b2]? = some (.cells (insV z).toArray 28 (0, 0)) := hC2
  have hx : Ext w0 w2 := hx2
  refine WL.c rfl (o_ash (show _ = Value.bool _ from rfl) ?_)
  refine WL.nil ?_
  refine W.seq ?_
  refine W.region ?_
  refine WL.c rfl (o_fa 1 TI28 rfl TI3 rfl rfl ?_)
  refine WL.c rfl (o_ld TI3 rfl rfl (cell_of hC2 rfl) ?_)
  refine WL.c rfl (o_fa 1 TI28 rfl TI3 rfl rfl ?_)
  refine WL.c rfl (o_ld TI3 rfl rfl (cell_of (hx.blk hC (fun h => h)) rfl) ?_)
  refine WL.c rfl (o_eq rfl rfl ?_)
  refine WL.c rfl (o_ash (show _ = Value.bool _ from rfl) ?_)
  refine WL.nil ?_
  refine W.ret ?_
  refine ret1v rfl (show _ = Value.bool _ from rfl) ?_
  exact ⟨rfl, hx⟩
theorem index_spec (L : List Ins) (v : Value) (y : Ins) (b1 : Nat) (w0 : World) (hS : Sl w0 4 v L.length (inss L)) (hl : L.length ≤ 4611686018427387904) (hC : w0.heap[b1]? = some (.cells (insV y).toArray 28 (0, 0))) : Ca Tryd.prog 68 #[v, Value.func (.func 53) #[] #[.pointer (some ⟨b1, 0, none⟩)]] w0 (fun r w' => ∃ k : Int, r = .int .i64 k ∧ (0 ≤ k ↔ ∃ j, j < L.length ∧ (L.getD j in0).a = y.a) ∧ Ext w0 w') := by
  refine Ca.of Tryd.func68 Tryd.ntmps68 rfl rfl ?_
  refine W.seq ?_
  refine W.region ?_
  refine WL.c rfl (o_ash (show _ = Value.int _ _ from rfl) ?_)
  refine WL.nil ?_
  refine W.seq ?_
  refine W.seq ?_
  refine W.region ?_
  refine WL.c rfl (o_mvh (by first | exact (show _ = Value.slice _ _ _ from rfl) | exact rfl) ?_)
  refine WL.c rfl (o_lenR TI23 rfl hS ?_)
  refine WL.c rfl (o_mvh (show _ = Value.int _ _ from rfl) ?_)
  refine WL.nil ?_
  refine W.block ?_
  refine W.loop (fun e w => ∃ k : Nat, k ≤ L.length ∧ e 0 = v ∧ e 1 = Value.func (.func 53) #[] #[.pointer (some ⟨b1, 0, none⟩)] ∧ e 7 = .int .i64 (L.length : Int) ∧ e 8 = .int .i64 (k : Int) ∧ (∀ j, j < k → (L.getD j in0).a ≠ y.a) ∧ Ext w0 w) (fun e w => L.length - (intOf (e 8)).toNat) ?_ ?_
  · exact ⟨0, Nat.zero_le _, rfl, rfl, rfl, rfl, fun j h => absurd h (Nat.not_lt_zero j), Only.refl _ _⟩
  rintro e w ⟨k, hk, h0, h1, h7, h8, hno, hx⟩
  have hm8 := h8
  refine W.seq ?_
  refine W.region ?_
  refine WL.c rfl (o_lt h8 h7 ?_)
  refine WL.nil ?_
  refine W.seq ?_
  refine W.cond rfl (fun c9 => ?_) (fun c9 => ?_)
  · try simp only [decide_eq_true_eq, decide_eq_false_iff_not, Bool.not_eq_true', Bool.not_eq_false', Bool.and_eq_true, Bool.or_eq_true, Bool.and_eq_false_iff, Bool.or_eq_false_iff] at c9
    have hk1 : k < L.length := by omega
    obtain ⟨sb, so, sc, hve, hsc⟩ := Sl.ins (hS.ext hx) hk1
    rw [hve] at h0
    refine W.skip ?_
    refine W.seq ?_
    refine W.block ?_
    refine W.seq ?_
    refine W.region ?_
    refine WL.c rfl (o_mvh h8 ?_)
    refine WL.c rfl (o_ash (show _ = Value.int _ _ from rfl) ?_)
    refine WL.nil ?_
    refine W.seq ?_
    refine W.region ?_
    refine WL.c rfl (o_mvh h1 ?_)
    refine WL.c rfl (o_mvh h0 ?_)
    refine WL.c rfl (o_mvh (show _ = Value.int _ _ from rfl) ?_)
    refine WL.c rfl (o_ixB (i := k) TI23 TI28 rfl rfl (by omega) ?_)
    refine WL.c rfl (o_ldA TI28 rfl rfl hsc rfl ?_)
    refine WL.c rfl (o_callC (show _ = Value.func (.func 53) #[] #[.pointer (some ⟨b1, 0, none⟩)] from rfl) Tryd.call53 (lc (show _ = Value.agg (insV L[k]).toArray from rfl) ln) ((right1_spec L[k] y b1 _ (hx.blk hC (fun h => h))).mono ?_))
    rintro v16 w16 ⟨rfl, hx16⟩
    replace hx := hx.tr hx16
    refine WL.nil ?_
    refine W.cond rfl (fun c16 => ?_) (fun c16 => ?_)
    · try simp only [decide_eq_true_eq, decide_eq_false_iff_not, Bool.not_eq_true', Bool.not_eq_false', Bool.and_eq_true, Bool.or_eq_true, Bool.and_eq_false_iff, Bool.or_eq_false_iff] at c16
      refine W.seq ?_
      refine W.region ?_
      refine WL.c rfl (o_mvh (show _ = Value.int _ _ from rfl) ?_)
      refine WL.c rfl (o_ash (show _ = Value.int _ _ from rfl) ?_)
      refine WL.nil ?_
      refine W.ret ?_
      refine ret1v rfl (show _ = Value.int _ _ from rfl) ?_
      exact ⟨_, rfl, ⟨fun _ => ⟨k, hk1, by rw [getD_at hk1]; exact c16⟩, fun _ => by omega⟩, hx⟩
    · try simp only [decide_eq_true_eq, decide_eq_false_iff_not, Bool.not_eq_true', Bool.not_eq_false', Bool.and_eq_true, Bool.or_eq_true, Bool.and_eq_false_iff, Bool.or_eq_false_iff] at c16
      refine W.skip ?_
      refine W.region ?_
      refine WL.c rfl (o_addi h8 rfl (by omega) ?_)
      refine WL.c rfl (o_mvh (show _ = Value.int _ _ from rfl) ?_)
      refine WL.nil ?_
      refine ⟨⟨k + 1, by omega, h0.trans hve.symm, h1, h7, rfl, fun j hj => ?_, hx⟩, ?_⟩
      · rcases Nat.lt_or_ge j k with h | h
        · exact hno j h
        · rw [show j = k by omega, getD_at hk1]; exact c16
      show L.length - ((k : Int) + 1).toNat < _
      rw [hm8]; simp [intOf]; omega
  · try simp only [decide_eq_true_eq, decide_eq_false_iff_not, Bool.not_eq_true', Bool.not_eq_false', Bool.and_eq_true, Bool.or_eq_true, Bool.and_eq_false_iff, Bool.or_eq_false_iff] at c9
    refine W.exit ?_
    refine W.seq ?_
    refine W.region ?_
    refine WL.c rfl (o_ash (show _ = Value.int _ _ from rfl) ?_)
    refine WL.nil ?_
    refine W.ret ?_
    refine ret1v rfl (show _ = Value.int _ _ from rfl) ?_
    exact ⟨_, rfl, ⟨fun h => by omega, fun ⟨j, hj, hj2⟩ => absurd hj2 (hno j (by omega))⟩, hx⟩
theorem contains_spec (L : List Ins) (v : Value) (y : Ins) (b1 : Nat) (w0 : World) (hS : Sl w0 4 v L.length (inss L)) (hl : L.length ≤ 4611686018427387904) (hC : w0.heap[b1]? = some (.cells (insV y).toArray 28 (0, 0))) : Ca Tryd.prog 52 #[v, Value.func (.func 53) #[] #[.pointer (some ⟨b1, 0, none⟩)]] w0 (fun r w' => ∃ b, r = .bool b ∧ (b = true ↔ ∃ j, j < L.length ∧ (L.getD j in0).a = y.a) ∧ Ext w0 w') := by
  refine Ca.of Tryd.func52 Tryd.ntmps52 rfl rfl ?_
  refine W.seq ?_
  refine W.region ?_
  refine WL.c rfl (o_ash (show _ = Value.bool _ from rfl) ?_)
  refine WL.nil ?_
  refine W.seq ?_
  refine W.region ?_
  refine WL.c rfl (o_mvh (by first | exact (show _ = Value.slice _ _ _ from rfl) | exact rfl) ?_)
  refine WL.c rfl (o_mv ?_)
  refine WL.c rfl (o_call Tryd.call68 (lc rfl (lc rfl ln)) ((index_spec L v y b1 _ hS hl hC).mono ?_))
  rintro v7 w7 ⟨k7, rfl, hk7, hx7⟩
  refine WL.c rfl (o_ge rfl rfl ?_)
  refine WL.c rfl (o_ash (show _ = Value.bool _ from rfl) ?_)
  refine WL.nil ?_
  refine W.ret ?_
  refine ret1v rfl (show _ = Value.bool _ from rfl) ?_
  exact ⟨_, rfl, by rw [decide_eq_true_eq]; exact hk7, hx7⟩

theorem more_un {L : List Ins} {i : Nat} {x : Ins} {nm : List UInt8} (h : nm = [117, 110, 105, 111, 110] ∨ nm = [99, 104, 111, 105, 99, 101]) : moreP L i x nm ↔ ArmsP L i x.a := by
  rcases h with rfl | rfl <;> simp [moreP]
theorem arm_at {L A : List Ins} {i n k : Nat} (hA : A = (L.drop (i + 1)).take n) (hk : k < n) (hl : i + n < L.length) : A.length = n ∧ A.getD k in0 = L.getD (i + 1 + k) in0 := by
  subst hA
  refine ⟨by rw [List.length_take, List.length_drop]; omega, ?_⟩
  rw [List.getD_eq_getElem?_getD, List.getD_eq_getElem?_getD, List.getElem?_take, if_pos hk, List.getElem?_drop]
theorem ar_op {L A : List Ins} {i n k : Nat} (hA : A = (L.drop (i + 1)).take n) (hk : k < n) (hl : i + n < L.length) (h : (A.getD k in0).op ≠ 9) : ¬ AR L i k := fun h9 => h (by rw [(arm_at hA hk hl).2]; exact h9.1)
theorem ar_tag {L A : List Ins} {i n k : Nat} (hA : A = (L.drop (i + 1)).take n) (hk : k < n) (hl : i + n < L.length) (h : (A.getD k in0).op = 9) {b : Bool} (hb : b = true ↔ ∃ j, j < (A.take k).length ∧ ((A.take k).getD j in0).a = (A.getD k in0).a) : b = true ↔ ¬ AR L i k := by
  have hAl := (arm_at hA hk hl).1
  have hg : ∀ j, j < k → ((A.take k).getD j in0) = L.getD (i + 1 + j) in0 := fun j hj => by
    rw [← (arm_at hA (show j < n by omega) hl).2, List.getD_eq_getElem?_getD, List.getD_eq_getElem?_getD, List.getElem?_take, if_pos hj]
  rw [hb, (arm_at hA hk hl).2]
  rw [(arm_at hA hk hl).2] at h
  have htl : (A.take k).length = k := by rw [List.length_take]; omega
  rw [htl]
  constructor
  · rintro ⟨j, hj, hj2⟩ h9
    rw [hg j hj] at hj2
    exact h9.2 j hj hj2
  · intro h9
    apply Classical.byContradiction
    intro hn
    refine h9 ⟨h, fun j hj he => hn ⟨j, hj, ?_⟩⟩
    rw [hg j hj]; exact he

set_option maxHeartbeats 8000000 in
theorem right_spec (p : Pg) (cv ev_ : Value) (i : Nat) (w0 : World) (hp : PgR w0 p cv ev_) (hlc : p.code.length ≤ 1048576) (hle : p.ent.length ≤ 1048576) (hi : i < p.code.length) : Ca Tryd.prog 24 #[.agg (pgV p cv ev_).toArray, .int .i64 (i : Int)] w0 (fun r w' => ∃ b, r = .bool b ∧ (b = true ↔ OkI p i) ∧ Ext w0 w') := by
  obtain ⟨cb, co, cc, hcv, hcc⟩ := Sl.ins hp.code hi
  subst hcv
  obtain ⟨cv, hcv⟩ : ∃ cv, cv = Value.slice (some ⟨cb, co, none⟩) p.code.length cc := ⟨_, rfl⟩
  obtain ⟨x, hx0⟩ : ∃ x, x = p.code[i] := ⟨_, rfl⟩
  rw [← hx0] at hcc
  have hxi : p.code.getD i in0 = x := by rw [hx0]; exact getD_at hi
  rw [← hcv] at hp ⊢
  refine Ca.of Tryd.func24 Tryd.ntmps24 rfl rfl ?_
  refine W.seq ?_
  refine W.region ?_
  refine WL.c rfl (o_boxB rfl ?_)
  intro w2 hC2 hx2 hs2
  obtain ⟨b2, hb2⟩ : ∃ b, b = w0.heap.size := ⟨_, rfl⟩
  rw [← hb2] at hC2 ⊢
  replace hC2 : w2.heap[b2]? = some (.cells (pgV p cv ev_).toArray 26 (0, 0)) := hC2
  have hx : Ext w0 w2 := hx2
  refine WL.c rfl (o_ash (show _ = Value.bool _ from rfl) ?_)
  refine WL.nil ?_
  refine W.seq ?_
  refine W.region ?_
  refine WL.c rfl (o_fa 1 TI26 rfl TI23 rfl rfl ?_)
  refine WL.c rfl (o_ld TI23 rfl rfl (cell_of hC2 rfl) ?_)
  refine WL.c rfl (o_mvh (show _ = Value.int _ _ from rfl) ?_)
  refine WL.c rfl (o_ixB (i := i) TI23 TI28 hcv rfl hi ?_)
  refine WL.c rfl (o_ldA TI28 rfl rfl (Cells.only hcc hx (fun h => h)) rfl ?_)
  refine WL.c rfl (o_alB TI28 ?_)
  intro wa hCa hxa hsa
  refine WL.u (o_stA TI28 rfl (show _ = Value.agg (insV x).toArray from rfl) rfl rfl hCa rfl ?_)
  intro wb5 hC5 hob hsb
  have hxb := Ext.own hxa (Nat.le_refl _) hob
  obtain ⟨b5, hb5⟩ : ∃ b, b = w2.heap.size := ⟨_, rfl⟩
  rw [← hb5] at hC5 ⊢
  clear hCa hxa hsa hob hsb
  replace hx := hx.tr hxb
  replace hC2 := hxb.blk hC2 (fun h => h)
  clear hxb
  refine WL.nil ?_
  refine W.seq ?_
  refine W.region ?_
  refine WL.c rfl (o_ldA TI26 rfl rfl (show Cells _ b2 0 (pgV p cv ev_) from Cells.of hC2 0 _ (by simp)) rfl ?_)
  refine WL.c rfl (o_fa 0 TI28 rfl TI3 rfl rfl ?_)
  refine WL.c rfl (o_ld TI3 rfl rfl (cell_of hC5 rfl) ?_)
  refine WL.c rfl (o_call Tryd.call28 (lc rfl (lc rfl ln)) ((of_spec p cv ev_ x.op _ (hp.ext hx)).mono ?_))
  rintro v20 w20 ⟨rfl, hx20⟩
  obtain ⟨F, hF⟩ : ∃ F, F = fmP p.enc x.op := ⟨_, rfl⟩
  rw [← hF]
  replace hx := hx.tr hx20
  replace hC2 := hx20.blk hC2 (fun h => h)
  replace hC5 := hx20.blk hC5 (fun h => h)
  refine WL.c rfl (o_mvh (by first | exact (show _ = Value.tuple _ from rfl) | exact rfl) ?_)
  refine WL.c rfl (o_ext rfl rfl ?_)
  refine WL.c rfl (o_ext rfl rfl ?_)
  refine WL.c rfl (o_alB TI61 ?_)
  intro wa hCa hxa hsa
  refine WL.u (o_stA TI61 rfl (show _ = Value.agg ([st F.1, st F.2.1]).toArray from rfl) rfl rfl hCa rfl ?_)
  intro wb6 hC6 hob hsb
  have hxb := Ext.own hxa (Nat.le_refl _) hob
  obtain ⟨b6, hb6⟩ : ∃ b, b = w20.heap.size := ⟨_, rfl⟩
  rw [← hb6] at hC6 ⊢
  clear hCa hxa hsa hob hsb
  replace hx := hx.tr hxb
  replace hC2 := hxb.blk hC2 (fun h => h)
  replace hC5 := hxb.blk hC5 (fun h => h)
  clear hxb
  refine WL.c rfl (o_ash (show _ = Value.bool _ from rfl) ?_)
  refine WL.nil ?_
  refine W.seq ?_
  refine W.seq ?_
  rcases form_cases p x with hf | ⟨nm, l0, l1, l2, hf, ⟨hl0, hl1, hl2⟩, ha | ⟨ha, hb⟩ | ⟨ha, hb, hc⟩ | ⟨ha, hb, hc⟩⟩
  · skip
    have hF2 := hF.trans (fmP_none hf)
    clear hF
    subst hF2
    obtain ⟨wd, hwd⟩ : ∃ wd, wd = World.drew wb6 := ⟨_, rfl⟩
    have hxd : Ext wb6 wd := hwd ▸ Only.drew wb6
    replace hx := hx.tr hxd
    replace hC2 := hxd.blk hC2 (fun h => h)
    replace hC5 := hxd.blk hC5 (fun h => h)
    replace hC6 := hxd.blk hC6 (fun h => h)
    replace hp := hp.ext hx
    refine W.draw (Ext) [(1, fun v _ => v = (Value.int .i64 (i : Int))), (2, fun v _ => v = (Value.pointer (some ⟨b2, 0, none⟩))), (5, fun v _ => v = (Value.pointer (some ⟨b5, 0, none⟩))), (6, fun v _ => v = (Value.pointer (some ⟨b6, 0, none⟩))), (7, fun v _ => v = _)] rfl (by kernel_rfl) (Only.refl No) (fun _ _ _ h k => h.trans k) ⟨Mono.eq, Mono.eq, Mono.eq, Mono.eq, Mono.eq, trivial⟩ ⟨rfl, rfl, rfl, rfl, rfl, trivial⟩ ?_
    refine WD.p rfl (fun e w hR hh => by obtain ⟨h7, -⟩ := hh; exact SG.n (o_mvh h7 ⟨rfl, Only.refl No _⟩)) ?_
    refine WD.p rfl (fun e w hR hh => by obtain ⟨h23, -⟩ := hh; exact SG.n (o_not' h23 ⟨rfl, Only.refl No _⟩)) ?_
    refine WD.p rfl (fun e w hR hh => by obtain ⟨h24, -⟩ := hh; exact SG.n (o_mvh h24 ⟨rfl, Only.refl No _⟩)) ?_
    refine WD.p rfl (fun e w hR hh => by obtain ⟨h25, h2, -⟩ := hh; rw [← hwd] at hR; have hc0 := hR.blk hC2 (fun h => h); exact SG.s h25 (rfl) ⟨rfl, Only.refl No _⟩) ?_
    refine WD.p rfl (fun e w hR hh => by obtain ⟨h25, h6, -⟩ := hh; exact SG.s h25 (rfl) ⟨rfl, Only.refl No _⟩) ?_
    refine WD.p rfl (fun e w hR hh => by obtain ⟨h27, h25, -⟩ := hh; rw [← hwd] at hR; have hc0 := hR.blk hC6 (fun h => h); exact SG.s h25 (rfl) ⟨rfl, Only.refl No _⟩) ?_
    refine WD.p rfl (fun e w hR hh => by obtain ⟨h28, h25, -⟩ := hh; exact SG.s h25 (rfl) ⟨rfl, Only.refl No _⟩) ?_
    refine WD.p rfl (fun e w hR hh => by obtain ⟨h25, h5, -⟩ := hh; exact SG.s h25 (rfl) ⟨rfl, Only.refl No _⟩) ?_
    refine WD.p rfl (fun e w hR hh => by obtain ⟨h30, h25, -⟩ := hh; rw [← hwd] at hR; have hc0 := hR.blk hC5 (fun h => h); exact SG.s h25 (rfl) ⟨rfl, Only.refl No _⟩) ?_
    refine WD.p rfl (fun e w hR hh => by obtain ⟨h31, h29, h26, h25, -⟩ := hh; exact SG.s h25 (rfl) ⟨rfl, Only.refl No _⟩) ?_
    refine WD.p rfl (fun e w hR hh => by obtain ⟨h32, h25, -⟩ := hh; exact SG.s h25 (rfl) ⟨rfl, Only.refl No _⟩) ?_
    refine WD.p rfl (fun e w hR hh => by obtain ⟨h33, h25, -⟩ := hh; exact SG.n (o_pickT h25 (rfl) ⟨rfl, Only.refl No _⟩)) ?_
    refine WD.p rfl (fun e w hR hh => by obtain ⟨h34, -⟩ := hh; exact SG.n (o_mvh h34 ⟨rfl, Only.refl No _⟩)) ?_
    refine WD.p rfl (fun e w hR hh => by obtain ⟨h35, h2, -⟩ := hh; rw [← hwd] at hR; have hc0 := hR.blk hC2 (fun h => h); exact SG.s h35 (rfl) ⟨rfl, Only.refl No _⟩) ?_
    refine WD.p rfl (fun e w hR hh => by obtain ⟨h35, h6, -⟩ := hh; exact SG.s h35 (rfl) ⟨rfl, Only.refl No _⟩) ?_
    refine WD.p rfl (fun e w hR hh => by obtain ⟨h37, h35, -⟩ := hh; rw [← hwd] at hR; have hc0 := hR.blk hC6 (fun h => h); exact SG.s h35 (rfl) ⟨rfl, Only.refl No _⟩) ?_
    refine WD.p rfl (fun e w hR hh => by obtain ⟨h38, h35, -⟩ := hh; exact SG.s h35 (rfl) ⟨rfl, Only.refl No _⟩) ?_
    refine WD.p rfl (fun e w hR hh => by obtain ⟨h35, h5, -⟩ := hh; exact SG.s h35 (rfl) ⟨rfl, Only.refl No _⟩) ?_
    refine WD.p rfl (fun e w hR hh => by obtain ⟨h40, h35, -⟩ := hh; rw [← hwd] at hR; have hc0 := hR.blk hC5 (fun h => h); exact SG.s h35 (rfl) ⟨rfl, Only.refl No _⟩) ?_
    refine WD.p rfl (fun e w hR hh => by obtain ⟨h41, h39, h36, h35, -⟩ := hh; exact SG.s h35 (rfl) ⟨rfl, Only.refl No _⟩) ?_
    refine WD.p rfl (fun e w hR hh => by obtain ⟨h42, h35, -⟩ := hh; exact SG.s h35 (rfl) ⟨rfl, Only.refl No _⟩) ?_
    refine WD.p rfl (fun e w hR hh => by obtain ⟨h43, h35, -⟩ := hh; exact SG.n (o_pickT h35 (rfl) ⟨rfl, Only.refl No _⟩)) ?_
    refine WD.p rfl (fun e w hR hh => by obtain ⟨h44, -⟩ := hh; exact SG.n (o_mvh h44 ⟨rfl, Only.refl No _⟩)) ?_
    refine WD.p rfl (fun e w hR hh => by obtain ⟨h45, h2, -⟩ := hh; rw [← hwd] at hR; have hc0 := hR.blk hC2 (fun h => h); exact SG.s h45 (rfl) ⟨rfl, Only.refl No _⟩) ?_
    refine WD.p rfl (fun e w hR hh => by obtain ⟨h45, h6, -⟩ := hh; exact SG.s h45 (rfl) ⟨rfl, Only.refl No _⟩) ?_
    refine WD.p rfl (fun e w hR hh => by obtain ⟨h47, h45, -⟩ := hh; rw [← hwd] at hR; have hc0 := hR.blk hC6 (fun h => h); exact SG.s h45 (rfl) ⟨rfl, Only.refl No _⟩) ?_
    refine WD.p rfl (fun e w hR hh => by obtain ⟨h48, h45, -⟩ := hh; exact SG.s h45 (rfl) ⟨rfl, Only.refl No _⟩) ?_
    refine WD.p rfl (fun e w hR hh => by obtain ⟨h45, h5, -⟩ := hh; exact SG.s h45 (rfl) ⟨rfl, Only.refl No _⟩) ?_
    refine WD.p rfl (fun e w hR hh => by obtain ⟨h50, h45, -⟩ := hh; rw [← hwd] at hR; have hc0 := hR.blk hC5 (fun h => h); exact SG.s h45 (rfl) ⟨rfl, Only.refl No _⟩) ?_
    refine WD.p rfl (fun e w hR hh => by obtain ⟨h51, h49, h46, h45, -⟩ := hh; exact SG.s h45 (rfl) ⟨rfl, Only.refl No _⟩) ?_
    refine WD.p rfl (fun e w hR hh => by obtain ⟨h52, h45, -⟩ := hh; exact SG.s h45 (rfl) ⟨rfl, Only.refl No _⟩) ?_
    refine WD.p rfl (fun e w hR hh => by obtain ⟨h53, h45, -⟩ := hh; exact SG.n (o_pickT h45 (rfl) ⟨rfl, Only.refl No _⟩)) ?_
    rintro e w hR ⟨h54, h53, h52, h51, h50, h49, h48, h47, h46, h45, h44, h43, h42, h41, h40, h39, h38, h37, h36, h35, h34, h33, h32, h31, h30, h29, h28, h27, h26, h25, h24, h23, h1, h2, h5, h6, h7, -⟩
    refine W.condT' h54 (rfl) ?_
    refine W.seq ?_
    refine W.region ?_
    refine WL.c rfl (o_ash (show _ = Value.bool _ from rfl) ?_)
    refine WL.nil ?_
    refine W.ret ?_
    refine ret1v rfl (show _ = Value.bool _ from rfl) ?_
    exact ⟨false, rfl, ⟨fun h => (by cases h), fun h => absurd h (okI_none hxi hf)⟩, hx.tr (hwd ▸ hR)⟩
  · skip
    have hF2 := hF.trans (fmP_some hf)
    clear hF
    subst hF2
    obtain ⟨wd, hwd⟩ : ∃ wd, wd = World.drew wb6 := ⟨_, rfl⟩
    have hxd : Ext wb6 wd := hwd ▸ Only.drew wb6
    replace hx := hx.tr hxd
    replace hC2 := hxd.blk hC2 (fun h => h)
    replace hC5 := hxd.blk hC5 (fun h => h)
    replace hC6 := hxd.blk hC6 (fun h => h)
    replace hp := hp.ext hx
    refine W.draw (Ext) [(1, fun v _ => v = (Value.int .i64 (i : Int))), (2, fun v _ => v = (Value.pointer (some ⟨b2, 0, none⟩))), (5, fun v _ => v = (Value.pointer (some ⟨b5, 0, none⟩))), (6, fun v _ => v = (Value.pointer (some ⟨b6, 0, none⟩))), (7, fun v _ => v = _)] rfl (by kernel_rfl) (Only.refl No) (fun _ _ _ h k => h.trans k) ⟨Mono.eq, Mono.eq, Mono.eq, Mono.eq, Mono.eq, trivial⟩ ⟨rfl, rfl, rfl, rfl, rfl, trivial⟩ ?_
    refine WD.p rfl (fun e w hR hh => by obtain ⟨h7, -⟩ := hh; exact SG.n (o_mvh h7 ⟨rfl, Only.refl No _⟩)) ?_
    refine WD.p rfl (fun e w hR hh => by obtain ⟨h23, -⟩ := hh; exact SG.n (o_not' h23 ⟨rfl, Only.refl No _⟩)) ?_
    refine WD.p rfl (fun e w hR hh => by obtain ⟨h24, -⟩ := hh; exact SG.n (o_mvh h24 ⟨rfl, Only.refl No _⟩)) ?_
    refine WD.p rfl (fun e w hR hh => by obtain ⟨h25, h2, -⟩ := hh; rw [← hwd] at hR; have hc0 := hR.blk hC2 (fun h => h); exact SG.g h25 (rfl) (o_ldA TI26 rfl h2 (show Cells _ b2 0 (pgV p cv ev_) from Cells.of hc0 0 _ (by simp)) rfl ⟨rfl, Only.refl No _⟩)) ?_
    refine WD.p rfl (fun e w hR hh => by obtain ⟨h25, h6, -⟩ := hh; exact SG.g h25 (rfl) (o_fa 1 TI61 rfl TI9 rfl h6 ⟨rfl, Only.refl No _⟩)) ?_
    refine WD.p rfl (fun e w hR hh => by obtain ⟨h27, h25, -⟩ := hh; rw [← hwd] at hR; have hc0 := hR.blk hC6 (fun h => h); exact SG.g h25 (rfl) (o_ld TI9 rfl h27 (cell_of hc0 rfl) ⟨rfl, Only.refl No _⟩)) ?_
    refine WD.p rfl (fun e w hR hh => by obtain ⟨h28, h25, -⟩ := hh; exact SG.g h25 (rfl) (o_idT (i := 0) TI9 h28 rfl (by simp) ⟨rfl, Only.refl No _⟩)) ?_
    refine WD.p rfl (fun e w hR hh => by obtain ⟨h25, h5, -⟩ := hh; exact SG.g h25 (rfl) (o_fa 1 TI28 rfl TI3 rfl h5 ⟨rfl, Only.refl No _⟩)) ?_
    refine WD.p rfl (fun e w hR hh => by obtain ⟨h30, h25, -⟩ := hh; rw [← hwd] at hR; have hc0 := hR.blk hC5 (fun h => h); exact SG.g h25 (rfl) (o_ld TI3 rfl h30 (cell_of hc0 rfl) ⟨rfl, Only.refl No _⟩)) ?_
    refine WD.p rfl (fun e w hR hh => by obtain ⟨h31, h29, h26, h25, -⟩ := hh; rw [← hwd] at hR; exact SG.g h25 (rfl) (o_call Tryd.call51 (lc h26 (lc h29 (lc h31 ln))) ((may_no p cv ev_ l0 x.a _ (hp.ext hR) (by omega) (by omega) hl0 ha).mono (fun v w' h => h)))) ?_
    refine WD.p rfl (fun e w hR hh => by obtain ⟨h32, h25, -⟩ := hh; exact SG.g h25 (rfl) (o_not' h32 ⟨rfl, Only.refl No _⟩)) ?_
    refine WD.p rfl (fun e w hR hh => by obtain ⟨h33, h25, -⟩ := hh; exact SG.n (o_pickO h25 h33 ⟨rfl, Only.refl No _⟩)) ?_
    refine WD.p rfl (fun e w hR hh => by obtain ⟨h34, -⟩ := hh; exact SG.n (o_mvh h34 ⟨rfl, Only.refl No _⟩)) ?_
    refine WD.p rfl (fun e w hR hh => by obtain ⟨h35, h2, -⟩ := hh; rw [← hwd] at hR; have hc0 := hR.blk hC2 (fun h => h); exact SG.s h35 (rfl) ⟨rfl, Only.refl No _⟩) ?_
    refine WD.p rfl (fun e w hR hh => by obtain ⟨h35, h6, -⟩ := hh; exact SG.s h35 (rfl) ⟨rfl, Only.refl No _⟩) ?_
    refine WD.p rfl (fun e w hR hh => by obtain ⟨h37, h35, -⟩ := hh; rw [← hwd] at hR; have hc0 := hR.blk hC6 (fun h => h); exact SG.s h35 (rfl) ⟨rfl, Only.refl No _⟩) ?_
    refine WD.p rfl (fun e w hR hh => by obtain ⟨h38, h35, -⟩ := hh; exact SG.s h35 (rfl) ⟨rfl, Only.refl No _⟩) ?_
    refine WD.p rfl (fun e w hR hh => by obtain ⟨h35, h5, -⟩ := hh; exact SG.s h35 (rfl) ⟨rfl, Only.refl No _⟩) ?_
    refine WD.p rfl (fun e w hR hh => by obtain ⟨h40, h35, -⟩ := hh; rw [← hwd] at hR; have hc0 := hR.blk hC5 (fun h => h); exact SG.s h35 (rfl) ⟨rfl, Only.refl No _⟩) ?_
    refine WD.p rfl (fun e w hR hh => by obtain ⟨h41, h39, h36, h35, -⟩ := hh; exact SG.s h35 (rfl) ⟨rfl, Only.refl No _⟩) ?_
    refine WD.p rfl (fun e w hR hh => by obtain ⟨h42, h35, -⟩ := hh; exact SG.s h35 (rfl) ⟨rfl, Only.refl No _⟩) ?_
    refine WD.p rfl (fun e w hR hh => by obtain ⟨h43, h35, -⟩ := hh; exact SG.n (o_pickT h35 (rfl) ⟨rfl, Only.refl No _⟩)) ?_
    refine WD.p rfl (fun e w hR hh => by obtain ⟨h44, -⟩ := hh; exact SG.n (o_mvh h44 ⟨rfl, Only.refl No _⟩)) ?_
    refine WD.p rfl (fun e w hR hh => by obtain ⟨h45, h2, -⟩ := hh; rw [← hwd] at hR; have hc0 := hR.blk hC2 (fun h => h); exact SG.s h45 (rfl) ⟨rfl, Only.refl No _⟩) ?_
    refine WD.p rfl (fun e w hR hh => by obtain ⟨h45, h6, -⟩ := hh; exact SG.s h45 (rfl) ⟨rfl, Only.refl No _⟩) ?_
    refine WD.p rfl (fun e w hR hh => by obtain ⟨h47, h45, -⟩ := hh; rw [← hwd] at hR; have hc0 := hR.blk hC6 (fun h => h); exact SG.s h45 (rfl) ⟨rfl, Only.refl No _⟩) ?_
    refine WD.p rfl (fun e w hR hh => by obtain ⟨h48, h45, -⟩ := hh; exact SG.s h45 (rfl) ⟨rfl, Only.refl No _⟩) ?_
    refine WD.p rfl (fun e w hR hh => by obtain ⟨h45, h5, -⟩ := hh; exact SG.s h45 (rfl) ⟨rfl, Only.refl No _⟩) ?_
    refine WD.p rfl (fun e w hR hh => by obtain ⟨h50, h45, -⟩ := hh; rw [← hwd] at hR; have hc0 := hR.blk hC5 (fun h => h); exact SG.s h45 (rfl) ⟨rfl, Only.refl No _⟩) ?_
    refine WD.p rfl (fun e w hR hh => by obtain ⟨h51, h49, h46, h45, -⟩ := hh; exact SG.s h45 (rfl) ⟨rfl, Only.refl No _⟩) ?_
    refine WD.p rfl (fun e w hR hh => by obtain ⟨h52, h45, -⟩ := hh; exact SG.s h45 (rfl) ⟨rfl, Only.refl No _⟩) ?_
    refine WD.p rfl (fun e w hR hh => by obtain ⟨h53, h45, -⟩ := hh; exact SG.n (o_pickT h45 (rfl) ⟨rfl, Only.refl No _⟩)) ?_
    rintro e w hR ⟨h54, h53, h52, h51, h50, h49, h48, h47, h46, h45, h44, h43, h42, h41, h40, h39, h38, h37, h36, h35, h34, h33, h32, h31, h30, h29, h28, h27, h26, h25, h24, h23, h1, h2, h5, h6, h7, -⟩
    refine W.condT' h54 (rfl) ?_
    refine W.seq ?_
    refine W.region ?_
    refine WL.c rfl (o_ash (show _ = Value.bool _ from rfl) ?_)
    refine WL.nil ?_
    refine W.ret ?_
    refine ret1v rfl (show _ = Value.bool _ from rfl) ?_
    exact ⟨false, rfl, ⟨fun h => (by cases h), fun h => absurd h (fun h => ha ((okI_iff hxi hf).1 h).1)⟩, hx.tr (hwd ▸ hR)⟩
  · skip
    have hF2 := hF.trans (fmP_some hf)
    clear hF
    subst hF2
    obtain ⟨wd, hwd⟩ : ∃ wd, wd = World.drew wb6 := ⟨_, rfl⟩
    have hxd : Ext wb6 wd := hwd ▸ Only.drew wb6
    replace hx := hx.tr hxd
    replace hC2 := hxd.blk hC2 (fun h => h)
    replace hC5 := hxd.blk hC5 (fun h => h)
    replace hC6 := hxd.blk hC6 (fun h => h)
    replace hp := hp.ext hx
    refine W.draw (Ext) [(1, fun v _ => v = (Value.int .i64 (i : Int))), (2, fun v _ => v = (Value.pointer (some ⟨b2, 0, none⟩))), (5, fun v _ => v = (Value.pointer (some ⟨b5, 0, none⟩))), (6, fun v _ => v = (Value.pointer (some ⟨b6, 0, none⟩))), (7, fun v _ => v = _)] rfl (by kernel_rfl) (Only.refl No) (fun _ _ _ h k => h.trans k) ⟨Mono.eq, Mono.eq, Mono.eq, Mono.eq, Mono.eq, trivial⟩ ⟨rfl, rfl, rfl, rfl, rfl, trivial⟩ ?_
    refine WD.p rfl (fun e w hR hh => by obtain ⟨h7, -⟩ := hh; exact SG.n (o_mvh h7 ⟨rfl, Only.refl No _⟩)) ?_
    refine WD.p rfl (fun e w hR hh => by obtain ⟨h23, -⟩ := hh; exact SG.n (o_not' h23 ⟨rfl, Only.refl No _⟩)) ?_
    refine WD.p rfl (fun e w hR hh => by obtain ⟨h24, -⟩ := hh; exact SG.n (o_mvh h24 ⟨rfl, Only.refl No _⟩)) ?_
    refine WD.p rfl (fun e w hR hh => by obtain ⟨h25, h2, -⟩ := hh; rw [← hwd] at hR; have hc0 := hR.blk hC2 (fun h => h); exact SG.g h25 (rfl) (o_ldA TI26 rfl h2 (show Cells _ b2 0 (pgV p cv ev_) from Cells.of hc0 0 _ (by simp)) rfl ⟨rfl, Only.refl No _⟩)) ?_
    refine WD.p rfl (fun e w hR hh => by obtain ⟨h25, h6, -⟩ := hh; exact SG.g h25 (rfl) (o_fa 1 TI61 rfl TI9 rfl h6 ⟨rfl, Only.refl No _⟩)) ?_
    refine WD.p rfl (fun e w hR hh => by obtain ⟨h27, h25, -⟩ := hh; rw [← hwd] at hR; have hc0 := hR.blk hC6 (fun h => h); exact SG.g h25 (rfl) (o_ld TI9 rfl h27 (cell_of hc0 rfl) ⟨rfl, Only.refl No _⟩)) ?_
    refine WD.p rfl (fun e w hR hh => by obtain ⟨h28, h25, -⟩ := hh; exact SG.g h25 (rfl) (o_idT (i := 0) TI9 h28 rfl (by simp) ⟨rfl, Only.refl No _⟩)) ?_
    refine WD.p rfl (fun e w hR hh => by obtain ⟨h25, h5, -⟩ := hh; exact SG.g h25 (rfl) (o_fa 1 TI28 rfl TI3 rfl h5 ⟨rfl, Only.refl No _⟩)) ?_
    refine WD.p rfl (fun e w hR hh => by obtain ⟨h30, h25, -⟩ := hh; rw [← hwd] at hR; have hc0 := hR.blk hC5 (fun h => h); exact SG.g h25 (rfl) (o_ld TI3 rfl h30 (cell_of hc0 rfl) ⟨rfl, Only.refl No _⟩)) ?_
    refine WD.p rfl (fun e w hR hh => by obtain ⟨h31, h29, h26, h25, -⟩ := hh; rw [← hwd] at hR; exact SG.g h25 (rfl) (o_call Tryd.call51 (lc h26 (lc h29 (lc h31 ln))) ((may_yes p cv ev_ l0 x.a _ (hp.ext hR) (by omega) (by omega) hl0 ha).mono (fun v w' h => h)))) ?_
    refine WD.p rfl (fun e w hR hh => by obtain ⟨h32, h25, -⟩ := hh; exact SG.g h25 (rfl) (o_not' h32 ⟨rfl, Only.refl No _⟩)) ?_
    refine WD.p rfl (fun e w hR hh => by obtain ⟨h33, h25, -⟩ := hh; exact SG.n (o_pickO h25 h33 ⟨rfl, Only.refl No _⟩)) ?_
    refine WD.p rfl (fun e w hR hh => by obtain ⟨h34, -⟩ := hh; exact SG.n (o_mvh h34 ⟨rfl, Only.refl No _⟩)) ?_
    refine WD.p rfl (fun e w hR hh => by obtain ⟨h35, h2, -⟩ := hh; rw [← hwd] at hR; have hc0 := hR.blk hC2 (fun h => h); exact SG.g h35 (rfl) (o_ldA TI26 rfl h2 (show Cells _ b2 0 (pgV p cv ev_) from Cells.of hc0 0 _ (by simp)) rfl ⟨rfl, Only.refl No _⟩)) ?_
    refine WD.p rfl (fun e w hR hh => by obtain ⟨h35, h6, -⟩ := hh; exact SG.g h35 (rfl) (o_fa 1 TI61 rfl TI9 rfl h6 ⟨rfl, Only.refl No _⟩)) ?_
    refine WD.p rfl (fun e w hR hh => by obtain ⟨h37, h35, -⟩ := hh; rw [← hwd] at hR; have hc0 := hR.blk hC6 (fun h => h); exact SG.g h35 (rfl) (o_ld TI9 rfl h37 (cell_of hc0 rfl) ⟨rfl, Only.refl No _⟩)) ?_
    refine WD.p rfl (fun e w hR hh => by obtain ⟨h38, h35, -⟩ := hh; exact SG.g h35 (rfl) (o_idT (i := 1) TI9 h38 rfl (by simp) ⟨rfl, Only.refl No _⟩)) ?_
    refine WD.p rfl (fun e w hR hh => by obtain ⟨h35, h5, -⟩ := hh; exact SG.g h35 (rfl) (o_fa 2 TI28 rfl TI3 rfl h5 ⟨rfl, Only.refl No _⟩)) ?_
    refine WD.p rfl (fun e w hR hh => by obtain ⟨h40, h35, -⟩ := hh; rw [← hwd] at hR; have hc0 := hR.blk hC5 (fun h => h); exact SG.g h35 (rfl) (o_ld TI3 rfl h40 (cell_of hc0 rfl) ⟨rfl, Only.refl No _⟩)) ?_
    refine WD.p rfl (fun e w hR hh => by obtain ⟨h41, h39, h36, h35, -⟩ := hh; rw [← hwd] at hR; exact SG.g h35 (rfl) (o_call Tryd.call51 (lc h36 (lc h39 (lc h41 ln))) ((may_no p cv ev_ l1 x.b _ (hp.ext hR) (by omega) (by omega) hl1 hb).mono (fun v w' h => h)))) ?_
    refine WD.p rfl (fun e w hR hh => by obtain ⟨h42, h35, -⟩ := hh; exact SG.g h35 (rfl) (o_not' h42 ⟨rfl, Only.refl No _⟩)) ?_
    refine WD.p rfl (fun e w hR hh => by obtain ⟨h43, h35, -⟩ := hh; exact SG.n (o_pickO h35 h43 ⟨rfl, Only.refl No _⟩)) ?_
    refine WD.p rfl (fun e w hR hh => by obtain ⟨h44, -⟩ := hh; exact SG.n (o_mvh h44 ⟨rfl, Only.refl No _⟩)) ?_
    refine WD.p rfl (fun e w hR hh => by obtain ⟨h45, h2, -⟩ := hh; rw [← hwd] at hR; have hc0 := hR.blk hC2 (fun h => h); exact SG.s h45 (rfl) ⟨rfl, Only.refl No _⟩) ?_
    refine WD.p rfl (fun e w hR hh => by obtain ⟨h45, h6, -⟩ := hh; exact SG.s h45 (rfl) ⟨rfl, Only.refl No _⟩) ?_
    refine WD.p rfl (fun e w hR hh => by obtain ⟨h47, h45, -⟩ := hh; rw [← hwd] at hR; have hc0 := hR.blk hC6 (fun h => h); exact SG.s h45 (rfl) ⟨rfl, Only.refl No _⟩) ?_
    refine WD.p rfl (fun e w hR hh => by obtain ⟨h48, h45, -⟩ := hh; exact SG.s h45 (rfl) ⟨rfl, Only.refl No _⟩) ?_
    refine WD.p rfl (fun e w hR hh => by obtain ⟨h45, h5, -⟩ := hh; exact SG.s h45 (rfl) ⟨rfl, Only.refl No _⟩) ?_
    refine WD.p rfl (fun e w hR hh => by obtain ⟨h50, h45, -⟩ := hh; rw [← hwd] at hR; have hc0 := hR.blk hC5 (fun h => h); exact SG.s h45 (rfl) ⟨rfl, Only.refl No _⟩) ?_
    refine WD.p rfl (fun e w hR hh => by obtain ⟨h51, h49, h46, h45, -⟩ := hh; exact SG.s h45 (rfl) ⟨rfl, Only.refl No _⟩) ?_
    refine WD.p rfl (fun e w hR hh => by obtain ⟨h52, h45, -⟩ := hh; exact SG.s h45 (rfl) ⟨rfl, Only.refl No _⟩) ?_
    refine WD.p rfl (fun e w hR hh => by obtain ⟨h53, h45, -⟩ := hh; exact SG.n (o_pickT h45 (rfl) ⟨rfl, Only.refl No _⟩)) ?_
    rintro e w hR ⟨h54, h53, h52, h51, h50, h49, h48, h47, h46, h45, h44, h43, h42, h41, h40, h39, h38, h37, h36, h35, h34, h33, h32, h31, h30, h29, h28, h27, h26, h25, h24, h23, h1, h2, h5, h6, h7, -⟩
    refine W.condT' h54 (rfl) ?_
    refine W.seq ?_
    refine W.region ?_
    refine WL.c rfl (o_ash (show _ = Value.bool _ from rfl) ?_)
    refine WL.nil ?_
    refine W.ret ?_
    refine ret1v rfl (show _ = Value.bool _ from rfl) ?_
    exact ⟨false, rfl, ⟨fun h => (by cases h), fun h => absurd h (fun h => hb ((okI_iff hxi hf).1 h).2.1)⟩, hx.tr (hwd ▸ hR)⟩
  · skip
    have hF2 := hF.trans (fmP_some hf)
    clear hF
    subst hF2
    obtain ⟨wd, hwd⟩ : ∃ wd, wd = World.drew wb6 := ⟨_, rfl⟩
    have hxd : Ext wb6 wd := hwd ▸ Only.drew wb6
    replace hx := hx.tr hxd
    replace hC2 := hxd.blk hC2 (fun h => h)
    replace hC5 := hxd.blk hC5 (fun h => h)
    replace hC6 := hxd.blk hC6 (fun h => h)
    replace hp := hp.ext hx
    refine W.draw (Ext) [(1, fun v _ => v = (Value.int .i64 (i : Int))), (2, fun v _ => v = (Value.pointer (some ⟨b2, 0, none⟩))), (5, fun v _ => v = (Value.pointer (some ⟨b5, 0, none⟩))), (6, fun v _ => v = (Value.pointer (some ⟨b6, 0, none⟩))), (7, fun v _ => v = _)] rfl (by kernel_rfl) (Only.refl No) (fun _ _ _ h k => h.trans k) ⟨Mono.eq, Mono.eq, Mono.eq, Mono.eq, Mono.eq, trivial⟩ ⟨rfl, rfl, rfl, rfl, rfl, trivial⟩ ?_
    refine WD.p rfl (fun e w hR hh => by obtain ⟨h7, -⟩ := hh; exact SG.n (o_mvh h7 ⟨rfl, Only.refl No _⟩)) ?_
    refine WD.p rfl (fun e w hR hh => by obtain ⟨h23, -⟩ := hh; exact SG.n (o_not' h23 ⟨rfl, Only.refl No _⟩)) ?_
    refine WD.p rfl (fun e w hR hh => by obtain ⟨h24, -⟩ := hh; exact SG.n (o_mvh h24 ⟨rfl, Only.refl No _⟩)) ?_
    refine WD.p rfl (fun e w hR hh => by obtain ⟨h25, h2, -⟩ := hh; rw [← hwd] at hR; have hc0 := hR.blk hC2 (fun h => h); exact SG.g h25 (rfl) (o_ldA TI26 rfl h2 (show Cells _ b2 0 (pgV p cv ev_) from Cells.of hc0 0 _ (by simp)) rfl ⟨rfl, Only.refl No _⟩)) ?_
    refine WD.p rfl (fun e w hR hh => by obtain ⟨h25, h6, -⟩ := hh; exact SG.g h25 (rfl) (o_fa 1 TI61 rfl TI9 rfl h6 ⟨rfl, Only.refl No _⟩)) ?_
    refine WD.p rfl (fun e w hR hh => by obtain ⟨h27, h25, -⟩ := hh; rw [← hwd] at hR; have hc0 := hR.blk hC6 (fun h => h); exact SG.g h25 (rfl) (o_ld TI9 rfl h27 (cell_of hc0 rfl) ⟨rfl, Only.refl No _⟩)) ?_
    refine WD.p rfl (fun e w hR hh => by obtain ⟨h28, h25, -⟩ := hh; exact SG.g h25 (rfl) (o_idT (i := 0) TI9 h28 rfl (by simp) ⟨rfl, Only.refl No _⟩)) ?_
    refine WD.p rfl (fun e w hR hh => by obtain ⟨h25, h5, -⟩ := hh; exact SG.g h25 (rfl) (o_fa 1 TI28 rfl TI3 rfl h5 ⟨rfl, Only.refl No _⟩)) ?_
    refine WD.p rfl (fun e w hR hh => by obtain ⟨h30, h25, -⟩ := hh; rw [← hwd] at hR; have hc0 := hR.blk hC5 (fun h => h); exact SG.g h25 (rfl) (o_ld TI3 rfl h30 (cell_of hc0 rfl) ⟨rfl, Only.refl No _⟩)) ?_
    refine WD.p rfl (fun e w hR hh => by obtain ⟨h31, h29, h26, h25, -⟩ := hh; rw [← hwd] at hR; exact SG.g h25 (rfl) (o_call Tryd.call51 (lc h26 (lc h29 (lc h31 ln))) ((may_yes p cv ev_ l0 x.a _ (hp.ext hR) (by omega) (by omega) hl0 ha).mono (fun v w' h => h)))) ?_
    refine WD.p rfl (fun e w hR hh => by obtain ⟨h32, h25, -⟩ := hh; exact SG.g h25 (rfl) (o_not' h32 ⟨rfl, Only.refl No _⟩)) ?_
    refine WD.p rfl (fun e w hR hh => by obtain ⟨h33, h25, -⟩ := hh; exact SG.n (o_pickO h25 h33 ⟨rfl, Only.refl No _⟩)) ?_
    refine WD.p rfl (fun e w hR hh => by obtain ⟨h34, -⟩ := hh; exact SG.n (o_mvh h34 ⟨rfl, Only.refl No _⟩)) ?_
    refine WD.p rfl (fun e w hR hh => by obtain ⟨h35, h2, -⟩ := hh; rw [← hwd] at hR; have hc0 := hR.blk hC2 (fun h => h); exact SG.g h35 (rfl) (o_ldA TI26 rfl h2 (show Cells _ b2 0 (pgV p cv ev_) from Cells.of hc0 0 _ (by simp)) rfl ⟨rfl, Only.refl No _⟩)) ?_
    refine WD.p rfl (fun e w hR hh => by obtain ⟨h35, h6, -⟩ := hh; exact SG.g h35 (rfl) (o_fa 1 TI61 rfl TI9 rfl h6 ⟨rfl, Only.refl No _⟩)) ?_
    refine WD.p rfl (fun e w hR hh => by obtain ⟨h37, h35, -⟩ := hh; rw [← hwd] at hR; have hc0 := hR.blk hC6 (fun h => h); exact SG.g h35 (rfl) (o_ld TI9 rfl h37 (cell_of hc0 rfl) ⟨rfl, Only.refl No _⟩)) ?_
    refine WD.p rfl (fun e w hR hh => by obtain ⟨h38, h35, -⟩ := hh; exact SG.g h35 (rfl) (o_idT (i := 1) TI9 h38 rfl (by simp) ⟨rfl, Only.refl No _⟩)) ?_
    refine WD.p rfl (fun e w hR hh => by obtain ⟨h35, h5, -⟩ := hh; exact SG.g h35 (rfl) (o_fa 2 TI28 rfl TI3 rfl h5 ⟨rfl, Only.refl No _⟩)) ?_
    refine WD.p rfl (fun e w hR hh => by obtain ⟨h40, h35, -⟩ := hh; rw [← hwd] at hR; have hc0 := hR.blk hC5 (fun h => h); exact SG.g h35 (rfl) (o_ld TI3 rfl h40 (cell_of hc0 rfl) ⟨rfl, Only.refl No _⟩)) ?_
    refine WD.p rfl (fun e w hR hh => by obtain ⟨h41, h39, h36, h35, -⟩ := hh; rw [← hwd] at hR; exact SG.g h35 (rfl) (o_call Tryd.call51 (lc h36 (lc h39 (lc h41 ln))) ((may_yes p cv ev_ l1 x.b _ (hp.ext hR) (by omega) (by omega) hl1 hb).mono (fun v w' h => h)))) ?_
    refine WD.p rfl (fun e w hR hh => by obtain ⟨h42, h35, -⟩ := hh; exact SG.g h35 (rfl) (o_not' h42 ⟨rfl, Only.refl No _⟩)) ?_
    refine WD.p rfl (fun e w hR hh => by obtain ⟨h43, h35, -⟩ := hh; exact SG.n (o_pickO h35 h43 ⟨rfl, Only.refl No _⟩)) ?_
    refine WD.p rfl (fun e w hR hh => by obtain ⟨h44, -⟩ := hh; exact SG.n (o_mvh h44 ⟨rfl, Only.refl No _⟩)) ?_
    refine WD.p rfl (fun e w hR hh => by obtain ⟨h45, h2, -⟩ := hh; rw [← hwd] at hR; have hc0 := hR.blk hC2 (fun h => h); exact SG.g h45 (rfl) (o_ldA TI26 rfl h2 (show Cells _ b2 0 (pgV p cv ev_) from Cells.of hc0 0 _ (by simp)) rfl ⟨rfl, Only.refl No _⟩)) ?_
    refine WD.p rfl (fun e w hR hh => by obtain ⟨h45, h6, -⟩ := hh; exact SG.g h45 (rfl) (o_fa 1 TI61 rfl TI9 rfl h6 ⟨rfl, Only.refl No _⟩)) ?_
    refine WD.p rfl (fun e w hR hh => by obtain ⟨h47, h45, -⟩ := hh; rw [← hwd] at hR; have hc0 := hR.blk hC6 (fun h => h); exact SG.g h45 (rfl) (o_ld TI9 rfl h47 (cell_of hc0 rfl) ⟨rfl, Only.refl No _⟩)) ?_
    refine WD.p rfl (fun e w hR hh => by obtain ⟨h48, h45, -⟩ := hh; exact SG.g h45 (rfl) (o_idT (i := 2) TI9 h48 rfl (by simp) ⟨rfl, Only.refl No _⟩)) ?_
    refine WD.p rfl (fun e w hR hh => by obtain ⟨h45, h5, -⟩ := hh; exact SG.g h45 (rfl) (o_fa 3 TI28 rfl TI3 rfl h5 ⟨rfl, Only.refl No _⟩)) ?_
    refine WD.p rfl (fun e w hR hh => by obtain ⟨h50, h45, -⟩ := hh; rw [← hwd] at hR; have hc0 := hR.blk hC5 (fun h => h); exact SG.g h45 (rfl) (o_ld TI3 rfl h50 (cell_of hc0 rfl) ⟨rfl, Only.refl No _⟩)) ?_
    refine WD.p rfl (fun e w hR hh => by obtain ⟨h51, h49, h46, h45, -⟩ := hh; rw [← hwd] at hR; exact SG.g h45 (rfl) (o_call Tryd.call51 (lc h46 (lc h49 (lc h51 ln))) ((may_no p cv ev_ l2 x.c _ (hp.ext hR) (by omega) (by omega) hl2 hc).mono (fun v w' h => h)))) ?_
    refine WD.p rfl (fun e w hR hh => by obtain ⟨h52, h45, -⟩ := hh; exact SG.g h45 (rfl) (o_not' h52 ⟨rfl, Only.refl No _⟩)) ?_
    refine WD.p rfl (fun e w hR hh => by obtain ⟨h53, h45, -⟩ := hh; exact SG.n (o_pickO h45 h53 ⟨rfl, Only.refl No _⟩)) ?_
    rintro e w hR ⟨h54, h53, h52, h51, h50, h49, h48, h47, h46, h45, h44, h43, h42, h41, h40, h39, h38, h37, h36, h35, h34, h33, h32, h31, h30, h29, h28, h27, h26, h25, h24, h23, h1, h2, h5, h6, h7, -⟩
    refine W.condT' h54 (rfl) ?_
    refine W.seq ?_
    refine W.region ?_
    refine WL.c rfl (o_ash (show _ = Value.bool _ from rfl) ?_)
    refine WL.nil ?_
    refine W.ret ?_
    refine ret1v rfl (show _ = Value.bool _ from rfl) ?_
    exact ⟨false, rfl, ⟨fun h => (by cases h), fun h => absurd h (fun h => hc ((okI_iff hxi hf).1 h).2.2.1)⟩, hx.tr (hwd ▸ hR)⟩
  · skip
    have hF2 := hF.trans (fmP_some hf)
    clear hF
    subst hF2
    obtain ⟨wd, hwd⟩ : ∃ wd, wd = World.drew wb6 := ⟨_, rfl⟩
    have hxd : Ext wb6 wd := hwd ▸ Only.drew wb6
    replace hx := hx.tr hxd
    replace hC2 := hxd.blk hC2 (fun h => h)
    replace hC5 := hxd.blk hC5 (fun h => h)
    replace hC6 := hxd.blk hC6 (fun h => h)
    replace hp := hp.ext hx
    refine W.draw (Ext) [(1, fun v _ => v = (Value.int .i64 (i : Int))), (2, fun v _ => v = (Value.pointer (some ⟨b2, 0, none⟩))), (5, fun v _ => v = (Value.pointer (some ⟨b5, 0, none⟩))), (6, fun v _ => v = (Value.pointer (some ⟨b6, 0, none⟩))), (7, fun v _ => v = _)] rfl (by kernel_rfl) (Only.refl No) (fun _ _ _ h k => h.trans k) ⟨Mono.eq, Mono.eq, Mono.eq, Mono.eq, Mono.eq, trivial⟩ ⟨rfl, rfl, rfl, rfl, rfl, trivial⟩ ?_
    refine WD.p rfl (fun e w hR hh => by obtain ⟨h7, -⟩ := hh; exact SG.n (o_mvh h7 ⟨rfl, Only.refl No _⟩)) ?_
    refine WD.p rfl (fun e w hR hh => by obtain ⟨h23, -⟩ := hh; exact SG.n (o_not' h23 ⟨rfl, Only.refl No _⟩)) ?_
    refine WD.p rfl (fun e w hR hh => by obtain ⟨h24, -⟩ := hh; exact SG.n (o_mvh h24 ⟨rfl, Only.refl No _⟩)) ?_
    refine WD.p rfl (fun e w hR hh => by obtain ⟨h25, h2, -⟩ := hh; rw [← hwd] at hR; have hc0 := hR.blk hC2 (fun h => h); exact SG.g h25 (rfl) (o_ldA TI26 rfl h2 (show Cells _ b2 0 (pgV p cv ev_) from Cells.of hc0 0 _ (by simp)) rfl ⟨rfl, Only.refl No _⟩)) ?_
    refine WD.p rfl (fun e w hR hh => by obtain ⟨h25, h6, -⟩ := hh; exact SG.g h25 (rfl) (o_fa 1 TI61 rfl TI9 rfl h6 ⟨rfl, Only.refl No _⟩)) ?_
    refine WD.p rfl (fun e w hR hh => by obtain ⟨h27, h25, -⟩ := hh; rw [← hwd] at hR; have hc0 := hR.blk hC6 (fun h => h); exact SG.g h25 (rfl) (o_ld TI9 rfl h27 (cell_of hc0 rfl) ⟨rfl, Only.refl No _⟩)) ?_
    refine WD.p rfl (fun e w hR hh => by obtain ⟨h28, h25, -⟩ := hh; exact SG.g h25 (rfl) (o_idT (i := 0) TI9 h28 rfl (by simp) ⟨rfl, Only.refl No _⟩)) ?_
    refine WD.p rfl (fun e w hR hh => by obtain ⟨h25, h5, -⟩ := hh; exact SG.g h25 (rfl) (o_fa 1 TI28 rfl TI3 rfl h5 ⟨rfl, Only.refl No _⟩)) ?_
    refine WD.p rfl (fun e w hR hh => by obtain ⟨h30, h25, -⟩ := hh; rw [← hwd] at hR; have hc0 := hR.blk hC5 (fun h => h); exact SG.g h25 (rfl) (o_ld TI3 rfl h30 (cell_of hc0 rfl) ⟨rfl, Only.refl No _⟩)) ?_
    refine WD.p rfl (fun e w hR hh => by obtain ⟨h31, h29, h26, h25, -⟩ := hh; rw [← hwd] at hR; exact SG.g h25 (rfl) (o_call Tryd.call51 (lc h26 (lc h29 (lc h31 ln))) ((may_yes p cv ev_ l0 x.a _ (hp.ext hR) (by omega) (by omega) hl0 ha).mono (fun v w' h => h)))) ?_
    refine WD.p rfl (fun e w hR hh => by obtain ⟨h32, h25, -⟩ := hh; exact SG.g h25 (rfl) (o_not' h32 ⟨rfl, Only.refl No _⟩)) ?_
    refine WD.p rfl (fun e w hR hh => by obtain ⟨h33, h25, -⟩ := hh; exact SG.n (o_pickO h25 h33 ⟨rfl, Only.refl No _⟩)) ?_
    refine WD.p rfl (fun e w hR hh => by obtain ⟨h34, -⟩ := hh; exact SG.n (o_mvh h34 ⟨rfl, Only.refl No _⟩)) ?_
    refine WD.p rfl (fun e w hR hh => by obtain ⟨h35, h2, -⟩ := hh; rw [← hwd] at hR; have hc0 := hR.blk hC2 (fun h => h); exact SG.g h35 (rfl) (o_ldA TI26 rfl h2 (show Cells _ b2 0 (pgV p cv ev_) from Cells.of hc0 0 _ (by simp)) rfl ⟨rfl, Only.refl No _⟩)) ?_
    refine WD.p rfl (fun e w hR hh => by obtain ⟨h35, h6, -⟩ := hh; exact SG.g h35 (rfl) (o_fa 1 TI61 rfl TI9 rfl h6 ⟨rfl, Only.refl No _⟩)) ?_
    refine WD.p rfl (fun e w hR hh => by obtain ⟨h37, h35, -⟩ := hh; rw [← hwd] at hR; have hc0 := hR.blk hC6 (fun h => h); exact SG.g h35 (rfl) (o_ld TI9 rfl h37 (cell_of hc0 rfl) ⟨rfl, Only.refl No _⟩)) ?_
    refine WD.p rfl (fun e w hR hh => by obtain ⟨h38, h35, -⟩ := hh; exact SG.g h35 (rfl) (o_idT (i := 1) TI9 h38 rfl (by simp) ⟨rfl, Only.refl No _⟩)) ?_
    refine WD.p rfl (fun e w hR hh => by obtain ⟨h35, h5, -⟩ := hh; exact SG.g h35 (rfl) (o_fa 2 TI28 rfl TI3 rfl h5 ⟨rfl, Only.refl No _⟩)) ?_
    refine WD.p rfl (fun e w hR hh => by obtain ⟨h40, h35, -⟩ := hh; rw [← hwd] at hR; have hc0 := hR.blk hC5 (fun h => h); exact SG.g h35 (rfl) (o_ld TI3 rfl h40 (cell_of hc0 rfl) ⟨rfl, Only.refl No _⟩)) ?_
    refine WD.p rfl (fun e w hR hh => by obtain ⟨h41, h39, h36, h35, -⟩ := hh; rw [← hwd] at hR; exact SG.g h35 (rfl) (o_call Tryd.call51 (lc h36 (lc h39 (lc h41 ln))) ((may_yes p cv ev_ l1 x.b _ (hp.ext hR) (by omega) (by omega) hl1 hb).mono (fun v w' h => h)))) ?_
    refine WD.p rfl (fun e w hR hh => by obtain ⟨h42, h35, -⟩ := hh; exact SG.g h35 (rfl) (o_not' h42 ⟨rfl, Only.refl No _⟩)) ?_
    refine WD.p rfl (fun e w hR hh => by obtain ⟨h43, h35, -⟩ := hh; exact SG.n (o_pickO h35 h43 ⟨rfl, Only.refl No _⟩)) ?_
    refine WD.p rfl (fun e w hR hh => by obtain ⟨h44, -⟩ := hh; exact SG.n (o_mvh h44 ⟨rfl, Only.refl No _⟩)) ?_
    refine WD.p rfl (fun e w hR hh => by obtain ⟨h45, h2, -⟩ := hh; rw [← hwd] at hR; have hc0 := hR.blk hC2 (fun h => h); exact SG.g h45 (rfl) (o_ldA TI26 rfl h2 (show Cells _ b2 0 (pgV p cv ev_) from Cells.of hc0 0 _ (by simp)) rfl ⟨rfl, Only.refl No _⟩)) ?_
    refine WD.p rfl (fun e w hR hh => by obtain ⟨h45, h6, -⟩ := hh; exact SG.g h45 (rfl) (o_fa 1 TI61 rfl TI9 rfl h6 ⟨rfl, Only.refl No _⟩)) ?_
    refine WD.p rfl (fun e w hR hh => by obtain ⟨h47, h45, -⟩ := hh; rw [← hwd] at hR; have hc0 := hR.blk hC6 (fun h => h); exact SG.g h45 (rfl) (o_ld TI9 rfl h47 (cell_of hc0 rfl) ⟨rfl, Only.refl No _⟩)) ?_
    refine WD.p rfl (fun e w hR hh => by obtain ⟨h48, h45, -⟩ := hh; exact SG.g h45 (rfl) (o_idT (i := 2) TI9 h48 rfl (by simp) ⟨rfl, Only.refl No _⟩)) ?_
    refine WD.p rfl (fun e w hR hh => by obtain ⟨h45, h5, -⟩ := hh; exact SG.g h45 (rfl) (o_fa 3 TI28 rfl TI3 rfl h5 ⟨rfl, Only.refl No _⟩)) ?_
    refine WD.p rfl (fun e w hR hh => by obtain ⟨h50, h45, -⟩ := hh; rw [← hwd] at hR; have hc0 := hR.blk hC5 (fun h => h); exact SG.g h45 (rfl) (o_ld TI3 rfl h50 (cell_of hc0 rfl) ⟨rfl, Only.refl No _⟩)) ?_
    refine WD.p rfl (fun e w hR hh => by obtain ⟨h51, h49, h46, h45, -⟩ := hh; rw [← hwd] at hR; exact SG.g h45 (rfl) (o_call Tryd.call51 (lc h46 (lc h49 (lc h51 ln))) ((may_yes p cv ev_ l2 x.c _ (hp.ext hR) (by omega) (by omega) hl2 hc).mono (fun v w' h => h)))) ?_
    refine WD.p rfl (fun e w hR hh => by obtain ⟨h52, h45, -⟩ := hh; exact SG.g h45 (rfl) (o_not' h52 ⟨rfl, Only.refl No _⟩)) ?_
    refine WD.p rfl (fun e w hR hh => by obtain ⟨h53, h45, -⟩ := hh; exact SG.n (o_pickO h45 h53 ⟨rfl, Only.refl No _⟩)) ?_
    rintro e w hR ⟨h54, h53, h52, h51, h50, h49, h48, h47, h46, h45, h44, h43, h42, h41, h40, h39, h38, h37, h36, h35, h34, h33, h32, h31, h30, h29, h28, h27, h26, h25, h24, h23, h1, h2, h5, h6, h7, -⟩
    refine W.condF' h54 (rfl) ?_
    refine W.skip ?_
    refine W.seq ?_
    refine W.seq ?_
    rw [← hwd] at hR
    have hpx : Ext wd w := hR
    replace hx := hx.tr hR
    replace hC2 := hR.blk hC2 (fun h => h)
    replace hC5 := hR.blk hC5 (fun h => h)
    replace hC6 := hR.blk hC6 (fun h => h)
    have hOk : OkI p i ↔ moreP p.code i x nm := (okI_iff hxi hf).trans ⟨fun h => h.2.2.2, fun h => ⟨ha, hb, hc, h⟩⟩
    have ba := fitP_bd hlc hle hl0 ha
    have bb := fitP_bd hlc hle hl1 hb
    have bc := fitP_bd hlc hle hl2 hc
    have bm := mul_bd bb.1 bb.2 bc.1 bc.2
    refine W.region ?_
    refine WL.c rfl (o_fa 0 TI61 rfl TI9 rfl h6 ?_)
    refine WL.c rfl (o_ld TI9 rfl rfl (cell_of hC6 rfl) ?_)
    refine WL.nil ?_
    refine W.block ?_
    refine W.seq ?_
    refine W.region ?_
    refine WL.c rfl (o_eqT rfl rfl ?_)
    refine WL.c rfl (o_ash (show _ = Value.bool _ from rfl) ?_)
    refine WL.nil ?_
    refine W.cond rfl (fun c57 => ?_) (fun c57 => ?_)
    · try simp only [decide_eq_true_eq, decide_eq_false_iff_not, Bool.not_eq_true', Bool.not_eq_false', Bool.and_eq_true, Bool.or_eq_true, Bool.and_eq_false_iff, Bool.or_eq_false_iff] at c57
      refine W.seq ?_
      refine W.region ?_
      refine WL.c rfl (o_fa 1 TI28 rfl TI3 rfl h5 ?_)
      refine WL.c rfl (o_ld TI3 rfl rfl (cell_of hC5 rfl) ?_)
      refine WL.c rfl (o_fa 2 TI28 rfl TI3 rfl h5 ?_)
      refine WL.c rfl (o_ld TI3 rfl rfl (cell_of hC5 rfl) ?_)
      refine WL.c rfl (o_addi rfl rfl (by omega) ?_)
      refine WL.c rfl (o_le rfl rfl ?_)
      refine WL.c rfl (o_ash (show _ = Value.bool _ from rfl) ?_)
      refine WL.nil ?_
      refine W.ret ?_
      refine ret1v rfl (show _ = Value.bool _ from rfl) ?_
      refine ⟨_, rfl, ?_, hx⟩
      rw [hOk, moreP]
      first
        | rw [if_pos c57]
        | rw [if_neg c57, if_pos c65]
        | rw [if_neg c57, if_neg c65, if_pos c76]
      first | (simp; done) | (simp; omega) | grind
    · try simp only [decide_eq_true_eq, decide_eq_false_iff_not, Bool.not_eq_true', Bool.not_eq_false', Bool.and_eq_true, Bool.or_eq_true, Bool.and_eq_false_iff, Bool.or_eq_false_iff] at c57
      refine W.seq ?_
      refine W.region ?_
      refine WL.c rfl (o_eqT rfl rfl ?_)
      refine WL.c rfl (o_ash (show _ = Value.bool _ from rfl) ?_)
      refine WL.nil ?_
      refine W.cond rfl (fun c65 => ?_) (fun c65 => ?_)
      · try simp only [decide_eq_true_eq, decide_eq_false_iff_not, Bool.not_eq_true', Bool.not_eq_false', Bool.and_eq_true, Bool.or_eq_true, Bool.and_eq_false_iff, Bool.or_eq_false_iff] at c65
        refine W.seq ?_
        refine W.region ?_
        refine WL.c rfl (o_fa 1 TI28 rfl TI3 rfl h5 ?_)
        refine WL.c rfl (o_ld TI3 rfl rfl (cell_of hC5 rfl) ?_)
        refine WL.c rfl (o_fa 2 TI28 rfl TI3 rfl h5 ?_)
        refine WL.c rfl (o_ld TI3 rfl rfl (cell_of hC5 rfl) ?_)
        refine WL.c rfl (o_fa 3 TI28 rfl TI3 rfl h5 ?_)
        refine WL.c rfl (o_ld TI3 rfl rfl (cell_of hC5 rfl) ?_)
        refine WL.c rfl (o_muli rfl rfl (by omega) ?_)
        refine WL.c rfl (o_addi rfl rfl (by omega) ?_)
        refine WL.c rfl (o_le rfl rfl ?_)
        refine WL.c rfl (o_ash (show _ = Value.bool _ from rfl) ?_)
        refine WL.nil ?_
        refine W.ret ?_
        refine ret1v rfl (show _ = Value.bool _ from rfl) ?_
        refine ⟨_, rfl, ?_, hx⟩
        rw [hOk, moreP]
        first
          | rw [if_pos c57]
          | rw [if_neg c57, if_pos c65]
          | rw [if_neg c57, if_neg c65, if_pos c76]
        first | (simp; done) | (simp; omega) | grind
      · try simp only [decide_eq_true_eq, decide_eq_false_iff_not, Bool.not_eq_true', Bool.not_eq_false', Bool.and_eq_true, Bool.or_eq_true, Bool.and_eq_false_iff, Bool.or_eq_false_iff] at c65
        refine W.seq ?_
        refine W.region ?_
        refine WL.c rfl (o_eqT rfl rfl ?_)
        refine WL.c rfl (o_ash (show _ = Value.bool _ from rfl) ?_)
        refine WL.nil ?_
        refine W.cond rfl (fun c76 => ?_) (fun c76 => ?_)
        · try simp only [decide_eq_true_eq, decide_eq_false_iff_not, Bool.not_eq_true', Bool.not_eq_false', Bool.and_eq_true, Bool.or_eq_true, Bool.and_eq_false_iff, Bool.or_eq_false_iff] at c76
          refine W.seq ?_
          refine W.region ?_
          refine WL.c rfl (o_fa 1 TI28 rfl TI3 rfl h5 ?_)
          refine WL.c rfl (o_ld TI3 rfl rfl (cell_of hC5 rfl) ?_)
          refine WL.c rfl (o_eq rfl rfl ?_)
          refine WL.c rfl (o_fa 2 TI28 rfl TI3 rfl h5 ?_)
          refine WL.c rfl (o_ld TI3 rfl rfl (cell_of hC5 rfl) ?_)
          refine WL.c rfl (o_eq rfl rfl ?_)
          refine WL.c rfl (o_eqB TI4 rfl rfl ?_)
          refine WL.c rfl (o_ash (show _ = Value.bool _ from rfl) ?_)
          refine WL.nil ?_
          refine W.ret ?_
          refine ret1v rfl (show _ = Value.bool _ from rfl) ?_
          refine ⟨_, rfl, ?_, hx⟩
          rw [hOk, moreP]
          first
            | rw [if_pos c57]
            | rw [if_neg c57, if_pos c65]
            | rw [if_neg c57, if_neg c65, if_pos c76]
          first | (simp; done) | (simp; omega) | grind
        · try simp only [decide_eq_true_eq, decide_eq_false_iff_not, Bool.not_eq_true', Bool.not_eq_false', Bool.and_eq_true, Bool.or_eq_true, Bool.and_eq_false_iff, Bool.or_eq_false_iff] at c76
          refine W.seq ?_
          refine W.seq ?_
          obtain ⟨wz, rfl⟩ : ∃ wz, wz = w := ⟨_, rfl⟩
          refine W.region ?_
          refine WL.c rfl (o_eqT rfl rfl ?_)
          refine WL.c rfl (o_ash (show _ = Value.bool _ from rfl) ?_)
          refine WL.nil ?_
          refine W.cut (fun e1 w1 => e1 85 = .bool (decide (nm = [117, 110, 105, 111, 110] ∨ nm = [99, 104, 111, 105, 99, 101])) ∧ e1 1 = .int .i64 (i : Int) ∧ e1 2 = .pointer (some ⟨b2, 0, none⟩) ∧ e1 5 = .pointer (some ⟨b5, 0, none⟩) ∧ w1 = wz) ?_ ?_
          · -- both ways
            refine W.cond rfl (fun c85 => ?_) (fun c85 => ?_)
            · try simp only [decide_eq_true_eq, decide_eq_false_iff_not, Bool.not_eq_true', Bool.not_eq_false', Bool.and_eq_true, Bool.or_eq_true, Bool.and_eq_false_iff, Bool.or_eq_false_iff] at c85
              refine W.skip ?_
              first | exact ⟨congrArg Value.bool (by simp [c85]), h1, h2, h5, rfl⟩ | exact ⟨congrArg Value.bool (by simp [c85]), h1, h2, h5, rfl⟩
            · try simp only [decide_eq_true_eq, decide_eq_false_iff_not, Bool.not_eq_true', Bool.not_eq_false', Bool.and_eq_true, Bool.or_eq_true, Bool.and_eq_false_iff, Bool.or_eq_false_iff] at c85
              refine W.region ?_
              refine WL.c rfl (o_eqT rfl rfl ?_)
              refine WL.c rfl (o_ash (show _ = Value.bool _ from rfl) ?_)
              refine WL.nil ?_
              first | exact ⟨congrArg Value.bool (by simp [c85]), h1, h2, h5, rfl⟩ | exact ⟨congrArg Value.bool (by simp [c85]), h1, h2, h5, rfl⟩
          rintro e w ⟨h85, h1, h2, h5, hw1⟩
          refine W.cond h85 (fun c85 => ?_) (fun c85 => ?_)
          · try simp only [decide_eq_true_eq, decide_eq_false_iff_not, Bool.not_eq_true', Bool.not_eq_false', Bool.and_eq_true, Bool.or_eq_true, Bool.and_eq_false_iff, Bool.or_eq_false_iff] at c85
            refine W.seq ?_
            refine W.seq ?_
            subst hw1
            have hfu := fm_union _ (fmOf_mem hf) c85
            simp only [List.cons.injEq, and_true] at hfu
            obtain ⟨rfl, rfl, rfl⟩ := hfu
            have ha2 : 1 ≤ x.a ∧ x.a ≤ 64 := by simpa [fitP] using ha
            have hAr : OkI p i ↔ ArmsP p.code i x.a := hOk.trans (more_un c85)
            obtain ⟨n, hn⟩ : ∃ n : Nat, x.a = (n : Int) := ⟨x.a.toNat, by omega⟩
            refine W.region ?_
            refine WL.c rfl (o_fa 1 TI28 rfl TI3 rfl h5 ?_)
            refine WL.c rfl (o_ld TI3 rfl rfl (cell_of hC5 rfl) ?_)
            refine WL.c rfl (o_fa 1 TI26 rfl TI23 rfl h2 ?_)
            refine WL.c rfl (o_ld TI23 rfl rfl (cell_of hC2 rfl) ?_)
            refine WL.c rfl (o_lenR TI23 rfl (hp.code.ext hpx) ?_)
            refine WL.c rfl (o_mvh h1 ?_)
            refine WL.c rfl (o_subi rfl rfl (by omega) ?_)
            refine WL.c rfl (o_ge rfl rfl ?_)
            refine WL.nil ?_
            refine W.cond rfl (fun c95 => ?_) (fun c95 => ?_)
            · try simp only [decide_eq_true_eq, decide_eq_false_iff_not, Bool.not_eq_true', Bool.not_eq_false', Bool.and_eq_true, Bool.or_eq_true, Bool.and_eq_false_iff, Bool.or_eq_false_iff] at c95
              refine W.seq ?_
              refine W.region ?_
              refine WL.c rfl (o_ash (show _ = Value.bool _ from rfl) ?_)
              refine WL.nil ?_
              refine W.ret ?_
              refine ret1v rfl (show _ = Value.bool _ from rfl) ?_
              exact ⟨false, rfl, ⟨fun h => (by cases h), fun h => absurd (hAr.1 h).room (by omega)⟩, hx⟩
            · try simp only [decide_eq_true_eq, decide_eq_false_iff_not, Bool.not_eq_true', Bool.not_eq_false', Bool.and_eq_true, Bool.or_eq_true, Bool.and_eq_false_iff, Bool.or_eq_false_iff] at c95
              refine W.skip ?_
              refine W.seq ?_
              refine W.region ?_
              refine WL.c rfl (o_fa 1 TI26 rfl TI23 rfl h2 ?_)
              refine WL.c rfl (o_ld TI23 rfl rfl (cell_of hC2 rfl) ?_)
              refine WL.c rfl (o_mvh h1 ?_)
              refine WL.c rfl (o_addi rfl rfl (by omega) ?_)
              refine WL.c rfl (o_mvh h1 ?_)
              refine WL.c rfl (o_addi rfl rfl (by omega) ?_)
              refine WL.c rfl (o_fa 1 TI28 rfl TI3 rfl h5 ?_)
              refine WL.c rfl (o_ld TI3 rfl rfl (cell_of hC5 rfl) ?_)
              refine WL.c rfl (o_addi rfl rfl (by omega) ?_)
              refine WL.c rfl (o_sl TI23 TI28 (show _ = cv from rfl) (hp.code.ext hpx) (Lo.s (l := i + 1) (show _ = Value.int .i64 ((i + 1 : Nat) : Int) from rfl)) (Hi.s (h := i + 1 + n) (show Value.int .i64 ((i : Int) + 1 + x.a) = Value.int .i64 ((i + 1 + n : Nat) : Int) from by rw [hn]; rfl)) (by omega) (by omega) ?_)
              intro v105 hb105 hS
              obtain ⟨A, hA⟩ : ∃ A, A = (p.code.drop (i + 1)).take n := ⟨_, rfl⟩
              have hAl : A.length = n := by rw [hA, List.length_take, List.length_drop]; omega
              rw [show i + 1 + n - (i + 1) = n by omega, inss_sub, ← hA] at hS
              have hS0 : Sl w 4 v105 A.length (inss A) := by rw [hAl]; exact hS
              clear hS
              have hS := hS0
              clear hS0
              refine WL.c rfl (o_ash (by first | exact (show _ = Value.slice _ _ _ from rfl) | exact rfl) ?_)
              refine WL.nil ?_
              refine W.seq ?_
              refine W.region ?_
              refine WL.c rfl (o_mvh (by first | exact (show _ = Value.slice _ _ _ from rfl) | exact rfl) ?_)
              refine WL.c rfl (o_lenR TI23 rfl hS ?_)
              refine WL.c rfl (o_mvh (show _ = Value.int _ _ from rfl) ?_)
              refine WL.nil ?_
              refine W.block ?_
              refine W.loop (fun e w => ∃ k : Nat, k ≤ n ∧ e 8 = v105 ∧ e 106 = v105 ∧ e 107 = .int .i64 (A.length : Int) ∧ e 108 = .int .i64 (k : Int) ∧ (∀ j, j < k → AR p.code i j) ∧ Sl w 4 v105 A.length (inss A) ∧ Ext w0 w) (fun e w => n - (intOf (e 108)).toNat) ?_ ?_
              · exact ⟨0, Nat.zero_le _, rfl, rfl, rfl, rfl, fun j h => absurd h (Nat.not_lt_zero j), hS, hx⟩
              rintro e w ⟨k, hk, h8, h106, h107, h108, hall, hS, hx⟩
              have hm108 := h108
              refine W.seq ?_
              refine W.region ?_
              refine WL.c rfl (o_lt h108 h107 ?_)
              refine WL.nil ?_
              refine W.seq ?_
              refine W.cond rfl (fun c109 => ?_) (fun c109 => ?_)
              · try simp only [decide_eq_true_eq, decide_eq_false_iff_not, Bool.not_eq_true', Bool.not_eq_false', Bool.and_eq_true, Bool.or_eq_true, Bool.and_eq_false_iff, Bool.or_eq_false_iff] at c109
                have hk1 : k < n := by omega
                have hk2 : k < A.length := by omega
                have hAk := getD_at hk2
                obtain ⟨sb, so, sc, hve, hsc⟩ := Sl.ins hS hk2
                refine W.skip ?_
                refine W.seq ?_
                refine W.block ?_
                refine W.seq ?_
                refine W.region ?_
                refine WL.c rfl (o_mvh h108 ?_)
                refine WL.c rfl (o_ixB (i := k) TI23 TI28 (h106.trans hve) h108 hk2 ?_)
                refine WL.c rfl (o_ldA TI28 rfl rfl hsc rfl ?_)
                refine WL.c rfl (o_alB TI28 ?_)
                intro wa hCa hxa hsa
                refine WL.c rfl (o_ash (show _ = Value.int _ _ from rfl) ?_)
                refine WL.u (o_stA TI28 rfl (show _ = Value.agg (insV A[k]).toArray from rfl) rfl rfl hCa rfl ?_)
                intro wb10 hC10 hob hsb
                have hxb := Ext.own hxa (Nat.le_refl _) hob
                obtain ⟨b10, hb10⟩ : ∃ b, b = w.heap.size := ⟨_, rfl⟩
                rw [← hb10] at hC10 ⊢
                clear hCa hxa hsa hob hsb
                replace hx := hx.tr hxb
                replace hS := hS.ext hxb
                clear hxb
                refine WL.nil ?_
                refine W.seq ?_
                refine W.region ?_
                refine WL.cut (fun e1 w1 => (∃ b : Bool, e1 122 = .bool b ∧ (b = true ↔ ¬ AR p.code i k)) ∧ e1 8 = v105 ∧ e1 106 = v105 ∧ e1 107 = .int .i64 (A.length : Int) ∧ e1 108 = .int .i64 (k : Int) ∧ Sl w1 4 v105 A.length (inss A) ∧ Ext w0 w1) ?_ ?_
                · -- region 20
                  refine WL.c rfl (o_fa 0 TI28 rfl TI3 rfl rfl ?_)
                  refine WL.c rfl (o_ld TI3 rfl rfl (cell_of hC10 rfl) ?_)
                  refine WL.c rfl (o_ne rfl rfl ?_)
                  refine WL.c rfl (o_mvh (show _ = Value.bool _ from rfl) ?_)
                  refine WL.sp 3 rfl (fun g116 => ?_) (fun g116 => ?_)
                  · skip
                    refine WL.s rfl (g116) rfl ?_
                    refine WL.s rfl (g116) rfl ?_
                    refine WL.s rfl (g116) rfl ?_
                    refine WL.s rfl (g116) rfl ?_
                    refine WL.s rfl (g116) rfl ?_
                    refine WL.c rfl (o_pickT rfl (g116) ?_)
                    exact WL.nil (by first | exact ⟨⟨_, rfl, ⟨fun _ => ar_op hA hk1 (by omega) (by rw [hAk]; simpa using g116), fun _ => by first | rfl | simp [g116]⟩⟩, h8, h106, h107, h108, hS, hx⟩ | exact ⟨⟨_, rfl, by rw [g116, Bool.false_or]; exact ar_tag hA hk1 (by omega) (by rw [hAk]; simpa using g116) hb121⟩, h8, h106, h107, h108, hS, hx⟩)
                  · skip
                    refine WL.g rfl (g116) rfl (o_mvh h8 ?_)
                    refine WL.g rfl (g116) rfl (o_mvh (show _ = Value.int _ _ from rfl) ?_)
                    refine WL.g rfl (g116) rfl (o_sl TI23 TI28 rfl hS Lo.n (Hi.s rfl) (by omega) (by omega) ?_)
                    intro v119 hb119 hS119
                    replace hS119 : Sl wb10 4 v119 (A.take k).length (inss (A.take k)) := by rw [List.length_take, Nat.min_eq_left (by omega), ← inss_take]; simpa using hS119
                    refine WL.g rfl (g116) rfl (o_mkF (lc rfl ln) ?_)
                    refine WL.g rfl (g116) rfl (o_call Tryd.call52 (lc rfl (lc rfl ln)) ((contains_spec (A.take k) v119 A[k] b10 _ hS119 (by rw [List.length_take]; omega) hC10).mono ?_))
                    rintro v121 w121 ⟨b121, rfl, hb121, hx121⟩
                    replace hx := hx.tr hx121
                    replace hS := hS.ext hx121
                    rw [← hAk] at hb121
                    refine WL.c rfl (o_pickO rfl rfl ?_)
                    exact WL.nil (by first | exact ⟨⟨_, rfl, ⟨fun _ => ar_op hA hk1 (by omega) (by rw [hAk]; simpa using g116), fun _ => by first | rfl | simp [g116]⟩⟩, h8, h106, h107, h108, hS, hx⟩ | exact ⟨⟨_, rfl, by rw [g116, Bool.false_or]; exact ar_tag hA hk1 (by omega) (by rw [hAk]; simpa using g116) hb121⟩, h8, h106, h107, h108, hS, hx⟩)
                rintro e w ⟨⟨b122, h122, hb122⟩, h8, h106, h107, h108, hS, hx⟩
                refine W.cond h122 (fun c122 => ?_) (fun c122 => ?_)
                · try simp only [decide_eq_true_eq, decide_eq_false_iff_not, Bool.not_eq_true', Bool.not_eq_false', Bool.and_eq_true, Bool.or_eq_true, Bool.and_eq_false_iff, Bool.or_eq_false_iff] at c122
                  refine W.seq ?_
                  refine W.region ?_
                  refine WL.c rfl (o_ash (show _ = Value.bool _ from rfl) ?_)
                  refine WL.nil ?_
                  refine W.ret ?_
                  refine ret1v rfl (show _ = Value.bool _ from rfl) ?_
                  exact ⟨false, rfl, ⟨fun h => (by cases h), fun h => absurd ((arms_iff.1 (hAr.1 h)).2 k (by omega)) (hb122.1 c122)⟩, hx⟩
                · try simp only [decide_eq_true_eq, decide_eq_false_iff_not, Bool.not_eq_true', Bool.not_eq_false', Bool.and_eq_true, Bool.or_eq_true, Bool.and_eq_false_iff, Bool.or_eq_false_iff] at c122
                  refine W.skip ?_
                  refine W.region ?_
                  refine WL.c rfl (o_addi h108 rfl (by omega) ?_)
                  refine WL.c rfl (o_mvh (show _ = Value.int _ _ from rfl) ?_)
                  refine WL.nil ?_
                  refine ⟨⟨k + 1, by omega, h8, h106, h107, rfl, fun j hj => ?_, hS, hx⟩, ?_⟩
                  · rcases Nat.lt_or_ge j k with h | h
                    · exact hall j h
                    · rw [show j = k by omega]; exact Classical.byContradiction fun h => by have := hb122.2 h; rw [this] at c122; cases c122
                  show n - ((k : Int) + 1).toNat < _
                  rw [hm108]; simp [intOf]; omega
              · try simp only [decide_eq_true_eq, decide_eq_false_iff_not, Bool.not_eq_true', Bool.not_eq_false', Bool.and_eq_true, Bool.or_eq_true, Bool.and_eq_false_iff, Bool.or_eq_false_iff] at c109
                refine W.exit ?_
                refine W.seq ?_
                refine W.region ?_
                refine WL.c rfl (o_ash (show _ = Value.bool _ from rfl) ?_)
                refine WL.nil ?_
                refine W.ret ?_
                refine ret1v rfl (show _ = Value.bool _ from rfl) ?_
                first | exact ⟨true, rfl, ⟨fun _ => hAr.2 (arms_iff.2 ⟨by omega, fun j hj => hall j (by omega)⟩), fun _ => rfl⟩, hx⟩ | (subst hw1; exact ⟨true, rfl, ⟨fun _ => hOk.2 (by rw [moreP, if_neg c57, if_neg c65, if_neg c76, if_neg c85]; trivial), fun _ => rfl⟩, hx⟩)
          · try simp only [decide_eq_true_eq, decide_eq_false_iff_not, Bool.not_eq_true', Bool.not_eq_false', Bool.and_eq_true, Bool.or_eq_true, Bool.and_eq_false_iff, Bool.or_eq_false_iff] at c85
            refine W.skip ?_
            refine W.seq ?_
            refine W.region ?_
            refine WL.c rfl (o_ash (show _ = Value.bool _ from rfl) ?_)
            refine WL.nil ?_
            refine W.ret ?_
            refine ret1v rfl (show _ = Value.bool _ from rfl) ?_
            first | exact ⟨true, rfl, ⟨fun _ => hAr.2 (arms_iff.2 ⟨by omega, fun j hj => hall j (by omega)⟩), fun _ => rfl⟩, hx⟩ | (subst hw1; exact ⟨true, rfl, ⟨fun _ => hOk.2 (by rw [moreP, if_neg c57, if_neg c65, if_neg c76, if_neg c85]; trivial), fun _ => rfl⟩, hx⟩)
end Go.Proofs.YthlbhnefldaoiaaDoor

set_option linter.unusedSimpArgs false
set_option linter.unusedVariables false
set_option maxRecDepth 100000
namespace Go.Proofs.YthlbhnefldaoiaaDoor
open Go Go.Vc Go.RowKit Go.Proofs

theorem zs_at {l : List Int} {k : Nat} (h : k < l.length) : (zs l)[k]? = some (.int .i64 l[k]) := by simp [zs, h]
theorem okE_at {p : Pg} {k : Nat} (h : k < p.ent.length) : OkE p k ↔ (0 ≤ p.ent[k] ∧ p.ent[k] ≤ (p.code.length : Int) - 1) := by
  unfold OkE
  rw [List.getD_eq_getElem?_getD, List.getElem?_eq_getElem h]
  rfl

set_option maxHeartbeats 4000000 in
theorem check_spec (p : Pg) (cv ev_ : Value) (w0 : World) (hp : PgR w0 p cv ev_) (hlc : p.code.length ≤ 4611686018427387904) (hle : p.ent.length ≤ 4611686018427387904) : Ca Tryd.prog 12 #[.agg (pgV p cv ev_).toArray] w0 (fun r w' => r = .agg #[.int .i64 ((chk p).1 : Int), .int .i64 ((chk p).2 : Int)] ∧ Ext w0 w') := by
  refine Ca.of Tryd.func12 Tryd.ntmps12 rfl rfl ?_
  refine W.seq ?_
  refine W.region ?_
  refine WL.c rfl (o_boxB rfl ?_)
  intro w1 hC1 hx1 hs1
  obtain ⟨b1, hb1⟩ : ∃ b, b = w0.heap.size := ⟨_, rfl⟩
  rw [← hb1] at hC1 ⊢
  replace hC1 : w1.heap[b1]? = some (.cells (pgV p cv ev_).toArray 26 (0, 0)) := hC1
  have hx : Ext w0 w1 := hx1
  refine WL.c rfl (o_alB TI32 ?_)
  intro w2 hC2 hx2 hs2
  obtain ⟨b2, hb2⟩ : ∃ b, b = w1.heap.size := ⟨_, rfl⟩
  rw [← hb2] at hC2 ⊢
  replace hC2 : w2.heap[b2]? = some (.cells ([.int .i64 0, .int .i64 0]).toArray 32 (0, 0)) := hC2
  have hb2g : w0.heap.size ≤ b2 := by have := hx.size; omega
  replace hx := hx.tr hx2
  replace hC1 := hx2.blk hC1 (fun h => h)
  refine WL.nil ?_
  refine W.seq ?_
  refine W.seq ?_
  refine W.region ?_
  refine WL.cut (fun e1 w1 => e1 15 = .bool (decide (1048576 < p.code.length ∨ 1048576 < p.ent.length)) ∧ e1 1 = .pointer (some ⟨b1, 0, none⟩) ∧ e1 2 = .pointer (some ⟨b2, 0, none⟩) ∧ w1 = w2) ?_ ?_
  · -- region 1
    refine WL.c rfl (o_fa 1 TI26 rfl TI23 rfl rfl ?_)
    refine WL.c rfl (o_ld TI23 rfl rfl (cell_of hC1 rfl) ?_)
    refine WL.c rfl (o_lenR TI23 rfl (hp.code.ext hx) ?_)
    refine WL.c rfl (o_gt rfl rfl ?_)
    refine WL.c rfl (o_mvh (show _ = Value.bool _ from rfl) ?_)
    refine WL.sp 4 rfl (fun g10 => ?_) (fun g10 => ?_)
    · skip
      refine WL.s rfl (g10) rfl ?_
      refine WL.s rfl (g10) rfl ?_
      refine WL.s rfl (g10) rfl ?_
      refine WL.s rfl (g10) rfl ?_
      refine WL.c rfl (o_pickT rfl (g10) ?_)
      exact WL.nil (⟨congrArg Value.bool (by rw [Bool.eq_iff_iff, decide_eq_true_iff]; simp_all <;> omega), rfl, rfl, rfl⟩)
    · skip
      refine WL.g rfl (g10) rfl (o_fa 2 TI26 rfl TI24 rfl rfl ?_)
      refine WL.g rfl (g10) rfl (o_ld TI24 rfl rfl (cell_of hC1 rfl) ?_)
      refine WL.g rfl (g10) rfl (o_lenR TI24 rfl (hp.ent.ext hx) ?_)
      refine WL.g rfl (g10) rfl (o_gt rfl rfl ?_)
      refine WL.c rfl (o_pickO rfl rfl ?_)
      exact WL.nil (⟨congrArg Value.bool (by rw [Bool.eq_iff_iff, decide_eq_true_iff]; simp_all <;> omega), rfl, rfl, rfl⟩)
  rintro e w ⟨h15, h1, h2, hw1⟩
  subst hw1
  refine W.cond h15 (fun c15 => ?_) (fun c15 => ?_)
  · try simp only [decide_eq_true_eq, decide_eq_false_iff_not, Bool.not_eq_true', Bool.not_eq_false', Bool.and_eq_true, Bool.or_eq_true, Bool.and_eq_false_iff, Bool.or_eq_false_iff] at c15
    refine W.seq ?_
    refine W.region ?_
    refine WL.c rfl (o_bldC (cs := [(.int .i64 4), (.int .i64 0)]) TI32 (Sizes.cons TI30 (Sizes.cons TI3 Sizes.nil)) rfl (lcp (show _ = Value.int _ _ from rfl) lnp) rfl rfl ?_)
    refine WL.u (o_stA TI32 h2 rfl rfl rfl (by assumption) rfl ?_)
    intro ws hBs hos hss
    replace hx := hx.trans' hos (fun _ h => h) (fun k hk he => by subst he; omega)
    refine WL.nil ?_
    refine W.ret ?_
    refine retC rfl TI32 rfl h2 (cells_all (by assumption)) rfl ?_
    exact ⟨by rw [chk_eq (.inl ⟨c15, rfl, rfl⟩)]; rfl, hx⟩
  · try simp only [decide_eq_true_eq, decide_eq_false_iff_not, Bool.not_eq_true', Bool.not_eq_false', Bool.and_eq_true, Bool.or_eq_true, Bool.and_eq_false_iff, Bool.or_eq_false_iff] at c15
    have hlc2 : p.code.length ≤ 1048576 ∧ p.ent.length ≤ 1048576 := by omega
    refine W.skip ?_
    refine W.seq ?_
    refine W.seq ?_
    refine W.region ?_
    refine WL.c rfl (o_fa 1 TI26 rfl TI23 rfl h1 ?_)
    refine WL.c rfl (o_ld TI23 rfl rfl (cell_of hC1 rfl) ?_)
    refine WL.c rfl (o_lenR TI23 rfl (hp.code.ext hx) ?_)
    refine WL.c rfl (o_mvh (show _ = Value.int _ _ from rfl) ?_)
    refine WL.nil ?_
    refine W.block ?_
    refine W.loop (fun e w => ∃ k : Nat, k ≤ p.code.length ∧ e 1 = .pointer (some ⟨b1, 0, none⟩) ∧ e 2 = .pointer (some ⟨b2, 0, none⟩) ∧ e 19 = .int .i64 (p.code.length : Int) ∧ e 20 = .int .i64 (k : Int) ∧ (∀ j, j < k → OkI p j) ∧ w.heap[b1]? = some (.cells (pgV p cv ev_).toArray 26 (0, 0)) ∧ w.heap[b2]? = some (.cells #[.int .i64 0, .int .i64 0] 32 (0, 0)) ∧ Ext w0 w) (fun e w => p.code.length - (intOf (e 20)).toNat) ?_ ?_
    · exact ⟨0, Nat.zero_le _, h1, h2, rfl, rfl, fun j h => absurd h (Nat.not_lt_zero j), hC1, hC2, hx⟩
    rintro e w ⟨k, hk, h1, h2, h19, h20, hall, hC1, hC2, hx⟩
    have hm20 := h20
    refine W.seq ?_
    refine W.region ?_
    refine WL.c rfl (o_lt h20 h19 ?_)
    refine WL.nil ?_
    refine W.seq ?_
    refine W.cond rfl (fun c21 => ?_) (fun c21 => ?_)
    · try simp only [decide_eq_true_eq, decide_eq_false_iff_not, Bool.not_eq_true', Bool.not_eq_false', Bool.and_eq_true, Bool.or_eq_true, Bool.and_eq_false_iff, Bool.or_eq_false_iff] at c21
      have hk1 : k < p.code.length := by omega
      refine W.skip ?_
      refine W.seq ?_
      refine W.block ?_
      refine W.seq ?_
      refine W.region ?_
      refine WL.c rfl (o_mvh h20 ?_)
      refine WL.c rfl (o_ash (show _ = Value.int _ _ from rfl) ?_)
      refine WL.nil ?_
      refine W.seq ?_
      refine W.region ?_
      refine WL.c rfl (o_ldA TI26 rfl h1 (show Cells _ b1 0 (pgV p cv ev_) from Cells.of hC1 0 _ (by simp)) rfl ?_)
      refine WL.c rfl (o_mvh (show _ = Value.int _ _ from rfl) ?_)
      refine WL.c rfl (o_call Tryd.call24 (lc rfl (lc rfl ln)) ((right_spec p cv ev_ k _ (hp.ext hx) hlc2.1 hlc2.2 hk1).mono ?_))
      rintro v25 w25 ⟨b25, rfl, hb25, hx25⟩
      replace hx := hx.tr hx25
      replace hC1 := hx25.blk hC1 (fun h => h)
      replace hC2 := hx25.blk hC2 (fun h => h)
      refine WL.c rfl (o_not' rfl ?_)
      refine WL.nil ?_
      refine W.cond rfl (fun c26 => ?_) (fun c26 => ?_)
      · try simp only [decide_eq_true_eq, decide_eq_false_iff_not, Bool.not_eq_true', Bool.not_eq_false', Bool.and_eq_true, Bool.or_eq_true, Bool.and_eq_false_iff, Bool.or_eq_false_iff] at c26
        refine W.seq ?_
        refine W.region ?_
        refine WL.c rfl (o_mvh (show _ = Value.int _ _ from rfl) ?_)
        refine WL.c rfl (o_bldC (cs := [(.int .i64 140), _]) TI32 (Sizes.cons TI30 (Sizes.cons TI3 Sizes.nil)) rfl (lcp (show _ = Value.int _ _ from rfl) (lcp (show _ = Value.int _ _ from rfl) lnp)) rfl rfl ?_)
        refine WL.u (o_stA TI32 h2 rfl rfl rfl (by assumption) rfl ?_)
        intro ws hBs hos hss
        replace hx := hx.trans' hos (fun _ h => h) (fun k hk he => by subst he; omega)
        refine WL.nil ?_
        refine W.ret ?_
        refine retC rfl TI32 rfl h2 (cells_all (by assumption)) rfl ?_
        exact ⟨by rw [chk_eq (.inr (.inl ⟨c15, hk1, hall, fun h => by have := hb25.2 h; simp [this] at c26, rfl⟩))]; rfl, hx⟩
      · try simp only [decide_eq_true_eq, decide_eq_false_iff_not, Bool.not_eq_true', Bool.not_eq_false', Bool.and_eq_true, Bool.or_eq_true, Bool.and_eq_false_iff, Bool.or_eq_false_iff] at c26
        refine W.skip ?_
        refine W.region ?_
        refine WL.c rfl (o_addi h20 rfl (by omega) ?_)
        refine WL.c rfl (o_mvh (show _ = Value.int _ _ from rfl) ?_)
        refine WL.nil ?_
        refine ⟨⟨k + 1, by omega, h1, h2, h19, rfl, fun j hj => ?_, hC1, hC2, hx⟩, ?_⟩
        · rcases Nat.lt_or_ge j k with h | h
          · exact hall j h
          · rw [show j = k by omega]; exact hb25.1 (by simpa using c26)
        show p.code.length - ((k : Int) + 1).toNat < _
        rw [hm20]; simp [intOf]; omega
    · try simp only [decide_eq_true_eq, decide_eq_false_iff_not, Bool.not_eq_true', Bool.not_eq_false', Bool.and_eq_true, Bool.or_eq_true, Bool.and_eq_false_iff, Bool.or_eq_false_iff] at c21
      obtain rfl : k = p.code.length := by omega
      refine W.exit ?_
      refine W.seq ?_
      refine W.seq ?_
      refine W.region ?_
      refine WL.c rfl (o_fa 2 TI26 rfl TI24 rfl h1 ?_)
      refine WL.c rfl (o_ld TI24 rfl rfl (cell_of hC1 rfl) ?_)
      refine WL.c rfl (o_lenR TI24 rfl (hp.ent.ext hx) ?_)
      refine WL.c rfl (o_mvh (show _ = Value.int _ _ from rfl) ?_)
      refine WL.nil ?_
      refine W.block ?_
      refine W.loop (fun e w => ∃ k : Nat, k ≤ p.ent.length ∧ e 1 = .pointer (some ⟨b1, 0, none⟩) ∧ e 2 = .pointer (some ⟨b2, 0, none⟩) ∧ e 31 = ev_ ∧ e 32 = .int .i64 (p.ent.length : Int) ∧ e 33 = .int .i64 (k : Int) ∧ (∀ j, j < k → OkE p j) ∧ w.heap[b1]? = some (.cells (pgV p cv ev_).toArray 26 (0, 0)) ∧ w.heap[b2]? = some (.cells #[.int .i64 0, .int .i64 0] 32 (0, 0)) ∧ Ext w0 w) (fun e w => p.ent.length - (intOf (e 33)).toNat) ?_ ?_
      · exact ⟨0, Nat.zero_le _, h1, h2, rfl, rfl, rfl, fun j h => absurd h (Nat.not_lt_zero j), hC1, hC2, hx⟩
      rintro e w ⟨k, hk, h1, h2, h31, h32, h33, halle, hC1, hC2, hx⟩
      have hm33 := h33
      refine W.seq ?_
      refine W.region ?_
      refine WL.c rfl (o_lt h33 h32 ?_)
      refine WL.nil ?_
      refine W.seq ?_
      refine W.cond rfl (fun c34 => ?_) (fun c34 => ?_)
      · try simp only [decide_eq_true_eq, decide_eq_false_iff_not, Bool.not_eq_true', Bool.not_eq_false', Bool.and_eq_true, Bool.or_eq_true, Bool.and_eq_false_iff, Bool.or_eq_false_iff] at c34
        have hk1 : k < p.ent.length := by omega
        refine W.skip ?_
        refine W.seq ?_
        refine W.block ?_
        refine W.seq ?_
        refine W.region ?_
        refine WL.c rfl (o_mvh h33 ?_)
        refine WL.c rfl (o_ix1 TI24 TI3 h31 h33 (hp.ent.ext hx) (by omega) ?_)
        intro b36 o36 hc36 hb36
        refine WL.c rfl (o_ld TI3 rfl rfl (hc36.trans (zs_at hk1)) ?_)
        refine WL.c rfl (o_ash (show _ = Value.int _ _ from rfl) ?_)
        refine WL.c rfl (o_ash (show _ = Value.int _ _ from rfl) ?_)
        refine WL.nil ?_
        refine W.seq ?_
        refine W.region ?_
        refine WL.c rfl (o_mvh (show _ = Value.int _ _ from rfl) ?_)
        refine WL.c rfl (o_fa 1 TI26 rfl TI23 rfl h1 ?_)
        refine WL.c rfl (o_ld TI23 rfl rfl (cell_of hC1 rfl) ?_)
        refine WL.c rfl (o_lenR TI23 rfl (hp.code.ext hx) ?_)
        refine WL.c rfl (o_subi rfl rfl (by omega) ?_)
        refine WL.c rfl (o_call Tryd.call25 (lc rfl (lc rfl (lc rfl ln))) ((in_spec _ _ _ _).mono ?_))
        rintro v43 w43 ⟨rfl, rfl⟩
        refine WL.c rfl (o_not' rfl ?_)
        refine WL.nil ?_
        refine W.cond rfl (fun c44 => ?_) (fun c44 => ?_)
        · try simp only [decide_eq_true_eq, decide_eq_false_iff_not, Bool.not_eq_true', Bool.not_eq_false', Bool.and_eq_true, Bool.or_eq_true, Bool.and_eq_false_iff, Bool.or_eq_false_iff] at c44
          refine W.seq ?_
          refine W.region ?_
          refine WL.c rfl (o_mvh (show _ = Value.int _ _ from rfl) ?_)
          refine WL.c rfl (o_bldC (cs := [(.int .i64 3), _]) TI32 (Sizes.cons TI30 (Sizes.cons TI3 Sizes.nil)) rfl (lcp (show _ = Value.int _ _ from rfl) (lcp (show _ = Value.int _ _ from rfl) lnp)) rfl rfl ?_)
          refine WL.u (o_stA TI32 h2 rfl rfl rfl (by assumption) rfl ?_)
          intro ws hBs hos hss
          replace hx := hx.trans' hos (fun _ h => h) (fun k hk he => by subst he; omega)
          refine WL.nil ?_
          refine W.ret ?_
          refine retC rfl TI32 rfl h2 (cells_all (by assumption)) rfl ?_
          exact ⟨by rw [chk_eq (.inr (.inr (.inl ⟨c15, hall, hk1, halle, fun h => by rw [okE_at hk1] at h; (try simp at c44); omega, rfl⟩)))]; rfl, hx⟩
        · try simp only [decide_eq_true_eq, decide_eq_false_iff_not, Bool.not_eq_true', Bool.not_eq_false', Bool.and_eq_true, Bool.or_eq_true, Bool.and_eq_false_iff, Bool.or_eq_false_iff] at c44
          refine W.skip ?_
          refine W.region ?_
          refine WL.c rfl (o_addi h33 rfl (by omega) ?_)
          refine WL.c rfl (o_mvh (show _ = Value.int _ _ from rfl) ?_)
          refine WL.nil ?_
          refine ⟨⟨k + 1, by omega, h1, h2, h31, h32, rfl, fun j hj => ?_, hC1, hC2, hx⟩, ?_⟩
          · rcases Nat.lt_or_ge j k with h | h
            · exact halle j h
            · rw [show j = k by omega, okE_at hk1]; (try simp at c44); omega
          show p.ent.length - ((k : Int) + 1).toNat < _
          rw [hm33]; simp [intOf]; omega
      · try simp only [decide_eq_true_eq, decide_eq_false_iff_not, Bool.not_eq_true', Bool.not_eq_false', Bool.and_eq_true, Bool.or_eq_true, Bool.and_eq_false_iff, Bool.or_eq_false_iff] at c34
        obtain rfl : k = p.ent.length := by omega
        refine W.exit ?_
        refine W.seq ?_
        refine W.region ?_
        refine WL.c rfl (o_bldC (cs := [(.int .i64 0), (.int .i64 0)]) TI32 (Sizes.cons TI30 (Sizes.cons TI3 Sizes.nil)) rfl lnp rfl rfl ?_)
        refine WL.u (o_stA TI32 h2 rfl rfl rfl (by assumption) rfl ?_)
        intro ws hBs hos hss
        replace hx := hx.trans' hos (fun _ h => h) (fun k hk he => by subst he; omega)
        refine WL.nil ?_
        refine W.ret ?_
        refine retC rfl TI32 rfl h2 (cells_all (by assumption)) rfl ?_
        exact ⟨by rw [chk_eq (.inr (.inr (.inr ⟨c15, hall, halle, rfl, rfl⟩)))]; rfl, hx⟩
end Go.Proofs.YthlbhnefldaoiaaDoor

set_option linter.unusedSimpArgs false
set_option linter.unusedVariables false
set_option maxRecDepth 100000
namespace Go.Proofs.YthlbhnefldaoiaaDoor
open Go Go.Vc Go.RowKit Go.Proofs

def fcells (l : List (List UInt8 × List UInt8)) : List Value := l.flatMap fun f => [st f.1, st f.2]
theorem fcells_at {l : List (List UInt8 × List UInt8)} {k : Nat} (h : k < l.length) : ((fcells l).drop (k * 2)).take 2 = [st l[k].1, st l[k].2] := by
  have h1 := fm_sub (f := fun f : List UInt8 × List UInt8 => [st f.1, st f.2]) (s := 2) (fun _ => rfl) l k 1
  rw [Nat.one_mul] at h1
  unfold fcells
  rw [h1, ← List.getElem_cons_drop h]
  rfl
/-- the document's answer: the form, and whether there is one -/
def fmT (enc : Bool) (op : Int) : List UInt8 × List UInt8 × Bool := match fmOf enc op with | some f => (f.1, f.2, true) | none => ([], [], false)
def fitN (nc ne : Nat) (k : Nat) (x : Int) : Prop := if k = 107 ∨ k = 112 then -1 ≤ x ∧ x ≤ 63 else if k = 75 then 0 ≤ x ∧ x ≤ 63 else if k = 119 then x = 1 ∨ x = 2 ∨ x = 4 ∨ x = 8 else if k = 109 then 2 ≤ x ∧ x ≤ 64 else if k = 102 then 4 ≤ x ∧ x ≤ 16777216 else if k = 110 then 1 ≤ x ∧ x ≤ 1048576 else if k = 115 then 1 ≤ x ∧ x ≤ 64 else if k = 97 then 1 ≤ x ∧ x ≤ 64 else if k = 103 then 0 ≤ x ∧ x ≤ 255 else if k = 108 then 0 ≤ x ∧ x ≤ 16777215 else if k = 76 then -1 ≤ x ∧ x ≤ 16777215 else if k = 114 then x = -1 ∨ (1 ≤ x ∧ x ≤ 16777216) else if k = 122 then 1 ≤ x ∧ x ≤ 16777216 else if k = 116 then 0 ≤ x ∧ x ≤ (nc : Int) - 1 else if k = 121 then 0 ≤ x ∧ x ≤ (ne : Int) - 1 else x = 0
theorem fitN_eq {nc ne : Nat} {c : UInt8} (hc : c ∈ lets) (x : Int) : fitN nc ne c.toNat x ↔ fitP nc ne c x := by
  rcases lets_cases hc with rfl | rfl | rfl | rfl | rfl | rfl | rfl | rfl | rfl | rfl | rfl | rfl | rfl | rfl | rfl | rfl | rfl <;> simp [fitN, fitP]

set_option maxHeartbeats 8000000 in
theorem rof_spec (op : Int) (enc : Bool) (w0 : World) : Ca Tryd.prog 40 #[.int .i64 op, .bool enc] w0 (fun r w' => r = .tuple #[.agg #[st (fmT enc op).1, st (fmT enc op).2.1], .bool (fmT enc op).2.2] ∧ Ext w0 w') := by
  refine Ca.of Tryd.func40 Tryd.ntmps40 rfl rfl ?_
  refine W.seq ?_
  refine W.region ?_
  refine WL.c rfl (o_alB TI82 ?_)
  intro w4 hC4 hx4 hs4
  obtain ⟨b4, hb4⟩ : ∃ b, b = w0.heap.size := ⟨_, rfl⟩
  rw [← hb4] at hC4 ⊢
  replace hC4 : w4.heap[b4]? = some (.cells ([st [], st []]).toArray 82 (0, 0)) := hC4
  have hx : Ext w0 w4 := hx4
  have hb4g : w0.heap.size ≤ b4 := by omega
  refine WL.c rfl (o_ash (show _ = Value.bool _ from rfl) ?_)
  refine WL.nil ?_
  refine W.seq ?_
  refine W.region ?_
  refine WL.c rfl (o_bldC (cs := [(.string ⟨#[]⟩), (.string ⟨#[]⟩)]) TI82 (Sizes.cons TI9 (Sizes.cons TI9 Sizes.nil)) rfl lnp rfl rfl ?_)
  refine WL.c rfl (o_bldC (cs := [(st [117, 105, 110, 116]), (st [107, 119, 32])]) TI82 (Sizes.cons TI9 (Sizes.cons TI9 Sizes.nil)) rfl (lcp (show _ = Value.string _ from rfl) (lcp (show _ = Value.string _ from rfl) lnp)) rfl rfl ?_)
  refine WL.c rfl (o_bldC (cs := [(st [117, 105, 110, 116, 115]), (st [75, 109, 119])]) TI82 (Sizes.cons TI9 (Sizes.cons TI9 Sizes.nil)) rfl (lcp (show _ = Value.string _ from rfl) (lcp (show _ = Value.string _ from rfl) lnp)) rfl rfl ?_)
  refine WL.c rfl (o_bldC (cs := [(st [98, 111, 111, 108]), (st [107, 32, 32])]) TI82 (Sizes.cons TI9 (Sizes.cons TI9 Sizes.nil)) rfl (lcp (show _ = Value.string _ from rfl) (lcp (show _ = Value.string _ from rfl) lnp)) rfl rfl ?_)
  refine WL.c rfl (o_bldC (cs := [(st [118, 97, 114, 105, 110, 116]), (st [107, 32, 32])]) TI82 (Sizes.cons TI9 (Sizes.cons TI9 Sizes.nil)) rfl (lcp (show _ = Value.string _ from rfl) (lcp (show _ = Value.string _ from rfl) lnp)) rfl rfl ?_)
  refine WL.c rfl (o_bldC (cs := [(st [115, 101, 113]), (st [32, 32, 32])]) TI82 (Sizes.cons TI9 (Sizes.cons TI9 Sizes.nil)) rfl (lcp (show _ = Value.string _ from rfl) (lcp (show _ = Value.string _ from rfl) lnp)) rfl rfl ?_)
  refine WL.c rfl (o_bldC (cs := [(st [115, 116, 114, 117, 99, 116]), (st [32, 32, 32])]) TI82 (Sizes.cons TI9 (Sizes.cons TI9 Sizes.nil)) rfl (lcp (show _ = Value.string _ from rfl) (lcp (show _ = Value.string _ from rfl) lnp)) rfl rfl ?_)
  refine WL.c rfl (o_bldC (cs := [(st [111, 112, 116, 105, 111, 110]), (st [32, 116, 32])]) TI82 (Sizes.cons TI9 (Sizes.cons TI9 Sizes.nil)) rfl (lcp (show _ = Value.string _ from rfl) (lcp (show _ = Value.string _ from rfl) lnp)) rfl rfl ?_)
  refine WL.c rfl (o_bldC (cs := [(st [117, 110, 105, 111, 110]), (st [97, 32, 32])]) TI82 (Sizes.cons TI9 (Sizes.cons TI9 Sizes.nil)) rfl (lcp (show _ = Value.string _ from rfl) (lcp (show _ = Value.string _ from rfl) lnp)) rfl rfl ?_)
  refine WL.c rfl (o_bldC (cs := [(st [97, 114, 109]), (st [103, 116, 32])]) TI82 (Sizes.cons TI9 (Sizes.cons TI9 Sizes.nil)) rfl (lcp (show _ = Value.string _ from rfl) (lcp (show _ = Value.string _ from rfl) lnp)) rfl rfl ?_)
  refine WL.c rfl (o_bldC (cs := [(st [111, 102, 102, 115, 101, 116]), (st [102, 32, 32])]) TI82 (Sizes.cons TI9 (Sizes.cons TI9 Sizes.nil)) rfl (lcp (show _ = Value.string _ from rfl) (lcp (show _ = Value.string _ from rfl) lnp)) rfl rfl ?_)
  refine WL.c rfl (o_bldC (cs := [(st [102, 105, 114, 115, 116]), (st [110, 116, 32])]) TI82 (Sizes.cons TI9 (Sizes.cons TI9 Sizes.nil)) rfl (lcp (show _ = Value.string _ from rfl) (lcp (show _ = Value.string _ from rfl) lnp)) rfl rfl ?_)
  refine WL.c rfl (o_bldC (cs := [(st [115, 108, 111, 116, 115]), (st [32, 116, 32])]) TI82 (Sizes.cons TI9 (Sizes.cons TI9 Sizes.nil)) rfl (lcp (show _ = Value.string _ from rfl) (lcp (show _ = Value.string _ from rfl) lnp)) rfl rfl ?_)
  refine WL.c rfl (o_bldC (cs := [(st [105, 116, 101, 109]), (st [110, 116, 32])]) TI82 (Sizes.cons TI9 (Sizes.cons TI9 Sizes.nil)) rfl (lcp (show _ = Value.string _ from rfl) (lcp (show _ = Value.string _ from rfl) lnp)) rfl rfl ?_)
  refine WL.c rfl (o_bldC (cs := [(st [108, 101, 115, 115]), (st [110, 116, 32])]) TI82 (Sizes.cons TI9 (Sizes.cons TI9 Sizes.nil)) rfl (lcp (show _ = Value.string _ from rfl) (lcp (show _ = Value.string _ from rfl) lnp)) rfl rfl ?_)
  refine WL.c rfl (o_bldC (cs := [(st [112, 97, 114, 116, 115]), (st [32, 116, 32])]) TI82 (Sizes.cons TI9 (Sizes.cons TI9 Sizes.nil)) rfl (lcp (show _ = Value.string _ from rfl) (lcp (show _ = Value.string _ from rfl) lnp)) rfl rfl ?_)
  refine WL.c rfl (o_bldC (cs := [(st [99, 97, 108, 108]), (st [107, 32, 121])]) TI82 (Sizes.cons TI9 (Sizes.cons TI9 Sizes.nil)) rfl (lcp (show _ = Value.string _ from rfl) (lcp (show _ = Value.string _ from rfl) lnp)) rfl rfl ?_)
  refine WL.c rfl (o_bldC (cs := [(st [112, 97, 114, 116]), (st [107, 112, 121])]) TI82 (Sizes.cons TI9 (Sizes.cons TI9 Sizes.nil)) rfl (lcp (show _ = Value.string _ from rfl) (lcp (show _ = Value.string _ from rfl) lnp)) rfl rfl ?_)
  refine WL.c rfl (o_bldC (cs := [(st [116, 97, 105, 108]), (st [112, 32, 32])]) TI82 (Sizes.cons TI9 (Sizes.cons TI9 Sizes.nil)) rfl (lcp (show _ = Value.string _ from rfl) (lcp (show _ = Value.string _ from rfl) lnp)) rfl rfl ?_)
  refine WL.c rfl (o_bldC (cs := [(st [106, 117, 109, 112]), (st [32, 116, 32])]) TI82 (Sizes.cons TI9 (Sizes.cons TI9 Sizes.nil)) rfl (lcp (show _ = Value.string _ from rfl) (lcp (show _ = Value.string _ from rfl) lnp)) rfl rfl ?_)
  refine WL.c rfl (o_bldC (cs := [(st [114, 101, 116]), (st [32, 32, 32])]) TI82 (Sizes.cons TI9 (Sizes.cons TI9 Sizes.nil)) rfl (lcp (show _ = Value.string _ from rfl) (lcp (show _ = Value.string _ from rfl) lnp)) rfl rfl ?_)
  refine WL.c rfl (o_bsA (xs := [(.tmp 8), (.tmp 9), (.tmp 10), (.tmp 11), (.tmp 12), (.tmp 13), (.tmp 14), (.tmp 15), (.tmp 16), (.tmp 17), (.tmp 18), (.tmp 19), (.tmp 20), (.tmp 21), (.tmp 22), (.tmp 23), (.tmp 24), (.tmp 25), (.tmp 26), (.tmp 27), (.tmp 28)]) (cs := fcells dTab) TI114 TI82 rfl (lc rfl (lc rfl (lc rfl (lc rfl (lc rfl (lc rfl (lc rfl (lc rfl (lc rfl (lc rfl (lc rfl (lc rfl (lc rfl (lc rfl (lc rfl (lc rfl (lc rfl (lc rfl (lc rfl (lc rfl (lc rfl ln))))))))))))))))))))) rfl rfl (by decide) (by decide) rfl ?_)
  obtain ⟨wt1, hwt1⟩ : ∃ wt1, wt1 = w4.alloc (.cells (fcells dTab).toArray 82) := ⟨_, rfl⟩
  have hT1 : wt1.heap[w4.heap.size]? = some (.cells (fcells dTab).toArray 82 (0, 0)) := by rw [hwt1]; exact heap_alloc_new _ _
  have hxt1 : Ext w4 wt1 := by rw [hwt1]; exact Only.alloc _ _
  obtain ⟨t1, ht1⟩ : ∃ b, b = w4.heap.size := ⟨_, rfl⟩
  rw [← ht1] at hT1
  rw [← hwt1, ← ht1]
  clear hwt1
  replace hx := hx.tr hxt1
  replace hC4 := hxt1.blk hC4 (fun h => h)
  refine WL.c rfl (o_ash (by first | exact (show _ = Value.slice _ _ _ from rfl) | exact rfl) ?_)
  refine WL.nil ?_
  refine W.seq ?_
  refine W.region ?_
  refine WL.c rfl (o_bldC (cs := [(st [110, 117, 109, 98, 101, 114]), (st [76, 119, 32])]) TI82 (Sizes.cons TI9 (Sizes.cons TI9 Sizes.nil)) rfl (lcp (show _ = Value.string _ from rfl) (lcp (show _ = Value.string _ from rfl) lnp)) rfl rfl ?_)
  refine WL.c rfl (o_bldC (cs := [(st [110, 117, 109, 98, 101, 114, 115]), (st [108, 109, 119])]) TI82 (Sizes.cons TI9 (Sizes.cons TI9 Sizes.nil)) rfl (lcp (show _ = Value.string _ from rfl) (lcp (show _ = Value.string _ from rfl) lnp)) rfl rfl ?_)
  refine WL.c rfl (o_bldC (cs := [(st [102, 108, 97, 103]), (st [76, 32, 32])]) TI82 (Sizes.cons TI9 (Sizes.cons TI9 Sizes.nil)) rfl (lcp (show _ = Value.string _ from rfl) (lcp (show _ = Value.string _ from rfl) lnp)) rfl rfl ?_)
  refine WL.c rfl (o_bldC (cs := [(st [108, 101, 98]), (st [32, 32, 32])]) TI82 (Sizes.cons TI9 (Sizes.cons TI9 Sizes.nil)) rfl (lcp (show _ = Value.string _ from rfl) (lcp (show _ = Value.string _ from rfl) lnp)) rfl rfl ?_)
  refine WL.c rfl (o_bldC (cs := [(st [109, 97, 110, 121]), (st [110, 32, 32])]) TI82 (Sizes.cons TI9 (Sizes.cons TI9 Sizes.nil)) rfl (lcp (show _ = Value.string _ from rfl) (lcp (show _ = Value.string _ from rfl) lnp)) rfl rfl ?_)
  refine WL.c rfl (o_bldC (cs := [(st [117, 112, 116, 111]), (st [110, 32, 32])]) TI82 (Sizes.cons TI9 (Sizes.cons TI9 Sizes.nil)) rfl (lcp (show _ = Value.string _ from rfl) (lcp (show _ = Value.string _ from rfl) lnp)) rfl rfl ?_)
  refine WL.c rfl (o_bldC (cs := [(st [102, 105, 101, 108, 100, 115]), (st [115, 32, 32])]) TI82 (Sizes.cons TI9 (Sizes.cons TI9 Sizes.nil)) rfl (lcp (show _ = Value.string _ from rfl) (lcp (show _ = Value.string _ from rfl) lnp)) rfl rfl ?_)
  refine WL.c rfl (o_bldC (cs := [(st [109, 97, 121, 98, 101]), (st [32, 116, 32])]) TI82 (Sizes.cons TI9 (Sizes.cons TI9 Sizes.nil)) rfl (lcp (show _ = Value.string _ from rfl) (lcp (show _ = Value.string _ from rfl) lnp)) rfl rfl ?_)
  refine WL.c rfl (o_bldC (cs := [(st [99, 104, 111, 105, 99, 101]), (st [97, 32, 32])]) TI82 (Sizes.cons TI9 (Sizes.cons TI9 Sizes.nil)) rfl (lcp (show _ = Value.string _ from rfl) (lcp (show _ = Value.string _ from rfl) lnp)) rfl rfl ?_)
  refine WL.c rfl (o_bldC (cs := [(st [114, 111, 111, 109]), (st [114, 32, 32])]) TI82 (Sizes.cons TI9 (Sizes.cons TI9 Sizes.nil)) rfl (lcp (show _ = Value.string _ from rfl) (lcp (show _ = Value.string _ from rfl) lnp)) rfl rfl ?_)
  refine WL.c rfl (o_bldC (cs := [(st [115, 108, 111, 116]), (st [76, 32, 32])]) TI82 (Sizes.cons TI9 (Sizes.cons TI9 Sizes.nil)) rfl (lcp (show _ = Value.string _ from rfl) (lcp (show _ = Value.string _ from rfl) lnp)) rfl rfl ?_)
  refine WL.c rfl (o_bldC (cs := [(st [101, 110, 116, 101, 114]), (st [108, 32, 121])]) TI82 (Sizes.cons TI9 (Sizes.cons TI9 Sizes.nil)) rfl (lcp (show _ = Value.string _ from rfl) (lcp (show _ = Value.string _ from rfl) lnp)) rfl rfl ?_)
  refine WL.c rfl (o_bldC (cs := [(st [101, 97, 99, 104]), (st [122, 32, 121])]) TI82 (Sizes.cons TI9 (Sizes.cons TI9 Sizes.nil)) rfl (lcp (show _ = Value.string _ from rfl) (lcp (show _ = Value.string _ from rfl) lnp)) rfl rfl ?_)
  refine WL.c rfl (o_bldC (cs := [(st [97, 112, 112, 101, 110, 100]), (st [32, 32, 121])]) TI82 (Sizes.cons TI9 (Sizes.cons TI9 Sizes.nil)) rfl (lcp (show _ = Value.string _ from rfl) (lcp (show _ = Value.string _ from rfl) lnp)) rfl rfl ?_)
  refine WL.c rfl (o_bldC (cs := [(st [97, 103, 97, 105, 110]), (st [32, 116, 32])]) TI82 (Sizes.cons TI9 (Sizes.cons TI9 Sizes.nil)) rfl (lcp (show _ = Value.string _ from rfl) (lcp (show _ = Value.string _ from rfl) lnp)) rfl rfl ?_)
  refine WL.c rfl (o_bsA (xs := [(.tmp 30), (.tmp 31), (.tmp 32), (.tmp 33), (.tmp 34), (.tmp 35), (.tmp 36), (.tmp 37), (.tmp 38), (.tmp 39), (.tmp 40), (.tmp 41), (.tmp 42), (.tmp 43), (.tmp 44)]) (cs := fcells cTab) TI114 TI82 rfl (lc rfl (lc rfl (lc rfl (lc rfl (lc rfl (lc rfl (lc rfl (lc rfl (lc rfl (lc rfl (lc rfl (lc rfl (lc rfl (lc rfl (lc rfl ln))))))))))))))) rfl rfl (by decide) (by decide) rfl ?_)
  obtain ⟨wt2, hwt2⟩ : ∃ wt2, wt2 = wt1.alloc (.cells (fcells cTab).toArray 82) := ⟨_, rfl⟩
  have hT2 : wt2.heap[wt1.heap.size]? = some (.cells (fcells cTab).toArray 82 (0, 0)) := by rw [hwt2]; exact heap_alloc_new _ _
  have hxt2 : Ext wt1 wt2 := by rw [hwt2]; exact Only.alloc _ _
  obtain ⟨t2, ht2⟩ : ∃ b, b = wt1.heap.size := ⟨_, rfl⟩
  rw [← ht2] at hT2
  rw [← hwt2, ← ht2]
  clear hwt2
  replace hT1 := hxt2.blk hT1 (fun h => h)
  replace hx := hx.tr hxt2
  replace hC4 := hxt2.blk hC4 (fun h => h)
  refine WL.c rfl (o_ash (by first | exact (show _ = Value.slice _ _ _ from rfl) | exact rfl) ?_)
  refine WL.nil ?_
  refine W.seq ?_
  refine W.block ?_
  refine W.seq ?_
  refine W.region ?_
  refine WL.cut (fun e1 w1 => e1 46 = .bool (decide (op = 9 ∨ op = 19 ∨ op = 20)) ∧ e1 0 = .int .i64 op ∧ e1 1 = .bool enc ∧ e1 4 = .pointer (some ⟨b4, 0, none⟩) ∧ e1 6 = .slice (some ⟨t1, 0, none⟩) 21 21 ∧ e1 7 = .slice (some ⟨t2, 0, none⟩) 15 15 ∧ w1 = wt2) ?_ ?_
  · -- region 3
    refine WL.c rfl (o_mvh (show _ = Value.int _ _ from rfl) ?_)
    refine WL.c rfl (o_eq rfl rfl ?_)
    refine WL.c rfl (o_mvh (show _ = Value.bool _ from rfl) ?_)
    refine WL.sp 2 rfl (fun g49 => ?_) (fun g49 => ?_)
    · skip
      refine WL.s rfl (g49) rfl ?_
      refine WL.s rfl (g49) rfl ?_
      refine WL.c rfl (o_pickT rfl (g49) ?_)
      refine WL.c rfl (o_mvh (show _ = Value.bool _ from rfl) ?_)
      refine WL.s rfl (rfl) rfl ?_
      refine WL.s rfl (rfl) rfl ?_
      refine WL.c rfl (o_pickT rfl (rfl) ?_)
      refine WL.c rfl (o_ash (show _ = Value.bool _ from rfl) ?_)
      exact WL.nil (⟨congrArg Value.bool (by rw [Bool.eq_iff_iff, decide_eq_true_iff]; first | (simp_all; done) | (simp_all; intros; omega)), rfl, rfl, rfl, rfl, rfl, rfl⟩)
    · skip
      refine WL.g rfl (g49) rfl (o_mvh (show _ = Value.int _ _ from rfl) ?_)
      refine WL.g rfl (g49) rfl (o_eq rfl rfl ?_)
      refine WL.c rfl (o_pickO rfl rfl ?_)
      refine WL.c rfl (o_mvh (show _ = Value.bool _ from rfl) ?_)
      refine WL.sp 6 rfl (fun g53 => ?_) (fun g53 => ?_)
      · skip
        refine WL.s rfl (g53) rfl ?_
        refine WL.s rfl (g53) rfl ?_
        refine WL.c rfl (o_pickT rfl (g53) ?_)
        refine WL.c rfl (o_ash (show _ = Value.bool _ from rfl) ?_)
        exact WL.nil (⟨congrArg Value.bool (by rw [Bool.eq_iff_iff, decide_eq_true_iff]; first | (simp_all; done) | (simp_all; intros; omega)), rfl, rfl, rfl, rfl, rfl, rfl⟩)
      · skip
        refine WL.g rfl (g53) rfl (o_mvh (show _ = Value.int _ _ from rfl) ?_)
        refine WL.g rfl (g53) rfl (o_eq rfl rfl ?_)
        refine WL.c rfl (o_pickO rfl rfl ?_)
        refine WL.c rfl (o_ash (show _ = Value.bool _ from rfl) ?_)
        exact WL.nil (⟨congrArg Value.bool (by rw [Bool.eq_iff_iff, decide_eq_true_iff]; first | (simp_all; done) | (simp_all; intros; omega)), rfl, rfl, rfl, rfl, rfl, rfl⟩)
  rintro e w ⟨h46, h0, h1, h4, h6, h7, hw1⟩
  subst hw1
  refine W.cond h46 (fun c46 => ?_) (fun c46 => ?_)
  · try simp only [decide_eq_true_eq, decide_eq_false_iff_not, Bool.not_eq_true', Bool.not_eq_false', Bool.and_eq_true, Bool.or_eq_true, Bool.and_eq_false_iff, Bool.or_eq_false_iff] at c46
    obtain ⟨k, rfl⟩ : ∃ k : Nat, op = (k : Int) := ⟨op.toNat, by omega⟩
    have hk : k < dTab.length := by show k < 21; omega
    have hfm : fmT enc (k : Int) = (dTab[k].1, dTab[k].2, true) := by unfold fmT fmOf; rw [if_pos c46, Int.toNat_natCast, List.getElem?_eq_getElem hk]
    refine W.seq ?_
    refine W.region ?_
    refine WL.c rfl (o_mvh h6 ?_)
    refine WL.c rfl (o_mvh h0 ?_)
    refine WL.c rfl (o_ixB (i := k) TI114 TI82 rfl rfl hk ?_)
    refine WL.c rfl (o_ldA TI82 rfl rfl (show Cells _ t1 (0 + k * 2) [st dTab[k].1, st dTab[k].2] from by have h9 := (Cells.of hT1 0 (fcells dTab) (by simp)).sub (k * 2) 2; rw [fcells_at hk] at h9; exact h9) rfl ?_)
    refine WL.u (o_stA TI82 h4 (show _ = Value.agg #[st dTab[k].1, st dTab[k].2] from rfl) rfl rfl (by assumption) rfl ?_)
    intro ws hBs hos hss
    replace hx := hx.trans' hos (fun _ h => h) (fun k hk he => by subst he; omega)
    refine WL.c rfl (o_ash (show _ = Value.bool _ from rfl) ?_)
    refine WL.nil ?_
    refine W.ret ?_
    refine retCT rfl TI82 rfl (show _ = Value.bool _ from rfl) h4 (cells_all (by assumption)) rfl ?_
    exact ⟨by rw [hfm], hx⟩
  · try simp only [decide_eq_true_eq, decide_eq_false_iff_not, Bool.not_eq_true', Bool.not_eq_false', Bool.and_eq_true, Bool.or_eq_true, Bool.and_eq_false_iff, Bool.or_eq_false_iff] at c46
    refine W.seq ?_
    refine W.region ?_
    refine WL.cut (fun e1 w1 => e1 61 = .bool (decide (enc = true ∧ 33 ≤ op ∧ op ≤ 47)) ∧ e1 0 = .int .i64 op ∧ e1 1 = .bool enc ∧ e1 4 = .pointer (some ⟨b4, 0, none⟩) ∧ e1 6 = .slice (some ⟨t1, 0, none⟩) 21 21 ∧ e1 7 = .slice (some ⟨t2, 0, none⟩) 15 15 ∧ w1 = w) ?_ ?_
    · -- region 5
      refine WL.c rfl (o_mvh h1 ?_)
      refine WL.c rfl (o_mvh (show _ = Value.bool _ from rfl) ?_)
      refine WL.sp 1 rfl (fun g63 => ?_) (fun g63 => ?_)
      · skip
        refine WL.g rfl (g63) rfl (o_mvh h0 ?_)
        refine WL.g rfl (g63) rfl (o_ge rfl rfl ?_)
        refine WL.c rfl (o_pickA rfl rfl ?_)
        refine WL.c rfl (o_mvh (show _ = Value.bool _ from rfl) ?_)
        refine WL.sp 5 rfl (fun g67 => ?_) (fun g67 => ?_)
        · skip
          refine WL.g rfl (g67) rfl (o_mvh h0 ?_)
          refine WL.g rfl (g67) rfl (o_le rfl rfl ?_)
          refine WL.c rfl (o_pickA rfl rfl ?_)
          refine WL.c rfl (o_ash (show _ = Value.bool _ from rfl) ?_)
          exact WL.nil (⟨congrArg Value.bool (by rw [Bool.eq_iff_iff, decide_eq_true_iff]; first | (simp_all; done) | (simp_all; intros; omega)), h0, h1, h4, h6, h7, rfl⟩)
        · skip
          refine WL.s rfl (g67) rfl ?_
          refine WL.s rfl (g67) rfl ?_
          refine WL.c rfl (o_pickF rfl (g67) ?_)
          refine WL.c rfl (o_ash (show _ = Value.bool _ from rfl) ?_)
          exact WL.nil (⟨congrArg Value.bool (by rw [Bool.eq_iff_iff, decide_eq_true_iff]; first | (simp_all; done) | (simp_all; intros; omega)), h0, h1, h4, h6, h7, rfl⟩)
      · skip
        refine WL.s rfl (g63) rfl ?_
        refine WL.s rfl (g63) rfl ?_
        refine WL.c rfl (o_pickF rfl (g63) ?_)
        refine WL.c rfl (o_mvh (show _ = Value.bool _ from rfl) ?_)
        refine WL.s rfl (rfl) rfl ?_
        refine WL.s rfl (rfl) rfl ?_
        refine WL.c rfl (o_pickF rfl (rfl) ?_)
        refine WL.c rfl (o_ash (show _ = Value.bool _ from rfl) ?_)
        exact WL.nil (⟨congrArg Value.bool (by rw [Bool.eq_iff_iff, decide_eq_true_iff]; first | (simp_all; done) | (simp_all; intros; omega)), h0, h1, h4, h6, h7, rfl⟩)
    rintro e w ⟨h61, h0, h1, h4, h6, h7, hw1⟩
    subst hw1
    refine W.cond h61 (fun c61 => ?_) (fun c61 => ?_)
    · try simp only [decide_eq_true_eq, decide_eq_false_iff_not, Bool.not_eq_true', Bool.not_eq_false', Bool.and_eq_true, Bool.or_eq_true, Bool.and_eq_false_iff, Bool.or_eq_false_iff] at c61
      obtain ⟨k, hop⟩ : ∃ k : Nat, op = ((k + 33 : Nat) : Int) := ⟨op.toNat - 33, by omega⟩
      have hk : k < cTab.length := by show k < 15; omega
      have hfm : fmT enc op = (cTab[k].1, cTab[k].2, true) := by unfold fmT fmOf; rw [if_neg c46, if_pos c61, show op.toNat - 33 = k by omega, List.getElem?_eq_getElem hk]
      refine W.seq ?_
      refine W.region ?_
      refine WL.c rfl (o_mvh h7 ?_)
      refine WL.c rfl (o_mvh h0 ?_)
      refine WL.c rfl (o_subi rfl rfl (by omega) ?_)
      refine WL.c rfl (o_ixB (i := k) TI114 TI82 rfl (show Value.int .i64 (op - 33) = Value.int .i64 ((k : Nat) : Int) from by congr 1; omega) hk ?_)
      refine WL.c rfl (o_ldA TI82 rfl rfl (show Cells _ t2 (0 + k * 2) [st cTab[k].1, st cTab[k].2] from by have h9 := (Cells.of hT2 0 (fcells cTab) (by simp)).sub (k * 2) 2; rw [fcells_at hk] at h9; exact h9) rfl ?_)
      refine WL.u (o_stA TI82 h4 (show _ = Value.agg #[st cTab[k].1, st cTab[k].2] from rfl) rfl rfl (by assumption) rfl ?_)
      intro ws hBs hos hss
      replace hx := hx.trans' hos (fun _ h => h) (fun k hk he => by subst he; omega)
      refine WL.c rfl (o_ash (show _ = Value.bool _ from rfl) ?_)
      refine WL.nil ?_
      refine W.ret ?_
      refine retCT rfl TI82 rfl (show _ = Value.bool _ from rfl) h4 (cells_all (by assumption)) rfl ?_
      exact ⟨by rw [hfm], hx⟩
    · try simp only [decide_eq_true_eq, decide_eq_false_iff_not, Bool.not_eq_true', Bool.not_eq_false', Bool.and_eq_true, Bool.or_eq_true, Bool.and_eq_false_iff, Bool.or_eq_false_iff] at c61
      refine W.seq ?_
      refine W.region ?_
      refine WL.cut (fun e1 w1 => e1 76 = .bool (decide (enc = false ∧ 1 ≤ op ∧ op ≤ 20)) ∧ e1 0 = .int .i64 op ∧ e1 1 = .bool enc ∧ e1 4 = .pointer (some ⟨b4, 0, none⟩) ∧ e1 6 = .slice (some ⟨t1, 0, none⟩) 21 21 ∧ e1 7 = .slice (some ⟨t2, 0, none⟩) 15 15 ∧ w1 = w) ?_ ?_
      · -- region 7
        refine WL.c rfl (o_mvh h1 ?_)
        refine WL.c rfl (o_not' rfl ?_)
        refine WL.c rfl (o_mvh (show _ = Value.bool _ from rfl) ?_)
        refine WL.sp 2 rfl (fun g79 => ?_) (fun g79 => ?_)
        · skip
          refine WL.g rfl (g79) rfl (o_mvh h0 ?_)
          refine WL.g rfl (g79) rfl (o_ge rfl rfl ?_)
          refine WL.c rfl (o_pickA rfl rfl ?_)
          refine WL.c rfl (o_mvh (show _ = Value.bool _ from rfl) ?_)
          refine WL.sp 6 rfl (fun g83 => ?_) (fun g83 => ?_)
          · skip
            refine WL.g rfl (g83) rfl (o_mvh h0 ?_)
            refine WL.g rfl (g83) rfl (o_le rfl rfl ?_)
            refine WL.c rfl (o_pickA rfl rfl ?_)
            refine WL.c rfl (o_ash (show _ = Value.bool _ from rfl) ?_)
            exact WL.nil (⟨congrArg Value.bool (by rw [Bool.eq_iff_iff, decide_eq_true_iff]; first | (simp_all; done) | (simp_all; intros; omega)), h0, h1, h4, h6, h7, rfl⟩)
          · skip
            refine WL.s rfl (g83) rfl ?_
            refine WL.s rfl (g83) rfl ?_
            refine WL.c rfl (o_pickF rfl (g83) ?_)
            refine WL.c rfl (o_ash (show _ = Value.bool _ from rfl) ?_)
            exact WL.nil (⟨congrArg Value.bool (by rw [Bool.eq_iff_iff, decide_eq_true_iff]; first | (simp_all; done) | (simp_all; intros; omega)), h0, h1, h4, h6, h7, rfl⟩)
        · skip
          refine WL.s rfl (g79) rfl ?_
          refine WL.s rfl (g79) rfl ?_
          refine WL.c rfl (o_pickF rfl (g79) ?_)
          refine WL.c rfl (o_mvh (show _ = Value.bool _ from rfl) ?_)
          refine WL.s rfl (rfl) rfl ?_
          refine WL.s rfl (rfl) rfl ?_
          refine WL.c rfl (o_pickF rfl (rfl) ?_)
          refine WL.c rfl (o_ash (show _ = Value.bool _ from rfl) ?_)
          exact WL.nil (⟨congrArg Value.bool (by rw [Bool.eq_iff_iff, decide_eq_true_iff]; first | (simp_all; done) | (simp_all; intros; omega)), h0, h1, h4, h6, h7, rfl⟩)
      rintro e w ⟨h76, h0, h1, h4, h6, h7, hw1⟩
      subst hw1
      refine W.cond h76 (fun c76 => ?_) (fun c76 => ?_)
      · try simp only [decide_eq_true_eq, decide_eq_false_iff_not, Bool.not_eq_true', Bool.not_eq_false', Bool.and_eq_true, Bool.or_eq_true, Bool.and_eq_false_iff, Bool.or_eq_false_iff] at c76
        obtain ⟨k, rfl⟩ : ∃ k : Nat, op = (k : Int) := ⟨op.toNat, by omega⟩
        have hk : k < dTab.length := by show k < 21; omega
        have hfm : fmT enc (k : Int) = (dTab[k].1, dTab[k].2, true) := by unfold fmT fmOf; rw [if_neg c46, if_neg c61, if_pos c76, Int.toNat_natCast, List.getElem?_eq_getElem hk]
        refine W.seq ?_
        refine W.region ?_
        refine WL.c rfl (o_mvh h6 ?_)
        refine WL.c rfl (o_mvh h0 ?_)
        refine WL.c rfl (o_ixB (i := k) TI114 TI82 rfl rfl hk ?_)
        refine WL.c rfl (o_ldA TI82 rfl rfl (show Cells _ t1 (0 + k * 2) [st dTab[k].1, st dTab[k].2] from by have h9 := (Cells.of hT1 0 (fcells dTab) (by simp)).sub (k * 2) 2; rw [fcells_at hk] at h9; exact h9) rfl ?_)
        refine WL.u (o_stA TI82 h4 (show _ = Value.agg #[st dTab[k].1, st dTab[k].2] from rfl) rfl rfl (by assumption) rfl ?_)
        intro ws hBs hos hss
        replace hx := hx.trans' hos (fun _ h => h) (fun k hk he => by subst he; omega)
        refine WL.c rfl (o_ash (show _ = Value.bool _ from rfl) ?_)
        refine WL.nil ?_
        refine W.ret ?_
        refine retCT rfl TI82 rfl (show _ = Value.bool _ from rfl) h4 (cells_all (by assumption)) rfl ?_
        exact ⟨by rw [hfm], hx⟩
      · try simp only [decide_eq_true_eq, decide_eq_false_iff_not, Bool.not_eq_true', Bool.not_eq_false', Bool.and_eq_true, Bool.or_eq_true, Bool.and_eq_false_iff, Bool.or_eq_false_iff] at c76
        refine W.skip ?_
        refine W.seq ?_
        refine W.region ?_
        refine WL.c rfl (o_bldC (cs := [(.string ⟨#[]⟩), (.string ⟨#[]⟩)]) TI82 (Sizes.cons TI9 (Sizes.cons TI9 Sizes.nil)) rfl lnp rfl rfl ?_)
        refine WL.u (o_stA TI82 h4 rfl rfl rfl (by assumption) rfl ?_)
        intro ws hBs hos hss
        replace hx := hx.trans' hos (fun _ h => h) (fun k hk he => by subst he; omega)
        refine WL.c rfl (o_ash (show _ = Value.bool _ from rfl) ?_)
        refine WL.nil ?_
        refine W.ret ?_
        refine retCT rfl TI82 rfl (show _ = Value.bool _ from rfl) h4 (cells_all (by assumption)) rfl ?_
        exact ⟨by have hfm : fmT enc op = ([], [], false) := (by unfold fmT fmOf; rw [if_neg c46, if_neg c61, if_neg c76]); rw [hfm], hx⟩
set_option maxHeartbeats 4000000 in
theorem fits_spec0 (p : Pg) (cv ev_ : Value) (c : UInt8) (x : Int) (w0 : World) (hp : PgR w0 p cv ev_) (hlc : p.code.length ≤ 4611686018427387904) (hle : p.ent.length ≤ 4611686018427387904) : Ca Tryd.prog 71 #[.agg (pgV p cv ev_).toArray, bv c, .int .i64 x] w0 (fun r w' => ∃ b, r = .bool b ∧ (b = true ↔ fitN p.code.length p.ent.length c.toNat x) ∧ Ext w0 w') := by
  have h1 := hp.one.2.2.1
  have h2 := hp.one.2.2.2
  refine Ca.of Tryd.func71 Tryd.ntmps71 rfl rfl ?_
  refine W.seq ?_
  refine W.region ?_
  refine WL.c rfl (o_boxB rfl ?_)
  intro w3 hC3 hx3 hs3
  obtain ⟨b3, hb3⟩ : ∃ b, b = w0.heap.size := ⟨_, rfl⟩
  rw [← hb3] at hC3 ⊢
  replace hC3 : w3.heap[b3]? = some (.cells (pgV p cv ev_).toArray 26 (0, 0)) := hC3
  have hx : Ext w0 w3 := hx3
  refine WL.c rfl (o_ash (show _ = Value.bool _ from rfl) ?_)
  refine WL.nil ?_
  refine W.seq ?_
  refine W.seq ?_
  refine W.region ?_
  refine WL.c rfl (o_mvh (show _ = Value.int _ _ from rfl) ?_)
  refine WL.nil ?_
  refine W.block ?_
  refine W.seq ?_
  refine W.seq ?_
  refine W.region ?_
  refine WL.c rfl (o_eq rfl rfl ?_)
  refine WL.c rfl (o_ash (show _ = Value.bool _ from rfl) ?_)
  refine WL.nil ?_
  refine W.cut (fun e1 w1 => e1 8 = .bool (decide (c.toNat = 107 ∨ c.toNat = 112)) ∧ e1 0 = .agg (pgV p cv ev_).toArray ∧ e1 2 = .int .i64 x ∧ e1 3 = .pointer (some ⟨b3, 0, none⟩) ∧ e1 7 = bv c ∧ w1 = w3) ?_ ?_
  · -- both ways
    refine W.cond rfl (fun c8 => ?_) (fun c8 => ?_)
    · try simp only [decide_eq_true_eq, decide_eq_false_iff_not, Bool.not_eq_true', Bool.not_eq_false', Bool.and_eq_true, Bool.or_eq_true, Bool.and_eq_false_iff, Bool.or_eq_false_iff] at c8
      refine W.skip ?_
      first | exact ⟨congrArg Value.bool (decide_eq_decide.2 (by omega)), rfl, rfl, rfl, rfl, rfl⟩
    · try simp only [decide_eq_true_eq, decide_eq_false_iff_not, Bool.not_eq_true', Bool.not_eq_false', Bool.and_eq_true, Bool.or_eq_true, Bool.and_eq_false_iff, Bool.or_eq_false_iff] at c8
      refine W.region ?_
      refine WL.c rfl (o_eq rfl rfl ?_)
      refine WL.c rfl (o_ash (show _ = Value.bool _ from rfl) ?_)
      refine WL.nil ?_
      first | exact ⟨congrArg Value.bool (decide_eq_decide.2 (by omega)), rfl, rfl, rfl, rfl, rfl⟩
  rintro e w ⟨h8, h0, h2, h3, h7, hw1⟩
  refine W.cond h8 (fun c8 => ?_) (fun c8 => ?_)
  · try simp only [decide_eq_true_eq, decide_eq_false_iff_not, Bool.not_eq_true', Bool.not_eq_false', Bool.and_eq_true, Bool.or_eq_true, Bool.and_eq_false_iff, Bool.or_eq_false_iff] at c8
    refine W.seq ?_
    subst hw1
    refine W.region ?_
    refine WL.c rfl (o_mvh h2 ?_)
    refine WL.c rfl (o_call Tryd.call60 (lc rfl (lc rfl (lc rfl ln))) ((rin_spec _ _ _ _).mono ?_))
    rintro v12 w12 ⟨rfl, rfl⟩
    refine WL.c rfl (o_ash (show _ = Value.bool _ from rfl) ?_)
    refine WL.nil ?_
    refine W.ret ?_
    refine ret1v rfl (show _ = Value.bool _ from rfl) ?_
    refine ⟨_, rfl, ?_, hx⟩
    unfold fitN
    repeat (first | rw [if_neg (by omega)] | rw [if_pos (by omega)])
    first | (simp; done) | (simp; omega) | grind
  · try simp only [decide_eq_true_eq, decide_eq_false_iff_not, Bool.not_eq_true', Bool.not_eq_false', Bool.and_eq_true, Bool.or_eq_true, Bool.and_eq_false_iff, Bool.or_eq_false_iff] at c8
    refine W.seq ?_
    subst hw1
    refine W.region ?_
    refine WL.c rfl (o_eq h7 rfl ?_)
    refine WL.c rfl (o_ash (show _ = Value.bool _ from rfl) ?_)
    refine WL.nil ?_
    refine W.cond rfl (fun c13 => ?_) (fun c13 => ?_)
    · try simp only [decide_eq_true_eq, decide_eq_false_iff_not, Bool.not_eq_true', Bool.not_eq_false', Bool.and_eq_true, Bool.or_eq_true, Bool.and_eq_false_iff, Bool.or_eq_false_iff] at c13
      refine W.seq ?_
      refine W.region ?_
      refine WL.c rfl (o_mvh h2 ?_)
      refine WL.c rfl (o_call Tryd.call60 (lc rfl (lc rfl (lc rfl ln))) ((rin_spec _ _ _ _).mono ?_))
      rintro v16 w16 ⟨rfl, rfl⟩
      refine WL.c rfl (o_ash (show _ = Value.bool _ from rfl) ?_)
      refine WL.nil ?_
      refine W.ret ?_
      refine ret1v rfl (show _ = Value.bool _ from rfl) ?_
      refine ⟨_, rfl, ?_, hx⟩
      unfold fitN
      repeat (first | rw [if_neg (by omega)] | rw [if_pos (by omega)])
      first | (simp; done) | (simp; omega) | grind
    · try simp only [decide_eq_true_eq, decide_eq_false_iff_not, Bool.not_eq_true', Bool.not_eq_false', Bool.and_eq_true, Bool.or_eq_true, Bool.and_eq_false_iff, Bool.or_eq_false_iff] at c13
      refine W.seq ?_
      refine W.region ?_
      refine WL.c rfl (o_eq h7 rfl ?_)
      refine WL.c rfl (o_ash (show _ = Value.bool _ from rfl) ?_)
      refine WL.nil ?_
      refine W.cond rfl (fun c17 => ?_) (fun c17 => ?_)
      · try simp only [decide_eq_true_eq, decide_eq_false_iff_not, Bool.not_eq_true', Bool.not_eq_false', Bool.and_eq_true, Bool.or_eq_true, Bool.and_eq_false_iff, Bool.or_eq_false_iff] at c17
        refine W.seq ?_
        refine W.region ?_
        refine WL.c rfl (o_mvh h2 ?_)
        refine WL.c rfl (o_eq rfl rfl ?_)
        refine WL.c rfl (o_mvh (show _ = Value.bool _ from rfl) ?_)
        refine WL.sp 2 rfl (fun g21 => ?_) (fun g21 => ?_)
        · skip
          refine WL.s rfl (g21) rfl ?_
          refine WL.s rfl (g21) rfl ?_
          refine WL.c rfl (o_pickT rfl (g21) ?_)
          refine WL.c rfl (o_mvh (show _ = Value.bool _ from rfl) ?_)
          refine WL.s rfl (rfl) rfl ?_
          refine WL.s rfl (rfl) rfl ?_
          refine WL.c rfl (o_pickT rfl (rfl) ?_)
          refine WL.c rfl (o_mvh (show _ = Value.bool _ from rfl) ?_)
          refine WL.s rfl (rfl) rfl ?_
          refine WL.s rfl (rfl) rfl ?_
          refine WL.c rfl (o_pickT rfl (rfl) ?_)
          refine WL.c rfl (o_ash (show _ = Value.bool _ from rfl) ?_)
          refine WL.nil ?_
          refine W.ret ?_
          refine ret1v rfl (show _ = Value.bool _ from rfl) ?_
          refine ⟨_, rfl, ?_, hx⟩
          unfold fitN
          repeat (first | rw [if_neg (by omega)] | rw [if_pos (by omega)])
          first | (simp; done) | (simp; omega) | grind
        · skip
          refine WL.g rfl (g21) rfl (o_mvh h2 ?_)
          refine WL.g rfl (g21) rfl (o_eq rfl rfl ?_)
          refine WL.c rfl (o_pickO rfl rfl ?_)
          refine WL.c rfl (o_mvh (show _ = Value.bool _ from rfl) ?_)
          refine WL.sp 6 rfl (fun g25 => ?_) (fun g25 => ?_)
          · skip
            refine WL.s rfl (g25) rfl ?_
            refine WL.s rfl (g25) rfl ?_
            refine WL.c rfl (o_pickT rfl (g25) ?_)
            refine WL.c rfl (o_mvh (show _ = Value.bool _ from rfl) ?_)
            refine WL.s rfl (rfl) rfl ?_
            refine WL.s rfl (rfl) rfl ?_
            refine WL.c rfl (o_pickT rfl (rfl) ?_)
            refine WL.c rfl (o_ash (show _ = Value.bool _ from rfl) ?_)
            refine WL.nil ?_
            refine W.ret ?_
            refine ret1v rfl (show _ = Value.bool _ from rfl) ?_
            refine ⟨_, rfl, ?_, hx⟩
            unfold fitN
            repeat (first | rw [if_neg (by omega)] | rw [if_pos (by omega)])
            first | (simp; done) | (simp; omega) | grind
          · skip
            refine WL.g rfl (g25) rfl (o_mvh h2 ?_)
            refine WL.g rfl (g25) rfl (o_eq rfl rfl ?_)
            refine WL.c rfl (o_pickO rfl rfl ?_)
            refine WL.c rfl (o_mvh (show _ = Value.bool _ from rfl) ?_)
            refine WL.sp 10 rfl (fun g29 => ?_) (fun g29 => ?_)
            · skip
              refine WL.s rfl (g29) rfl ?_
              refine WL.s rfl (g29) rfl ?_
              refine WL.c rfl (o_pickT rfl (g29) ?_)
              refine WL.c rfl (o_ash (show _ = Value.bool _ from rfl) ?_)
              refine WL.nil ?_
              refine W.ret ?_
              refine ret1v rfl (show _ = Value.bool _ from rfl) ?_
              refine ⟨_, rfl, ?_, hx⟩
              unfold fitN
              repeat (first | rw [if_neg (by omega)] | rw [if_pos (by omega)])
              first | (simp; done) | (simp; omega) | grind
            · skip
              refine WL.g rfl (g29) rfl (o_mvh h2 ?_)
              refine WL.g rfl (g29) rfl (o_eq rfl rfl ?_)
              refine WL.c rfl (o_pickO rfl rfl ?_)
              refine WL.c rfl (o_ash (show _ = Value.bool _ from rfl) ?_)
              refine WL.nil ?_
              refine W.ret ?_
              refine ret1v rfl (show _ = Value.bool _ from rfl) ?_
              refine ⟨_, rfl, ?_, hx⟩
              unfold fitN
              repeat (first | rw [if_neg (by omega)] | rw [if_pos (by omega)])
              first | (simp; done) | (simp; omega) | grind
      · try simp only [decide_eq_true_eq, decide_eq_false_iff_not, Bool.not_eq_true', Bool.not_eq_false', Bool.and_eq_true, Bool.or_eq_true, Bool.and_eq_false_iff, Bool.or_eq_false_iff] at c17
        refine W.seq ?_
        refine W.region ?_
        refine WL.c rfl (o_eq h7 rfl ?_)
        refine WL.c rfl (o_ash (show _ = Value.bool _ from rfl) ?_)
        refine WL.nil ?_
        refine W.cond rfl (fun c33 => ?_) (fun c33 => ?_)
        · try simp only [decide_eq_true_eq, decide_eq_false_iff_not, Bool.not_eq_true', Bool.not_eq_false', Bool.and_eq_true, Bool.or_eq_true, Bool.and_eq_false_iff, Bool.or_eq_false_iff] at c33
          refine W.seq ?_
          refine W.region ?_
          refine WL.c rfl (o_mvh h2 ?_)
          refine WL.c rfl (o_call Tryd.call60 (lc rfl (lc rfl (lc rfl ln))) ((rin_spec _ _ _ _).mono ?_))
          rintro v36 w36 ⟨rfl, rfl⟩
          refine WL.c rfl (o_ash (show _ = Value.bool _ from rfl) ?_)
          refine WL.nil ?_
          refine W.ret ?_
          refine ret1v rfl (show _ = Value.bool _ from rfl) ?_
          refine ⟨_, rfl, ?_, hx⟩
          unfold fitN
          repeat (first | rw [if_neg (by omega)] | rw [if_pos (by omega)])
          first | (simp; done) | (simp; omega) | grind
        · try simp only [decide_eq_true_eq, decide_eq_false_iff_not, Bool.not_eq_true', Bool.not_eq_false', Bool.and_eq_true, Bool.or_eq_true, Bool.and_eq_false_iff, Bool.or_eq_false_iff] at c33
          refine W.seq ?_
          refine W.region ?_
          refine WL.c rfl (o_eq h7 rfl ?_)
          refine WL.c rfl (o_ash (show _ = Value.bool _ from rfl) ?_)
          refine WL.nil ?_
          refine W.cond rfl (fun c37 => ?_) (fun c37 => ?_)
          · try simp only [decide_eq_true_eq, decide_eq_false_iff_not, Bool.not_eq_true', Bool.not_eq_false', Bool.and_eq_true, Bool.or_eq_true, Bool.and_eq_false_iff, Bool.or_eq_false_iff] at c37
            refine W.seq ?_
            refine W.region ?_
            refine WL.c rfl (o_mvh h2 ?_)
            refine WL.c rfl (o_call Tryd.call60 (lc rfl (lc rfl (lc rfl ln))) ((rin_spec _ _ _ _).mono ?_))
            rintro v40 w40 ⟨rfl, rfl⟩
            refine WL.c rfl (o_ash (show _ = Value.bool _ from rfl) ?_)
            refine WL.nil ?_
            refine W.ret ?_
            refine ret1v rfl (show _ = Value.bool _ from rfl) ?_
            refine ⟨_, rfl, ?_, hx⟩
            unfold fitN
            repeat (first | rw [if_neg (by omega)] | rw [if_pos (by omega)])
            first | (simp; done) | (simp; omega) | grind
          · try simp only [decide_eq_true_eq, decide_eq_false_iff_not, Bool.not_eq_true', Bool.not_eq_false', Bool.and_eq_true, Bool.or_eq_true, Bool.and_eq_false_iff, Bool.or_eq_false_iff] at c37
            refine W.seq ?_
            refine W.region ?_
            refine WL.c rfl (o_eq h7 rfl ?_)
            refine WL.c rfl (o_ash (show _ = Value.bool _ from rfl) ?_)
            refine WL.nil ?_
            refine W.cond rfl (fun c41 => ?_) (fun c41 => ?_)
            · try simp only [decide_eq_true_eq, decide_eq_false_iff_not, Bool.not_eq_true', Bool.not_eq_false', Bool.and_eq_true, Bool.or_eq_true, Bool.and_eq_false_iff, Bool.or_eq_false_iff] at c41
              refine W.seq ?_
              refine W.region ?_
              refine WL.c rfl (o_mvh h2 ?_)
              refine WL.c rfl (o_call Tryd.call60 (lc rfl (lc rfl (lc rfl ln))) ((rin_spec _ _ _ _).mono ?_))
              rintro v44 w44 ⟨rfl, rfl⟩
              refine WL.c rfl (o_ash (show _ = Value.bool _ from rfl) ?_)
              refine WL.nil ?_
              refine W.ret ?_
              refine ret1v rfl (show _ = Value.bool _ from rfl) ?_
              refine ⟨_, rfl, ?_, hx⟩
              unfold fitN
              repeat (first | rw [if_neg (by omega)] | rw [if_pos (by omega)])
              first | (simp; done) | (simp; omega) | grind
            · try simp only [decide_eq_true_eq, decide_eq_false_iff_not, Bool.not_eq_true', Bool.not_eq_false', Bool.and_eq_true, Bool.or_eq_true, Bool.and_eq_false_iff, Bool.or_eq_false_iff] at c41
              refine W.seq ?_
              refine W.region ?_
              refine WL.c rfl (o_eq h7 rfl ?_)
              refine WL.c rfl (o_ash (show _ = Value.bool _ from rfl) ?_)
              refine WL.nil ?_
              refine W.cond rfl (fun c45 => ?_) (fun c45 => ?_)
              · try simp only [decide_eq_true_eq, decide_eq_false_iff_not, Bool.not_eq_true', Bool.not_eq_false', Bool.and_eq_true, Bool.or_eq_true, Bool.and_eq_false_iff, Bool.or_eq_false_iff] at c45
                refine W.seq ?_
                refine W.region ?_
                refine WL.c rfl (o_mvh h2 ?_)
                refine WL.c rfl (o_call Tryd.call60 (lc rfl (lc rfl (lc rfl ln))) ((rin_spec _ _ _ _).mono ?_))
                rintro v48 w48 ⟨rfl, rfl⟩
                refine WL.c rfl (o_ash (show _ = Value.bool _ from rfl) ?_)
                refine WL.nil ?_
                refine W.ret ?_
                refine ret1v rfl (show _ = Value.bool _ from rfl) ?_
                refine ⟨_, rfl, ?_, hx⟩
                unfold fitN
                repeat (first | rw [if_neg (by omega)] | rw [if_pos (by omega)])
                first | (simp; done) | (simp; omega) | grind
              · try simp only [decide_eq_true_eq, decide_eq_false_iff_not, Bool.not_eq_true', Bool.not_eq_false', Bool.and_eq_true, Bool.or_eq_true, Bool.and_eq_false_iff, Bool.or_eq_false_iff] at c45
                refine W.seq ?_
                refine W.region ?_
                refine WL.c rfl (o_eq h7 rfl ?_)
                refine WL.c rfl (o_ash (show _ = Value.bool _ from rfl) ?_)
                refine WL.nil ?_
                refine W.cond rfl (fun c49 => ?_) (fun c49 => ?_)
                · try simp only [decide_eq_true_eq, decide_eq_false_iff_not, Bool.not_eq_true', Bool.not_eq_false', Bool.and_eq_true, Bool.or_eq_true, Bool.and_eq_false_iff, Bool.or_eq_false_iff] at c49
                  refine W.seq ?_
                  refine W.region ?_
                  refine WL.c rfl (o_mvh h2 ?_)
                  refine WL.c rfl (o_call Tryd.call60 (lc rfl (lc rfl (lc rfl ln))) ((rin_spec _ _ _ _).mono ?_))
                  rintro v52 w52 ⟨rfl, rfl⟩
                  refine WL.c rfl (o_ash (show _ = Value.bool _ from rfl) ?_)
                  refine WL.nil ?_
                  refine W.ret ?_
                  refine ret1v rfl (show _ = Value.bool _ from rfl) ?_
                  refine ⟨_, rfl, ?_, hx⟩
                  unfold fitN
                  repeat (first | rw [if_neg (by omega)] | rw [if_pos (by omega)])
                  first | (simp; done) | (simp; omega) | grind
                · try simp only [decide_eq_true_eq, decide_eq_false_iff_not, Bool.not_eq_true', Bool.not_eq_false', Bool.and_eq_true, Bool.or_eq_true, Bool.and_eq_false_iff, Bool.or_eq_false_iff] at c49
                  refine W.seq ?_
                  refine W.region ?_
                  refine WL.c rfl (o_eq h7 rfl ?_)
                  refine WL.c rfl (o_ash (show _ = Value.bool _ from rfl) ?_)
                  refine WL.nil ?_
                  refine W.cond rfl (fun c53 => ?_) (fun c53 => ?_)
                  · try simp only [decide_eq_true_eq, decide_eq_false_iff_not, Bool.not_eq_true', Bool.not_eq_false', Bool.and_eq_true, Bool.or_eq_true, Bool.and_eq_false_iff, Bool.or_eq_false_iff] at c53
                    refine W.seq ?_
                    refine W.region ?_
                    refine WL.c rfl (o_mvh h2 ?_)
                    refine WL.c rfl (o_call Tryd.call60 (lc rfl (lc rfl (lc rfl ln))) ((rin_spec _ _ _ _).mono ?_))
                    rintro v56 w56 ⟨rfl, rfl⟩
                    refine WL.c rfl (o_ash (show _ = Value.bool _ from rfl) ?_)
                    refine WL.nil ?_
                    refine W.ret ?_
                    refine ret1v rfl (show _ = Value.bool _ from rfl) ?_
                    refine ⟨_, rfl, ?_, hx⟩
                    unfold fitN
                    repeat (first | rw [if_neg (by omega)] | rw [if_pos (by omega)])
                    first | (simp; done) | (simp; omega) | grind
                  · try simp only [decide_eq_true_eq, decide_eq_false_iff_not, Bool.not_eq_true', Bool.not_eq_false', Bool.and_eq_true, Bool.or_eq_true, Bool.and_eq_false_iff, Bool.or_eq_false_iff] at c53
                    refine W.seq ?_
                    refine W.region ?_
                    refine WL.c rfl (o_eq h7 rfl ?_)
                    refine WL.c rfl (o_ash (show _ = Value.bool _ from rfl) ?_)
                    refine WL.nil ?_
                    refine W.cond rfl (fun c57 => ?_) (fun c57 => ?_)
                    · try simp only [decide_eq_true_eq, decide_eq_false_iff_not, Bool.not_eq_true', Bool.not_eq_false', Bool.and_eq_true, Bool.or_eq_true, Bool.and_eq_false_iff, Bool.or_eq_false_iff] at c57
                      refine W.seq ?_
                      refine W.region ?_
                      refine WL.c rfl (o_mvh h2 ?_)
                      refine WL.c rfl (o_call Tryd.call60 (lc rfl (lc rfl (lc rfl ln))) ((rin_spec _ _ _ _).mono ?_))
                      rintro v60 w60 ⟨rfl, rfl⟩
                      refine WL.c rfl (o_ash (show _ = Value.bool _ from rfl) ?_)
                      refine WL.nil ?_
                      refine W.ret ?_
                      refine ret1v rfl (show _ = Value.bool _ from rfl) ?_
                      refine ⟨_, rfl, ?_, hx⟩
                      unfold fitN
                      repeat (first | rw [if_neg (by omega)] | rw [if_pos (by omega)])
                      first | (simp; done) | (simp; omega) | grind
                    · try simp only [decide_eq_true_eq, decide_eq_false_iff_not, Bool.not_eq_true', Bool.not_eq_false', Bool.and_eq_true, Bool.or_eq_true, Bool.and_eq_false_iff, Bool.or_eq_false_iff] at c57
                      refine W.seq ?_
                      refine W.region ?_
                      refine WL.c rfl (o_eq h7 rfl ?_)
                      refine WL.c rfl (o_ash (show _ = Value.bool _ from rfl) ?_)
                      refine WL.nil ?_
                      refine W.cond rfl (fun c61 => ?_) (fun c61 => ?_)
                      · try simp only [decide_eq_true_eq, decide_eq_false_iff_not, Bool.not_eq_true', Bool.not_eq_false', Bool.and_eq_true, Bool.or_eq_true, Bool.and_eq_false_iff, Bool.or_eq_false_iff] at c61
                        refine W.seq ?_
                        refine W.region ?_
                        refine WL.c rfl (o_mvh h2 ?_)
                        refine WL.c rfl (o_call Tryd.call60 (lc rfl (lc rfl (lc rfl ln))) ((rin_spec _ _ _ _).mono ?_))
                        rintro v64 w64 ⟨rfl, rfl⟩
                        refine WL.c rfl (o_ash (show _ = Value.bool _ from rfl) ?_)
                        refine WL.nil ?_
                        refine W.ret ?_
                        refine ret1v rfl (show _ = Value.bool _ from rfl) ?_
                        refine ⟨_, rfl, ?_, hx⟩
                        unfold fitN
                        repeat (first | rw [if_neg (by omega)] | rw [if_pos (by omega)])
                        first | (simp; done) | (simp; omega) | grind
                      · try simp only [decide_eq_true_eq, decide_eq_false_iff_not, Bool.not_eq_true', Bool.not_eq_false', Bool.and_eq_true, Bool.or_eq_true, Bool.and_eq_false_iff, Bool.or_eq_false_iff] at c61
                        refine W.seq ?_
                        refine W.region ?_
                        refine WL.c rfl (o_eq h7 rfl ?_)
                        refine WL.c rfl (o_ash (show _ = Value.bool _ from rfl) ?_)
                        refine WL.nil ?_
                        refine W.cond rfl (fun c65 => ?_) (fun c65 => ?_)
                        · try simp only [decide_eq_true_eq, decide_eq_false_iff_not, Bool.not_eq_true', Bool.not_eq_false', Bool.and_eq_true, Bool.or_eq_true, Bool.and_eq_false_iff, Bool.or_eq_false_iff] at c65
                          refine W.seq ?_
                          refine W.region ?_
                          refine WL.c rfl (o_mvh h2 ?_)
                          refine WL.c rfl (o_eq rfl rfl ?_)
                          refine WL.c rfl (o_mvh (show _ = Value.bool _ from rfl) ?_)
                          refine WL.sp 2 rfl (fun g69 => ?_) (fun g69 => ?_)
                          · skip
                            refine WL.s rfl (g69) rfl ?_
                            refine WL.s rfl (g69) rfl ?_
                            refine WL.c rfl (o_pickT rfl (g69) ?_)
                            refine WL.c rfl (o_ash (show _ = Value.bool _ from rfl) ?_)
                            refine WL.nil ?_
                            refine W.ret ?_
                            refine ret1v rfl (show _ = Value.bool _ from rfl) ?_
                            refine ⟨_, rfl, ?_, hx⟩
                            unfold fitN
                            repeat (first | rw [if_neg (by omega)] | rw [if_pos (by omega)])
                            first | (simp; done) | (simp; omega) | grind
                          · skip
                            refine WL.g rfl (g69) rfl (o_mvh h2 ?_)
                            refine WL.g rfl (g69) rfl (o_call Tryd.call60 (lc rfl (lc rfl (lc rfl ln))) ((rin_spec _ _ _ _).mono ?_))
                            rintro v71 w71 ⟨rfl, rfl⟩
                            refine WL.c rfl (o_pickO rfl rfl ?_)
                            refine WL.c rfl (o_ash (show _ = Value.bool _ from rfl) ?_)
                            refine WL.nil ?_
                            refine W.ret ?_
                            refine ret1v rfl (show _ = Value.bool _ from rfl) ?_
                            refine ⟨_, rfl, ?_, hx⟩
                            unfold fitN
                            repeat (first | rw [if_neg (by omega)] | rw [if_pos (by omega)])
                            first | (simp; done) | (simp; omega) | grind
                        · try simp only [decide_eq_true_eq, decide_eq_false_iff_not, Bool.not_eq_true', Bool.not_eq_false', Bool.and_eq_true, Bool.or_eq_true, Bool.and_eq_false_iff, Bool.or_eq_false_iff] at c65
                          refine W.seq ?_
                          refine W.region ?_
                          refine WL.c rfl (o_eq h7 rfl ?_)
                          refine WL.c rfl (o_ash (show _ = Value.bool _ from rfl) ?_)
                          refine WL.nil ?_
                          refine W.cond rfl (fun c73 => ?_) (fun c73 => ?_)
                          · try simp only [decide_eq_true_eq, decide_eq_false_iff_not, Bool.not_eq_true', Bool.not_eq_false', Bool.and_eq_true, Bool.or_eq_true, Bool.and_eq_false_iff, Bool.or_eq_false_iff] at c73
                            refine W.seq ?_
                            refine W.region ?_
                            refine WL.c rfl (o_mvh h2 ?_)
                            refine WL.c rfl (o_call Tryd.call60 (lc rfl (lc rfl (lc rfl ln))) ((rin_spec _ _ _ _).mono ?_))
                            rintro v76 w76 ⟨rfl, rfl⟩
                            refine WL.c rfl (o_ash (show _ = Value.bool _ from rfl) ?_)
                            refine WL.nil ?_
                            refine W.ret ?_
                            refine ret1v rfl (show _ = Value.bool _ from rfl) ?_
                            refine ⟨_, rfl, ?_, hx⟩
                            unfold fitN
                            repeat (first | rw [if_neg (by omega)] | rw [if_pos (by omega)])
                            first | (simp; done) | (simp; omega) | grind
                          · try simp only [decide_eq_true_eq, decide_eq_false_iff_not, Bool.not_eq_true', Bool.not_eq_false', Bool.and_eq_true, Bool.or_eq_true, Bool.and_eq_false_iff, Bool.or_eq_false_iff] at c73
                            refine W.seq ?_
                            refine W.region ?_
                            refine WL.c rfl (o_eq h7 rfl ?_)
                            refine WL.c rfl (o_ash (show _ = Value.bool _ from rfl) ?_)
                            refine WL.nil ?_
                            refine W.cond rfl (fun c77 => ?_) (fun c77 => ?_)
                            · try simp only [decide_eq_true_eq, decide_eq_false_iff_not, Bool.not_eq_true', Bool.not_eq_false', Bool.and_eq_true, Bool.or_eq_true, Bool.and_eq_false_iff, Bool.or_eq_false_iff] at c77
                              refine W.seq ?_
                              refine W.region ?_
                              refine WL.c rfl (o_mvh h2 ?_)
                              refine WL.c rfl (o_fa 1 TI26 rfl TI23 rfl h3 ?_)
                              refine WL.c rfl (o_ld TI23 rfl rfl (cell_of hC3 rfl) ?_)
                              refine WL.c rfl (o_lenR TI23 rfl (hp.code.ext hx) ?_)
                              refine WL.c rfl (o_subi rfl rfl (by omega) ?_)
                              refine WL.c rfl (o_call Tryd.call60 (lc rfl (lc rfl (lc rfl ln))) ((rin_spec _ _ _ _).mono ?_))
                              rintro v84 w84 ⟨rfl, rfl⟩
                              refine WL.c rfl (o_ash (show _ = Value.bool _ from rfl) ?_)
                              refine WL.nil ?_
                              refine W.ret ?_
                              refine ret1v rfl (show _ = Value.bool _ from rfl) ?_
                              refine ⟨_, rfl, ?_, hx⟩
                              unfold fitN
                              repeat (first | rw [if_neg (by omega)] | rw [if_pos (by omega)])
                              first | (simp; done) | (simp; omega) | grind
                            · try simp only [decide_eq_true_eq, decide_eq_false_iff_not, Bool.not_eq_true', Bool.not_eq_false', Bool.and_eq_true, Bool.or_eq_true, Bool.and_eq_false_iff, Bool.or_eq_false_iff] at c77
                              refine W.seq ?_
                              refine W.region ?_
                              refine WL.c rfl (o_eq h7 rfl ?_)
                              refine WL.c rfl (o_ash (show _ = Value.bool _ from rfl) ?_)
                              refine WL.nil ?_
                              refine W.cond rfl (fun c85 => ?_) (fun c85 => ?_)
                              · try simp only [decide_eq_true_eq, decide_eq_false_iff_not, Bool.not_eq_true', Bool.not_eq_false', Bool.and_eq_true, Bool.or_eq_true, Bool.and_eq_false_iff, Bool.or_eq_false_iff] at c85
                                refine W.seq ?_
                                refine W.region ?_
                                refine WL.c rfl (o_mvh h2 ?_)
                                refine WL.c rfl (o_fa 2 TI26 rfl TI24 rfl h3 ?_)
                                refine WL.c rfl (o_ld TI24 rfl rfl (cell_of hC3 rfl) ?_)
                                refine WL.c rfl (o_lenR TI24 rfl (hp.ent.ext hx) ?_)
                                refine WL.c rfl (o_subi rfl rfl (by omega) ?_)
                                refine WL.c rfl (o_call Tryd.call60 (lc rfl (lc rfl (lc rfl ln))) ((rin_spec _ _ _ _).mono ?_))
                                rintro v92 w92 ⟨rfl, rfl⟩
                                refine WL.c rfl (o_ash (show _ = Value.bool _ from rfl) ?_)
                                refine WL.nil ?_
                                refine W.ret ?_
                                refine ret1v rfl (show _ = Value.bool _ from rfl) ?_
                                refine ⟨_, rfl, ?_, hx⟩
                                unfold fitN
                                repeat (first | rw [if_neg (by omega)] | rw [if_pos (by omega)])
                                first | (simp; done) | (simp; omega) | grind
                              · try simp only [decide_eq_true_eq, decide_eq_false_iff_not, Bool.not_eq_true', Bool.not_eq_false', Bool.and_eq_true, Bool.or_eq_true, Bool.and_eq_false_iff, Bool.or_eq_false_iff] at c85
                                refine W.skip ?_
                                refine W.seq ?_
                                refine W.region ?_
                                refine WL.c rfl (o_mvh h2 ?_)
                                refine WL.c rfl (o_eq rfl rfl ?_)
                                refine WL.c rfl (o_ash (show _ = Value.bool _ from rfl) ?_)
                                refine WL.nil ?_
                                refine W.ret ?_
                                refine ret1v rfl (show _ = Value.bool _ from rfl) ?_
                                refine ⟨_, rfl, ?_, hx⟩
                                unfold fitN
                                repeat (first | rw [if_neg (by omega)] | rw [if_pos (by omega)])
                                first | (simp; done) | (simp; omega) | grind

theorem fits_yes (p : Pg) (cv ev_ : Value) (c : UInt8) (x : Int) (w0 : World) (hp : PgR w0 p cv ev_) (hlc : p.code.length ≤ 4611686018427387904) (hle : p.ent.length ≤ 4611686018427387904) (hc : c ∈ lets) (h : fitP p.code.length p.ent.length c x) : Ca Tryd.prog 71 #[.agg (pgV p cv ev_).toArray, bv c, .int .i64 x] w0 (fun r w' => r = .bool true ∧ Ext w0 w') :=
  (fits_spec0 p cv ev_ c x w0 hp hlc hle).mono fun r w' ⟨b, h1, h2, h3⟩ => ⟨by rw [h1, h2.2 ((fitN_eq hc x).2 h)], h3⟩
theorem fits_no (p : Pg) (cv ev_ : Value) (c : UInt8) (x : Int) (w0 : World) (hp : PgR w0 p cv ev_) (hlc : p.code.length ≤ 4611686018427387904) (hle : p.ent.length ≤ 4611686018427387904) (hc : c ∈ lets) (h : ¬ fitP p.code.length p.ent.length c x) : Ca Tryd.prog 71 #[.agg (pgV p cv ev_).toArray, bv c, .int .i64 x] w0 (fun r w' => r = .bool false ∧ Ext w0 w') :=
  (fits_spec0 p cv ev_ c x w0 hp hlc hle).mono fun r w' ⟨b, h1, h2, h3⟩ => ⟨by
    cases b with
    | false => exact h1
    | true => exact absurd ((fitN_eq hc x).1 (h2.1 rfl)) h, h3⟩

end Go.Proofs.YthlbhnefldaoiaaDoor

set_option linter.unusedSimpArgs false
set_option linter.unusedVariables false
set_option maxRecDepth 100000
namespace Go.Proofs.YthlbhnefldaoiaaDoor
open Go Go.Vc Go.RowKit Go.Proofs

theorem ins_at {w : World} {b o n c : Nat} {L : List Ins} (h : Sl w 4 (.slice (some ⟨b, o, none⟩) n c) L.length (inss L)) {k : Nat} (hk : k < L.length) : Cells w b (o + k * 4) (insV L[k]) := by
  obtain ⟨b', o', c', hv, hc⟩ := Sl.ins h hk
  cases hv
  exact hc
theorem ArmsP.tg {L : List Ins} {i : Nat} {n : Int} (h : ArmsP L i n) {j k : Nat} (hj : i + j < L.length) (hk : i + k < L.length) (h1 : 1 ≤ j) (h2 : j < k) (h3 : (k : Int) ≤ n) : L[i + j].a ≠ L[i + k].a := by
  have := h.tags j k h1 h2 h3
  rwa [getD_at hj, getD_at hk] at this

set_option maxHeartbeats 8000000 in
theorem rarms_spec (p : Pg) (cv ev_ : Value) (i : Nat) (w0 : World) (hp : PgR w0 p cv ev_) (hlc : p.code.length ≤ 1048576) (hi : i < p.code.length) (ha : -1 ≤ p.code[i].a ∧ p.code[i].a ≤ 64) : Ca Tryd.prog 42 #[.agg (pgV p cv ev_).toArray, .int .i64 (i : Int)] w0 (fun r w' => ∃ b, r = .bool b ∧ (b = true ↔ ArmsP p.code i p.code[i].a) ∧ Ext w0 w') := by
  obtain ⟨cb, co, cc, hcv, hcc⟩ := Sl.ins hp.code hi
  have hS := hp.code
  rw [hcv] at hS
  obtain ⟨z, hz⟩ : ∃ z, z = p.code[i].a := ⟨_, rfl⟩
  rw [← hz] at ha ⊢
  have hpo := hp.one.2.2
  refine Ca.of Tryd.func42 Tryd.ntmps42 rfl rfl ?_
  refine W.seq ?_
  refine W.region ?_
  refine WL.c rfl (o_boxB rfl ?_)
  intro w2 hC2 hx2 hs2
  obtain ⟨b2, hb2⟩ : ∃ b, b = w0.heap.size := ⟨_, rfl⟩
  rw [← hb2] at hC2 ⊢
  replace hC2 : w2.heap[b2]? = some (.cells (pgV p cv ev_).toArray 26 (0, 0)) := hC2
  have hx : Ext w0 w2 := hx2
  refine WL.c rfl (o_ash (show _ = Value.bool _ from rfl) ?_)
  refine WL.nil ?_
  refine W.seq ?_
  refine W.region ?_
  refine WL.c rfl (o_fa 1 TI26 rfl TI23 rfl rfl ?_)
  refine WL.c rfl (o_ld TI23 rfl rfl (cell_of hC2 rfl) ?_)
  refine WL.c rfl (o_mvh (show _ = Value.int _ _ from rfl) ?_)
  refine WL.c rfl (o_ixB (i := i) TI23 TI28 hcv rfl hi ?_)
  refine WL.c rfl (o_fa 1 TI28 rfl TI3 rfl rfl ?_)
  refine WL.c rfl (o_ld TI3 rfl rfl (show _ = some (Value.int .i64 z) from by rw [hz]; exact (Cells.only hcc hx (fun h => h)) 1 _ rfl) ?_)
  refine WL.c rfl (o_ash (show _ = Value.int _ _ from rfl) ?_)
  refine WL.nil ?_
  refine W.seq ?_
  refine W.seq ?_
  refine W.region ?_
  refine WL.c rfl (o_mvh (show _ = Value.int _ _ from rfl) ?_)
  refine WL.c rfl (o_fa 1 TI26 rfl TI23 rfl rfl ?_)
  refine WL.c rfl (o_ld TI23 rfl rfl (cell_of hC2 rfl) ?_)
  refine WL.c rfl (o_lenR TI23 rfl (hp.code.ext hx) ?_)
  refine WL.c rfl (o_subi rfl rfl (by omega) ?_)
  refine WL.c rfl (o_mvh (show _ = Value.int _ _ from rfl) ?_)
  refine WL.c rfl (o_subi rfl rfl (by omega) ?_)
  refine WL.c rfl (o_gt rfl rfl ?_)
  refine WL.nil ?_
  refine W.cond rfl (fun c21 => ?_) (fun c21 => ?_)
  · try simp only [decide_eq_true_eq, decide_eq_false_iff_not, Bool.not_eq_true', Bool.not_eq_false', Bool.and_eq_true, Bool.or_eq_true, Bool.and_eq_false_iff, Bool.or_eq_false_iff] at c21
    refine W.seq ?_
    refine W.region ?_
    refine WL.c rfl (o_ash (show _ = Value.bool _ from rfl) ?_)
    refine WL.nil ?_
    refine W.ret ?_
    refine ret1v rfl (show _ = Value.bool _ from rfl) ?_
    exact ⟨false, rfl, ⟨fun h => (by cases h), fun h => absurd h.room (by omega)⟩, hx⟩
  · try simp only [decide_eq_true_eq, decide_eq_false_iff_not, Bool.not_eq_true', Bool.not_eq_false', Bool.and_eq_true, Bool.or_eq_true, Bool.and_eq_false_iff, Bool.or_eq_false_iff] at c21
    have hrm : (i : Int) + z < p.code.length := by omega
    refine W.skip ?_
    refine W.seq ?_
    refine W.seq ?_
    refine W.region ?_
    refine WL.c rfl (o_ash (show _ = Value.int _ _ from rfl) ?_)
    refine WL.nil ?_
    refine W.block ?_
    refine W.loop (fun e w => ∃ k : Nat, 1 ≤ k ∧ ((k : Int) ≤ z + 1 ∨ k = 1) ∧ e 1 = .int .i64 (i : Int) ∧ e 2 = .pointer (some ⟨b2, 0, none⟩) ∧ e 5 = .int .i64 z ∧ e 6 = .int .i64 (k : Int) ∧ (∀ j, j + 1 < k → AR p.code i j) ∧ w.heap[b2]? = some (.cells (pgV p cv ev_).toArray 26 (0, 0)) ∧ Ext w0 w) (fun e w => (z + 2 - intOf (e 6)).toNat) ?_ ?_
    · exact ⟨1, Nat.le_refl _, by omega, rfl, rfl, rfl, rfl, fun j h => absurd h (by omega), hC2, hx⟩
    rintro e w ⟨k, hk1, hk, h1, h2, h5, h6, hall, hC2, hx⟩
    have hm6 := h6
    refine W.seq ?_
    refine W.seq ?_
    refine W.region ?_
    refine WL.c rfl (o_mvh h6 ?_)
    refine WL.c rfl (o_mvh h5 ?_)
    refine WL.c rfl (o_le rfl rfl ?_)
    refine WL.nil ?_
    refine W.cond rfl (fun c24 => ?_) (fun c24 => ?_)
    · try simp only [decide_eq_true_eq, decide_eq_false_iff_not, Bool.not_eq_true', Bool.not_eq_false', Bool.and_eq_true, Bool.or_eq_true, Bool.and_eq_false_iff, Bool.or_eq_false_iff] at c24
      have hik : i + k < p.code.length := by omega
      refine W.skip ?_
      refine W.seq ?_
      refine W.block ?_
      refine W.seq ?_
      refine W.seq ?_
      refine W.region ?_
      refine WL.c rfl (o_fa 1 TI26 rfl TI23 rfl h2 ?_)
      refine WL.c rfl (o_ld TI23 rfl rfl (cell_of hC2 rfl) ?_)
      refine WL.c rfl (o_mvh h1 ?_)
      refine WL.c rfl (o_mvh h6 ?_)
      refine WL.c rfl (o_addi rfl rfl (by omega) ?_)
      refine WL.c rfl (o_ixB (i := i + k) TI23 TI28 hcv rfl hik ?_)
      refine WL.c rfl (o_fa 0 TI28 rfl TI3 rfl rfl ?_)
      refine WL.c rfl (o_ld TI3 rfl rfl (show _ = some (Value.int .i64 p.code[i + k].op) from (Cells.only (ins_at hS hik) hx (fun h => h)) 0 _ rfl) ?_)
      refine WL.c rfl (o_ne rfl rfl ?_)
      refine WL.nil ?_
      refine W.cond rfl (fun c35 => ?_) (fun c35 => ?_)
      · try simp only [decide_eq_true_eq, decide_eq_false_iff_not, Bool.not_eq_true', Bool.not_eq_false', Bool.and_eq_true, Bool.or_eq_true, Bool.and_eq_false_iff, Bool.or_eq_false_iff] at c35
        refine W.seq ?_
        refine W.region ?_
        refine WL.c rfl (o_ash (show _ = Value.bool _ from rfl) ?_)
        refine WL.nil ?_
        refine W.ret ?_
        refine ret1v rfl (show _ = Value.bool _ from rfl) ?_
        exact ⟨false, rfl, ⟨fun h => (by cases h), fun h => absurd (h.arm k hk1 (by omega)) (by rw [getD_at hik]; simpa using c35)⟩, hx⟩
      · try simp only [decide_eq_true_eq, decide_eq_false_iff_not, Bool.not_eq_true', Bool.not_eq_false', Bool.and_eq_true, Bool.or_eq_true, Bool.and_eq_false_iff, Bool.or_eq_false_iff] at c35
        refine W.skip ?_
        refine W.seq ?_
        refine W.region ?_
        refine WL.c rfl (o_ash (show _ = Value.int _ _ from rfl) ?_)
        refine WL.nil ?_
        refine W.block ?_
        refine W.loop (fun e w => ∃ j : Nat, 1 ≤ j ∧ j ≤ k ∧ e 1 = .int .i64 (i : Int) ∧ e 2 = .pointer (some ⟨b2, 0, none⟩) ∧ e 5 = .int .i64 z ∧ e 6 = .int .i64 (k : Int) ∧ e 7 = .int .i64 (j : Int) ∧ (∀ q, 1 ≤ q → q < j → (p.code.getD (i + q) in0).a ≠ (p.code.getD (i + k) in0).a) ∧ w.heap[b2]? = some (.cells (pgV p cv ev_).toArray 26 (0, 0)) ∧ Ext w0 w) (fun e w => k - (intOf (e 7)).toNat) ?_ ?_
        · exact ⟨1, Nat.le_refl _, hk1, h1, h2, h5, h6, rfl, fun q h9 h8 => absurd h8 (by omega), hC2, hx⟩
        rintro e w ⟨j, hj1, hj, h1, h2, h5, h6, h7, hq, hC2, hx⟩
        have hm7 := h7
        refine W.seq ?_
        refine W.seq ?_
        refine W.region ?_
        refine WL.c rfl (o_mvh h7 ?_)
        refine WL.c rfl (o_mvh h6 ?_)
        refine WL.c rfl (o_lt rfl rfl ?_)
        refine WL.nil ?_
        refine W.cond rfl (fun c38 => ?_) (fun c38 => ?_)
        · try simp only [decide_eq_true_eq, decide_eq_false_iff_not, Bool.not_eq_true', Bool.not_eq_false', Bool.and_eq_true, Bool.or_eq_true, Bool.and_eq_false_iff, Bool.or_eq_false_iff] at c38
          have hjk : j < k := by omega
          have hij : i + j < p.code.length := by omega
          refine W.skip ?_
          refine W.seq ?_
          refine W.block ?_
          refine W.seq ?_
          refine W.quiet rfl (by kernel_rfl) ?_
          refine WQ.c rfl ((QO.o rfl fun _ => o_fa 1 TI26 rfl TI23 rfl h2 ⟨rfl, rfl⟩)) ?_
          refine WQ.c rfl ((QO.o rfl fun _ => o_ld TI23 rfl rfl (cell_of ((Only.drewN _ _).blk hC2 (fun h => h)) rfl) ⟨rfl, rfl⟩)) ?_
          refine WQ.c rfl ((QO.o rfl fun _ => o_mvh h1 ⟨rfl, rfl⟩)) ?_
          refine WQ.c rfl ((QO.o rfl fun _ => o_mvh h7 ⟨rfl, rfl⟩)) ?_
          refine WQ.c rfl ((QO.o rfl fun _ => o_addi rfl rfl (by omega) ⟨rfl, rfl⟩)) ?_
          refine WQ.c rfl ((QO.o rfl fun _ => o_ixB (i := i + j) TI23 TI28 hcv rfl hij ⟨rfl, rfl⟩)) ?_
          refine WQ.c rfl ((QO.o rfl fun _ => o_fa 1 TI28 rfl TI3 rfl rfl ⟨rfl, rfl⟩)) ?_
          refine WQ.c rfl ((QO.o rfl fun _ => o_ld TI3 rfl rfl (show _ = some (Value.int .i64 p.code[i + j].a) from (Cells.only (ins_at hS hij) (hx.tr (Only.drewN _ _)) (fun h => h)) 1 _ rfl) ⟨rfl, rfl⟩)) ?_
          refine WQ.c rfl ((QO.o rfl fun _ => o_fa 1 TI26 rfl TI23 rfl h2 ⟨rfl, rfl⟩)) ?_
          refine WQ.c rfl ((QO.o rfl fun _ => o_ld TI23 rfl rfl (cell_of ((Only.drewN _ _).blk hC2 (fun h => h)) rfl) ⟨rfl, rfl⟩)) ?_
          refine WQ.c rfl ((QO.o rfl fun _ => o_mvh h1 ⟨rfl, rfl⟩)) ?_
          refine WQ.c rfl ((QO.o rfl fun _ => o_mvh h6 ⟨rfl, rfl⟩)) ?_
          refine WQ.c rfl ((QO.o rfl fun _ => o_addi rfl rfl (by omega) ⟨rfl, rfl⟩)) ?_
          refine WQ.c rfl ((QO.o rfl fun _ => o_ixB (i := i + k) TI23 TI28 hcv rfl hik ⟨rfl, rfl⟩)) ?_
          refine WQ.c rfl ((QO.o rfl fun _ => o_fa 1 TI28 rfl TI3 rfl rfl ⟨rfl, rfl⟩)) ?_
          refine WQ.c rfl ((QO.o rfl fun _ => o_ld TI3 rfl rfl (show _ = some (Value.int .i64 p.code[i + k].a) from (Cells.only (ins_at hS hik) (hx.tr (Only.drewN _ _)) (fun h => h)) 1 _ rfl) ⟨rfl, rfl⟩)) ?_
          refine WQ.c rfl ((QO.o rfl fun _ => o_eq rfl rfl ⟨rfl, rfl⟩)) ?_
          refine WQ.nil ?_
          intro nq
          have hxq := Only.drewN w nq
          replace hx := hx.tr hxq
          replace hC2 := hxq.blk hC2 (fun h => h)
          refine W.cond rfl (fun c57 => ?_) (fun c57 => ?_)
          · try simp only [decide_eq_true_eq, decide_eq_false_iff_not, Bool.not_eq_true', Bool.not_eq_false', Bool.and_eq_true, Bool.or_eq_true, Bool.and_eq_false_iff, Bool.or_eq_false_iff] at c57
            refine W.seq ?_
            refine W.region ?_
            refine WL.c rfl (o_ash (show _ = Value.bool _ from rfl) ?_)
            refine WL.nil ?_
            refine W.ret ?_
            refine ret1v rfl (show _ = Value.bool _ from rfl) ?_
            exact ⟨false, rfl, ⟨fun h => (by cases h), fun h => absurd (by simpa using c57) (h.tg hij hik hj1 hjk (by omega))⟩, hx⟩
          · try simp only [decide_eq_true_eq, decide_eq_false_iff_not, Bool.not_eq_true', Bool.not_eq_false', Bool.and_eq_true, Bool.or_eq_true, Bool.and_eq_false_iff, Bool.or_eq_false_iff] at c57
            refine W.skip ?_
            refine W.region ?_
            refine WL.c rfl (o_mvh h7 ?_)
            refine WL.c rfl (o_addi rfl rfl (by omega) ?_)
            refine WL.c rfl (o_ash (show _ = Value.int _ _ from rfl) ?_)
            refine WL.nil ?_
            refine ⟨⟨j + 1, by omega, by omega, h1, h2, h5, h6, rfl, fun q h9 h8 => ?_, hC2, hx⟩, ?_⟩
            · rcases Nat.lt_or_ge q j with h | h
              · exact hq q h9 h
              · rw [show q = j by omega, getD_at hij, getD_at hik]; simpa using c57
            show k - ((j : Int) + 1).toNat < _
            rw [hm7]; simp [intOf]; omega
        · try simp only [decide_eq_true_eq, decide_eq_false_iff_not, Bool.not_eq_true', Bool.not_eq_false', Bool.and_eq_true, Bool.or_eq_true, Bool.and_eq_false_iff, Bool.or_eq_false_iff] at c38
          have hjk : j = k := by omega
          have htg : ∀ q, 1 ≤ q → q < k → (p.code.getD (i + q) in0).a ≠ (p.code.getD (i + k) in0).a := fun q a b => hq q a (by omega)
          refine W.exit ?_
          refine W.region ?_
          refine WL.c rfl (o_mvh h6 ?_)
          refine WL.c rfl (o_addi rfl rfl (by omega) ?_)
          refine WL.c rfl (o_ash (show _ = Value.int _ _ from rfl) ?_)
          refine WL.nil ?_
          refine ⟨⟨k + 1, by omega, by omega, h1, h2, h5, rfl, fun j hj => ?_, hC2, hx⟩, ?_⟩
          · rcases Nat.lt_or_ge (j + 1) k with h | h
            · exact hall j h
            · rw [show j = k - 1 by omega]
              refine ⟨by rw [show i + 1 + (k - 1) = i + k by omega, getD_at hik]; simpa using c35, fun q hq => ?_⟩
              have := htg (q + 1) (by omega) (by omega)
              rwa [show i + (q + 1) = i + 1 + q by omega, show i + k = i + 1 + (k - 1) by omega] at this
          show (z + 2 - ((k : Int) + 1)).toNat < _
          rw [hm6]; simp [intOf]; omega
    · try simp only [decide_eq_true_eq, decide_eq_false_iff_not, Bool.not_eq_true', Bool.not_eq_false', Bool.and_eq_true, Bool.or_eq_true, Bool.and_eq_false_iff, Bool.or_eq_false_iff] at c24
      refine W.exit ?_
      refine W.seq ?_
      refine W.region ?_
      refine WL.c rfl (o_ash (show _ = Value.bool _ from rfl) ?_)
      refine WL.nil ?_
      refine W.ret ?_
      refine ret1v rfl (show _ = Value.bool _ from rfl) ?_
      exact ⟨true, rfl, ⟨fun _ => arms_iff.2 ⟨hrm, fun j hj => hall j (by omega)⟩, fun _ => rfl⟩, hx⟩

theorem fmT_some {enc : Bool} {op : Int} {nm : List UInt8} {l0 l1 l2 : UInt8} (h : fmOf enc op = some (nm, [l0, l1, l2])) : fmT enc op = (nm, [l0, l1, l2], true) := by rw [fmT, h]
theorem z1_at {w : World} {v : Value} {l : List Int} (h : Sl w 1 v l.length (zs l)) {k : Nat} (hk : k < l.length) : ∃ b o c, v = .slice (some ⟨b, o, none⟩) l.length c ∧ w.cell? ⟨b, o + k * 1, none⟩ = some (.int .i64 l[k]) := by
  rcases h.val with ⟨h0, -⟩ | ⟨b, o, c, hv, -, hc⟩
  · omega
  · exact ⟨b, o, c, hv, by rw [Nat.mul_one]; exact hc k _ (zs_at hk)⟩
theorem fmT_none {enc : Bool} {op : Int} (h : fmOf enc op = none) : fmT enc op = ([], [], false) := by rw [fmT, h]

set_option maxHeartbeats 8000000 in
theorem formed_spec (p : Pg) (cv ev_ : Value) (i : Nat) (w0 : World) (hp : PgR w0 p cv ev_) (hlc : p.code.length ≤ 1048576) (hle : p.ent.length ≤ 1048576) (hi : i < p.code.length) : Ca Tryd.prog 59 #[.agg (pgV p cv ev_).toArray, .int .i64 (i : Int)] w0 (fun r w' => ∃ b, r = .bool b ∧ (b = true ↔ OkI p i) ∧ Ext w0 w') := by
  obtain ⟨cb, co, cc, hcv, hcc⟩ := Sl.ins hp.code hi
  subst hcv
  obtain ⟨cv, hcv⟩ : ∃ cv, cv = Value.slice (some ⟨cb, co, none⟩) p.code.length cc := ⟨_, rfl⟩
  obtain ⟨x, hx0⟩ : ∃ x, x = p.code[i] := ⟨_, rfl⟩
  rw [← hx0] at hcc
  have hxi : p.code.getD i in0 = x := by rw [hx0]; exact getD_at hi
  rw [← hcv] at hp ⊢
  refine Ca.of Tryd.func59 Tryd.ntmps59 rfl rfl ?_
  refine W.seq ?_
  refine W.region ?_
  refine WL.c rfl (o_boxB rfl ?_)
  intro w2 hC2 hx2 hs2
  obtain ⟨b2, hb2⟩ : ∃ b, b = w0.heap.size := ⟨_, rfl⟩
  rw [← hb2] at hC2 ⊢
  replace hC2 : w2.heap[b2]? = some (.cells (pgV p cv ev_).toArray 26 (0, 0)) := hC2
  have hx : Ext w0 w2 := hx2
  refine WL.c rfl (o_ash (show _ = Value.bool _ from rfl) ?_)
  refine WL.nil ?_
  refine W.seq ?_
  refine W.region ?_
  refine WL.c rfl (o_fa 1 TI26 rfl TI23 rfl rfl ?_)
  refine WL.c rfl (o_ld TI23 rfl rfl (cell_of hC2 rfl) ?_)
  refine WL.c rfl (o_mvh (show _ = Value.int _ _ from rfl) ?_)
  refine WL.c rfl (o_ixB (i := i) TI23 TI28 hcv rfl hi ?_)
  refine WL.c rfl (o_ldA TI28 rfl rfl (Cells.only hcc hx (fun h => h)) rfl ?_)
  refine WL.c rfl (o_alB TI28 ?_)
  intro wa hCa hxa hsa
  refine WL.u (o_stA TI28 rfl (show _ = Value.agg (insV x).toArray from rfl) rfl rfl hCa rfl ?_)
  intro wb5 hC5 hob hsb
  have hxb := Ext.own hxa (Nat.le_refl _) hob
  obtain ⟨b5, hb5⟩ : ∃ b, b = w2.heap.size := ⟨_, rfl⟩
  rw [← hb5] at hC5 ⊢
  clear hCa hxa hsa hob hsb
  replace hx := hx.tr hxb
  replace hC2 := hxb.blk hC2 (fun h => h)
  clear hxb
  refine WL.nil ?_
  refine W.seq ?_
  refine W.region ?_
  refine WL.c rfl (o_fa 0 TI28 rfl TI3 rfl rfl ?_)
  refine WL.c rfl (o_ld TI3 rfl rfl (cell_of hC5 rfl) ?_)
  refine WL.c rfl (o_fa 0 TI26 rfl TI4 rfl rfl ?_)
  refine WL.c rfl (o_ld TI4 rfl rfl (cell_of hC2 rfl) ?_)
  refine WL.c rfl (o_call Tryd.call40 (lc rfl (lc rfl ln)) ((rof_spec x.op p.enc _).mono ?_))
  rintro v18 w18 ⟨rfl, hx18⟩
  obtain ⟨F, hF⟩ : ∃ F, F = fmT p.enc x.op := ⟨_, rfl⟩
  rw [← hF]
  replace hx := hx.tr hx18
  replace hC2 := hx18.blk hC2 (fun h => h)
  replace hC5 := hx18.blk hC5 (fun h => h)
  refine WL.c rfl (o_mvh (by first | exact (show _ = Value.tuple _ from rfl) | exact rfl) ?_)
  refine WL.c rfl (o_ext rfl rfl ?_)
  refine WL.c rfl (o_ext rfl rfl ?_)
  refine WL.c rfl (o_alB TI82 ?_)
  intro wa hCa hxa hsa
  refine WL.u (o_stA TI82 rfl (show _ = Value.agg ([st F.1, st F.2.1]).toArray from rfl) rfl rfl hCa rfl ?_)
  intro wb6 hC6 hob hsb
  have hxb := Ext.own hxa (Nat.le_refl _) hob
  obtain ⟨b6, hb6⟩ : ∃ b, b = w18.heap.size := ⟨_, rfl⟩
  rw [← hb6] at hC6 ⊢
  clear hCa hxa hsa hob hsb
  replace hx := hx.tr hxb
  replace hC2 := hxb.blk hC2 (fun h => h)
  replace hC5 := hxb.blk hC5 (fun h => h)
  clear hxb
  refine WL.c rfl (o_ash (show _ = Value.bool _ from rfl) ?_)
  refine WL.nil ?_
  refine W.seq ?_
  refine W.seq ?_
  rcases form_cases p x with hf | ⟨nm, l0, l1, l2, hf, ⟨hl0, hl1, hl2⟩, ha | ⟨ha, hb⟩ | ⟨ha, hb, hc⟩ | ⟨ha, hb, hc⟩⟩
  · skip
    have hF2 := hF.trans (fmT_none hf)
    clear hF
    subst hF2
    obtain ⟨wd, hwd⟩ : ∃ wd, wd = World.drew wb6 := ⟨_, rfl⟩
    have hxd : Ext wb6 wd := hwd ▸ Only.drew wb6
    replace hx := hx.tr hxd
    replace hC2 := hxd.blk hC2 (fun h => h)
    replace hC5 := hxd.blk hC5 (fun h => h)
    replace hC6 := hxd.blk hC6 (fun h => h)
    replace hp := hp.ext hx
    refine W.draw (Ext) [(1, fun v _ => v = (Value.int .i64 (i : Int))), (2, fun v _ => v = (Value.pointer (some ⟨b2, 0, none⟩))), (5, fun v _ => v = (Value.pointer (some ⟨b5, 0, none⟩))), (6, fun v _ => v = (Value.pointer (some ⟨b6, 0, none⟩))), (7, fun v _ => v = _)] rfl (by kernel_rfl) (Only.refl No) (fun _ _ _ h k => h.trans k) ⟨Mono.eq, Mono.eq, Mono.eq, Mono.eq, Mono.eq, trivial⟩ ⟨rfl, rfl, rfl, rfl, rfl, trivial⟩ ?_
    refine WD.p rfl (fun e w hR hh => by obtain ⟨h7, -⟩ := hh; exact SG.n (o_mvh h7 ⟨rfl, Only.refl No _⟩)) ?_
    refine WD.p rfl (fun e w hR hh => by obtain ⟨h21, -⟩ := hh; exact SG.n (o_not' h21 ⟨rfl, Only.refl No _⟩)) ?_
    refine WD.p rfl (fun e w hR hh => by obtain ⟨h22, -⟩ := hh; exact SG.n (o_mvh h22 ⟨rfl, Only.refl No _⟩)) ?_
    refine WD.p rfl (fun e w hR hh => by obtain ⟨h23, h2, -⟩ := hh; rw [← hwd] at hR; have hc0 := hR.blk hC2 (fun h => h); exact SG.s h23 (rfl) ⟨rfl, Only.refl No _⟩) ?_
    refine WD.p rfl (fun e w hR hh => by obtain ⟨h23, h6, -⟩ := hh; exact SG.s h23 (rfl) ⟨rfl, Only.refl No _⟩) ?_
    refine WD.p rfl (fun e w hR hh => by obtain ⟨h25, h23, -⟩ := hh; rw [← hwd] at hR; have hc0 := hR.blk hC6 (fun h => h); exact SG.s h23 (rfl) ⟨rfl, Only.refl No _⟩) ?_
    refine WD.p rfl (fun e w hR hh => by obtain ⟨h26, h23, -⟩ := hh; exact SG.s h23 (rfl) ⟨rfl, Only.refl No _⟩) ?_
    refine WD.p rfl (fun e w hR hh => by obtain ⟨h23, h5, -⟩ := hh; exact SG.s h23 (rfl) ⟨rfl, Only.refl No _⟩) ?_
    refine WD.p rfl (fun e w hR hh => by obtain ⟨h28, h23, -⟩ := hh; rw [← hwd] at hR; have hc0 := hR.blk hC5 (fun h => h); exact SG.s h23 (rfl) ⟨rfl, Only.refl No _⟩) ?_
    refine WD.p rfl (fun e w hR hh => by obtain ⟨h29, h27, h24, h23, -⟩ := hh; exact SG.s h23 (rfl) ⟨rfl, Only.refl No _⟩) ?_
    refine WD.p rfl (fun e w hR hh => by obtain ⟨h30, h23, -⟩ := hh; exact SG.s h23 (rfl) ⟨rfl, Only.refl No _⟩) ?_
    refine WD.p rfl (fun e w hR hh => by obtain ⟨h31, h23, -⟩ := hh; exact SG.n (o_pickT h23 (rfl) ⟨rfl, Only.refl No _⟩)) ?_
    refine WD.p rfl (fun e w hR hh => by obtain ⟨h32, -⟩ := hh; exact SG.n (o_mvh h32 ⟨rfl, Only.refl No _⟩)) ?_
    refine WD.p rfl (fun e w hR hh => by obtain ⟨h33, h2, -⟩ := hh; rw [← hwd] at hR; have hc0 := hR.blk hC2 (fun h => h); exact SG.s h33 (rfl) ⟨rfl, Only.refl No _⟩) ?_
    refine WD.p rfl (fun e w hR hh => by obtain ⟨h33, h6, -⟩ := hh; exact SG.s h33 (rfl) ⟨rfl, Only.refl No _⟩) ?_
    refine WD.p rfl (fun e w hR hh => by obtain ⟨h35, h33, -⟩ := hh; rw [← hwd] at hR; have hc0 := hR.blk hC6 (fun h => h); exact SG.s h33 (rfl) ⟨rfl, Only.refl No _⟩) ?_
    refine WD.p rfl (fun e w hR hh => by obtain ⟨h36, h33, -⟩ := hh; exact SG.s h33 (rfl) ⟨rfl, Only.refl No _⟩) ?_
    refine WD.p rfl (fun e w hR hh => by obtain ⟨h33, h5, -⟩ := hh; exact SG.s h33 (rfl) ⟨rfl, Only.refl No _⟩) ?_
    refine WD.p rfl (fun e w hR hh => by obtain ⟨h38, h33, -⟩ := hh; rw [← hwd] at hR; have hc0 := hR.blk hC5 (fun h => h); exact SG.s h33 (rfl) ⟨rfl, Only.refl No _⟩) ?_
    refine WD.p rfl (fun e w hR hh => by obtain ⟨h39, h37, h34, h33, -⟩ := hh; exact SG.s h33 (rfl) ⟨rfl, Only.refl No _⟩) ?_
    refine WD.p rfl (fun e w hR hh => by obtain ⟨h40, h33, -⟩ := hh; exact SG.s h33 (rfl) ⟨rfl, Only.refl No _⟩) ?_
    refine WD.p rfl (fun e w hR hh => by obtain ⟨h41, h33, -⟩ := hh; exact SG.n (o_pickT h33 (rfl) ⟨rfl, Only.refl No _⟩)) ?_
    refine WD.p rfl (fun e w hR hh => by obtain ⟨h42, -⟩ := hh; exact SG.n (o_mvh h42 ⟨rfl, Only.refl No _⟩)) ?_
    refine WD.p rfl (fun e w hR hh => by obtain ⟨h43, h2, -⟩ := hh; rw [← hwd] at hR; have hc0 := hR.blk hC2 (fun h => h); exact SG.s h43 (rfl) ⟨rfl, Only.refl No _⟩) ?_
    refine WD.p rfl (fun e w hR hh => by obtain ⟨h43, h6, -⟩ := hh; exact SG.s h43 (rfl) ⟨rfl, Only.refl No _⟩) ?_
    refine WD.p rfl (fun e w hR hh => by obtain ⟨h45, h43, -⟩ := hh; rw [← hwd] at hR; have hc0 := hR.blk hC6 (fun h => h); exact SG.s h43 (rfl) ⟨rfl, Only.refl No _⟩) ?_
    refine WD.p rfl (fun e w hR hh => by obtain ⟨h46, h43, -⟩ := hh; exact SG.s h43 (rfl) ⟨rfl, Only.refl No _⟩) ?_
    refine WD.p rfl (fun e w hR hh => by obtain ⟨h43, h5, -⟩ := hh; exact SG.s h43 (rfl) ⟨rfl, Only.refl No _⟩) ?_
    refine WD.p rfl (fun e w hR hh => by obtain ⟨h48, h43, -⟩ := hh; rw [← hwd] at hR; have hc0 := hR.blk hC5 (fun h => h); exact SG.s h43 (rfl) ⟨rfl, Only.refl No _⟩) ?_
    refine WD.p rfl (fun e w hR hh => by obtain ⟨h49, h47, h44, h43, -⟩ := hh; exact SG.s h43 (rfl) ⟨rfl, Only.refl No _⟩) ?_
    refine WD.p rfl (fun e w hR hh => by obtain ⟨h50, h43, -⟩ := hh; exact SG.s h43 (rfl) ⟨rfl, Only.refl No _⟩) ?_
    refine WD.p rfl (fun e w hR hh => by obtain ⟨h51, h43, -⟩ := hh; exact SG.n (o_pickT h43 (rfl) ⟨rfl, Only.refl No _⟩)) ?_
    rintro e w hR ⟨h52, h51, h50, h49, h48, h47, h46, h45, h44, h43, h42, h41, h40, h39, h38, h37, h36, h35, h34, h33, h32, h31, h30, h29, h28, h27, h26, h25, h24, h23, h22, h21, h1, h2, h5, h6, h7, -⟩
    refine W.condT' h52 (rfl) ?_
    refine W.seq ?_
    refine W.region ?_
    refine WL.c rfl (o_ash (show _ = Value.bool _ from rfl) ?_)
    refine WL.nil ?_
    refine W.ret ?_
    refine ret1v rfl (show _ = Value.bool _ from rfl) ?_
    exact ⟨false, rfl, ⟨fun h => (by cases h), fun h => absurd h (okI_none hxi hf)⟩, hx.tr (hwd ▸ hR)⟩
  · skip
    have hF2 := hF.trans (fmT_some hf)
    clear hF
    subst hF2
    obtain ⟨wd, hwd⟩ : ∃ wd, wd = World.drew wb6 := ⟨_, rfl⟩
    have hxd : Ext wb6 wd := hwd ▸ Only.drew wb6
    replace hx := hx.tr hxd
    replace hC2 := hxd.blk hC2 (fun h => h)
    replace hC5 := hxd.blk hC5 (fun h => h)
    replace hC6 := hxd.blk hC6 (fun h => h)
    replace hp := hp.ext hx
    refine W.draw (Ext) [(1, fun v _ => v = (Value.int .i64 (i : Int))), (2, fun v _ => v = (Value.pointer (some ⟨b2, 0, none⟩))), (5, fun v _ => v = (Value.pointer (some ⟨b5, 0, none⟩))), (6, fun v _ => v = (Value.pointer (some ⟨b6, 0, none⟩))), (7, fun v _ => v = _)] rfl (by kernel_rfl) (Only.refl No) (fun _ _ _ h k => h.trans k) ⟨Mono.eq, Mono.eq, Mono.eq, Mono.eq, Mono.eq, trivial⟩ ⟨rfl, rfl, rfl, rfl, rfl, trivial⟩ ?_
    refine WD.p rfl (fun e w hR hh => by obtain ⟨h7, -⟩ := hh; exact SG.n (o_mvh h7 ⟨rfl, Only.refl No _⟩)) ?_
    refine WD.p rfl (fun e w hR hh => by obtain ⟨h21, -⟩ := hh; exact SG.n (o_not' h21 ⟨rfl, Only.refl No _⟩)) ?_
    refine WD.p rfl (fun e w hR hh => by obtain ⟨h22, -⟩ := hh; exact SG.n (o_mvh h22 ⟨rfl, Only.refl No _⟩)) ?_
    refine WD.p rfl (fun e w hR hh => by obtain ⟨h23, h2, -⟩ := hh; rw [← hwd] at hR; have hc0 := hR.blk hC2 (fun h => h); exact SG.g h23 (rfl) (o_ldA TI26 rfl h2 (show Cells _ b2 0 (pgV p cv ev_) from Cells.of hc0 0 _ (by simp)) rfl ⟨rfl, Only.refl No _⟩)) ?_
    refine WD.p rfl (fun e w hR hh => by obtain ⟨h23, h6, -⟩ := hh; exact SG.g h23 (rfl) (o_fa 1 TI82 rfl TI9 rfl h6 ⟨rfl, Only.refl No _⟩)) ?_
    refine WD.p rfl (fun e w hR hh => by obtain ⟨h25, h23, -⟩ := hh; rw [← hwd] at hR; have hc0 := hR.blk hC6 (fun h => h); exact SG.g h23 (rfl) (o_ld TI9 rfl h25 (cell_of hc0 rfl) ⟨rfl, Only.refl No _⟩)) ?_
    refine WD.p rfl (fun e w hR hh => by obtain ⟨h26, h23, -⟩ := hh; exact SG.g h23 (rfl) (o_idT (i := 0) TI9 h26 rfl (by simp) ⟨rfl, Only.refl No _⟩)) ?_
    refine WD.p rfl (fun e w hR hh => by obtain ⟨h23, h5, -⟩ := hh; exact SG.g h23 (rfl) (o_fa 1 TI28 rfl TI3 rfl h5 ⟨rfl, Only.refl No _⟩)) ?_
    refine WD.p rfl (fun e w hR hh => by obtain ⟨h28, h23, -⟩ := hh; rw [← hwd] at hR; have hc0 := hR.blk hC5 (fun h => h); exact SG.g h23 (rfl) (o_ld TI3 rfl h28 (cell_of hc0 rfl) ⟨rfl, Only.refl No _⟩)) ?_
    refine WD.p rfl (fun e w hR hh => by obtain ⟨h29, h27, h24, h23, -⟩ := hh; rw [← hwd] at hR; exact SG.g h23 (rfl) (o_call Tryd.call71 (lc h24 (lc h27 (lc h29 ln))) ((fits_no p cv ev_ l0 x.a _ (hp.ext hR) (by omega) (by omega) hl0 ha).mono (fun v w' h => h)))) ?_
    refine WD.p rfl (fun e w hR hh => by obtain ⟨h30, h23, -⟩ := hh; exact SG.g h23 (rfl) (o_not' h30 ⟨rfl, Only.refl No _⟩)) ?_
    refine WD.p rfl (fun e w hR hh => by obtain ⟨h31, h23, -⟩ := hh; exact SG.n (o_pickO h23 h31 ⟨rfl, Only.refl No _⟩)) ?_
    refine WD.p rfl (fun e w hR hh => by obtain ⟨h32, -⟩ := hh; exact SG.n (o_mvh h32 ⟨rfl, Only.refl No _⟩)) ?_
    refine WD.p rfl (fun e w hR hh => by obtain ⟨h33, h2, -⟩ := hh; rw [← hwd] at hR; have hc0 := hR.blk hC2 (fun h => h); exact SG.s h33 (rfl) ⟨rfl, Only.refl No _⟩) ?_
    refine WD.p rfl (fun e w hR hh => by obtain ⟨h33, h6, -⟩ := hh; exact SG.s h33 (rfl) ⟨rfl, Only.refl No _⟩) ?_
    refine WD.p rfl (fun e w hR hh => by obtain ⟨h35, h33, -⟩ := hh; rw [← hwd] at hR; have hc0 := hR.blk hC6 (fun h => h); exact SG.s h33 (rfl) ⟨rfl, Only.refl No _⟩) ?_
    refine WD.p rfl (fun e w hR hh => by obtain ⟨h36, h33, -⟩ := hh; exact SG.s h33 (rfl) ⟨rfl, Only.refl No _⟩) ?_
    refine WD.p rfl (fun e w hR hh => by obtain ⟨h33, h5, -⟩ := hh; exact SG.s h33 (rfl) ⟨rfl, Only.refl No _⟩) ?_
    refine WD.p rfl (fun e w hR hh => by obtain ⟨h38, h33, -⟩ := hh; rw [← hwd] at hR; have hc0 := hR.blk hC5 (fun h => h); exact SG.s h33 (rfl) ⟨rfl, Only.refl No _⟩) ?_
    refine WD.p rfl (fun e w hR hh => by obtain ⟨h39, h37, h34, h33, -⟩ := hh; exact SG.s h33 (rfl) ⟨rfl, Only.refl No _⟩) ?_
    refine WD.p rfl (fun e w hR hh => by obtain ⟨h40, h33, -⟩ := hh; exact SG.s h33 (rfl) ⟨rfl, Only.refl No _⟩) ?_
    refine WD.p rfl (fun e w hR hh => by obtain ⟨h41, h33, -⟩ := hh; exact SG.n (o_pickT h33 (rfl) ⟨rfl, Only.refl No _⟩)) ?_
    refine WD.p rfl (fun e w hR hh => by obtain ⟨h42, -⟩ := hh; exact SG.n (o_mvh h42 ⟨rfl, Only.refl No _⟩)) ?_
    refine WD.p rfl (fun e w hR hh => by obtain ⟨h43, h2, -⟩ := hh; rw [← hwd] at hR; have hc0 := hR.blk hC2 (fun h => h); exact SG.s h43 (rfl) ⟨rfl, Only.refl No _⟩) ?_
    refine WD.p rfl (fun e w hR hh => by obtain ⟨h43, h6, -⟩ := hh; exact SG.s h43 (rfl) ⟨rfl, Only.refl No _⟩) ?_
    refine WD.p rfl (fun e w hR hh => by obtain ⟨h45, h43, -⟩ := hh; rw [← hwd] at hR; have hc0 := hR.blk hC6 (fun h => h); exact SG.s h43 (rfl) ⟨rfl, Only.refl No _⟩) ?_
    refine WD.p rfl (fun e w hR hh => by obtain ⟨h46, h43, -⟩ := hh; exact SG.s h43 (rfl) ⟨rfl, Only.refl No _⟩) ?_
    refine WD.p rfl (fun e w hR hh => by obtain ⟨h43, h5, -⟩ := hh; exact SG.s h43 (rfl) ⟨rfl, Only.refl No _⟩) ?_
    refine WD.p rfl (fun e w hR hh => by obtain ⟨h48, h43, -⟩ := hh; rw [← hwd] at hR; have hc0 := hR.blk hC5 (fun h => h); exact SG.s h43 (rfl) ⟨rfl, Only.refl No _⟩) ?_
    refine WD.p rfl (fun e w hR hh => by obtain ⟨h49, h47, h44, h43, -⟩ := hh; exact SG.s h43 (rfl) ⟨rfl, Only.refl No _⟩) ?_
    refine WD.p rfl (fun e w hR hh => by obtain ⟨h50, h43, -⟩ := hh; exact SG.s h43 (rfl) ⟨rfl, Only.refl No _⟩) ?_
    refine WD.p rfl (fun e w hR hh => by obtain ⟨h51, h43, -⟩ := hh; exact SG.n (o_pickT h43 (rfl) ⟨rfl, Only.refl No _⟩)) ?_
    rintro e w hR ⟨h52, h51, h50, h49, h48, h47, h46, h45, h44, h43, h42, h41, h40, h39, h38, h37, h36, h35, h34, h33, h32, h31, h30, h29, h28, h27, h26, h25, h24, h23, h22, h21, h1, h2, h5, h6, h7, -⟩
    refine W.condT' h52 (rfl) ?_
    refine W.seq ?_
    refine W.region ?_
    refine WL.c rfl (o_ash (show _ = Value.bool _ from rfl) ?_)
    refine WL.nil ?_
    refine W.ret ?_
    refine ret1v rfl (show _ = Value.bool _ from rfl) ?_
    exact ⟨false, rfl, ⟨fun h => (by cases h), fun h => absurd h (fun h => ha ((okI_iff hxi hf).1 h).1)⟩, hx.tr (hwd ▸ hR)⟩
  · skip
    have hF2 := hF.trans (fmT_some hf)
    clear hF
    subst hF2
    obtain ⟨wd, hwd⟩ : ∃ wd, wd = World.drew wb6 := ⟨_, rfl⟩
    have hxd : Ext wb6 wd := hwd ▸ Only.drew wb6
    replace hx := hx.tr hxd
    replace hC2 := hxd.blk hC2 (fun h => h)
    replace hC5 := hxd.blk hC5 (fun h => h)
    replace hC6 := hxd.blk hC6 (fun h => h)
    replace hp := hp.ext hx
    refine W.draw (Ext) [(1, fun v _ => v = (Value.int .i64 (i : Int))), (2, fun v _ => v = (Value.pointer (some ⟨b2, 0, none⟩))), (5, fun v _ => v = (Value.pointer (some ⟨b5, 0, none⟩))), (6, fun v _ => v = (Value.pointer (some ⟨b6, 0, none⟩))), (7, fun v _ => v = _)] rfl (by kernel_rfl) (Only.refl No) (fun _ _ _ h k => h.trans k) ⟨Mono.eq, Mono.eq, Mono.eq, Mono.eq, Mono.eq, trivial⟩ ⟨rfl, rfl, rfl, rfl, rfl, trivial⟩ ?_
    refine WD.p rfl (fun e w hR hh => by obtain ⟨h7, -⟩ := hh; exact SG.n (o_mvh h7 ⟨rfl, Only.refl No _⟩)) ?_
    refine WD.p rfl (fun e w hR hh => by obtain ⟨h21, -⟩ := hh; exact SG.n (o_not' h21 ⟨rfl, Only.refl No _⟩)) ?_
    refine WD.p rfl (fun e w hR hh => by obtain ⟨h22, -⟩ := hh; exact SG.n (o_mvh h22 ⟨rfl, Only.refl No _⟩)) ?_
    refine WD.p rfl (fun e w hR hh => by obtain ⟨h23, h2, -⟩ := hh; rw [← hwd] at hR; have hc0 := hR.blk hC2 (fun h => h); exact SG.g h23 (rfl) (o_ldA TI26 rfl h2 (show Cells _ b2 0 (pgV p cv ev_) from Cells.of hc0 0 _ (by simp)) rfl ⟨rfl, Only.refl No _⟩)) ?_
    refine WD.p rfl (fun e w hR hh => by obtain ⟨h23, h6, -⟩ := hh; exact SG.g h23 (rfl) (o_fa 1 TI82 rfl TI9 rfl h6 ⟨rfl, Only.refl No _⟩)) ?_
    refine WD.p rfl (fun e w hR hh => by obtain ⟨h25, h23, -⟩ := hh; rw [← hwd] at hR; have hc0 := hR.blk hC6 (fun h => h); exact SG.g h23 (rfl) (o_ld TI9 rfl h25 (cell_of hc0 rfl) ⟨rfl, Only.refl No _⟩)) ?_
    refine WD.p rfl (fun e w hR hh => by obtain ⟨h26, h23, -⟩ := hh; exact SG.g h23 (rfl) (o_idT (i := 0) TI9 h26 rfl (by simp) ⟨rfl, Only.refl No _⟩)) ?_
    refine WD.p rfl (fun e w hR hh => by obtain ⟨h23, h5, -⟩ := hh; exact SG.g h23 (rfl) (o_fa 1 TI28 rfl TI3 rfl h5 ⟨rfl, Only.refl No _⟩)) ?_
    refine WD.p rfl (fun e w hR hh => by obtain ⟨h28, h23, -⟩ := hh; rw [← hwd] at hR; have hc0 := hR.blk hC5 (fun h => h); exact SG.g h23 (rfl) (o_ld TI3 rfl h28 (cell_of hc0 rfl) ⟨rfl, Only.refl No _⟩)) ?_
    refine WD.p rfl (fun e w hR hh => by obtain ⟨h29, h27, h24, h23, -⟩ := hh; rw [← hwd] at hR; exact SG.g h23 (rfl) (o_call Tryd.call71 (lc h24 (lc h27 (lc h29 ln))) ((fits_yes p cv ev_ l0 x.a _ (hp.ext hR) (by omega) (by omega) hl0 ha).mono (fun v w' h => h)))) ?_
    refine WD.p rfl (fun e w hR hh => by obtain ⟨h30, h23, -⟩ := hh; exact SG.g h23 (rfl) (o_not' h30 ⟨rfl, Only.refl No _⟩)) ?_
    refine WD.p rfl (fun e w hR hh => by obtain ⟨h31, h23, -⟩ := hh; exact SG.n (o_pickO h23 h31 ⟨rfl, Only.refl No _⟩)) ?_
    refine WD.p rfl (fun e w hR hh => by obtain ⟨h32, -⟩ := hh; exact SG.n (o_mvh h32 ⟨rfl, Only.refl No _⟩)) ?_
    refine WD.p rfl (fun e w hR hh => by obtain ⟨h33, h2, -⟩ := hh; rw [← hwd] at hR; have hc0 := hR.blk hC2 (fun h => h); exact SG.g h33 (rfl) (o_ldA TI26 rfl h2 (show Cells _ b2 0 (pgV p cv ev_) from Cells.of hc0 0 _ (by simp)) rfl ⟨rfl, Only.refl No _⟩)) ?_
    refine WD.p rfl (fun e w hR hh => by obtain ⟨h33, h6, -⟩ := hh; exact SG.g h33 (rfl) (o_fa 1 TI82 rfl TI9 rfl h6 ⟨rfl, Only.refl No _⟩)) ?_
    refine WD.p rfl (fun e w hR hh => by obtain ⟨h35, h33, -⟩ := hh; rw [← hwd] at hR; have hc0 := hR.blk hC6 (fun h => h); exact SG.g h33 (rfl) (o_ld TI9 rfl h35 (cell_of hc0 rfl) ⟨rfl, Only.refl No _⟩)) ?_
    refine WD.p rfl (fun e w hR hh => by obtain ⟨h36, h33, -⟩ := hh; exact SG.g h33 (rfl) (o_idT (i := 1) TI9 h36 rfl (by simp) ⟨rfl, Only.refl No _⟩)) ?_
    refine WD.p rfl (fun e w hR hh => by obtain ⟨h33, h5, -⟩ := hh; exact SG.g h33 (rfl) (o_fa 2 TI28 rfl TI3 rfl h5 ⟨rfl, Only.refl No _⟩)) ?_
    refine WD.p rfl (fun e w hR hh => by obtain ⟨h38, h33, -⟩ := hh; rw [← hwd] at hR; have hc0 := hR.blk hC5 (fun h => h); exact SG.g h33 (rfl) (o_ld TI3 rfl h38 (cell_of hc0 rfl) ⟨rfl, Only.refl No _⟩)) ?_
    refine WD.p rfl (fun e w hR hh => by obtain ⟨h39, h37, h34, h33, -⟩ := hh; rw [← hwd] at hR; exact SG.g h33 (rfl) (o_call Tryd.call71 (lc h34 (lc h37 (lc h39 ln))) ((fits_no p cv ev_ l1 x.b _ (hp.ext hR) (by omega) (by omega) hl1 hb).mono (fun v w' h => h)))) ?_
    refine WD.p rfl (fun e w hR hh => by obtain ⟨h40, h33, -⟩ := hh; exact SG.g h33 (rfl) (o_not' h40 ⟨rfl, Only.refl No _⟩)) ?_
    refine WD.p rfl (fun e w hR hh => by obtain ⟨h41, h33, -⟩ := hh; exact SG.n (o_pickO h33 h41 ⟨rfl, Only.refl No _⟩)) ?_
    refine WD.p rfl (fun e w hR hh => by obtain ⟨h42, -⟩ := hh; exact SG.n (o_mvh h42 ⟨rfl, Only.refl No _⟩)) ?_
    refine WD.p rfl (fun e w hR hh => by obtain ⟨h43, h2, -⟩ := hh; rw [← hwd] at hR; have hc0 := hR.blk hC2 (fun h => h); exact SG.s h43 (rfl) ⟨rfl, Only.refl No _⟩) ?_
    refine WD.p rfl (fun e w hR hh => by obtain ⟨h43, h6, -⟩ := hh; exact SG.s h43 (rfl) ⟨rfl, Only.refl No _⟩) ?_
    refine WD.p rfl (fun e w hR hh => by obtain ⟨h45, h43, -⟩ := hh; rw [← hwd] at hR; have hc0 := hR.blk hC6 (fun h => h); exact SG.s h43 (rfl) ⟨rfl, Only.refl No _⟩) ?_
    refine WD.p rfl (fun e w hR hh => by obtain ⟨h46, h43, -⟩ := hh; exact SG.s h43 (rfl) ⟨rfl, Only.refl No _⟩) ?_
    refine WD.p rfl (fun e w hR hh => by obtain ⟨h43, h5, -⟩ := hh; exact SG.s h43 (rfl) ⟨rfl, Only.refl No _⟩) ?_
    refine WD.p rfl (fun e w hR hh => by obtain ⟨h48, h43, -⟩ := hh; rw [← hwd] at hR; have hc0 := hR.blk hC5 (fun h => h); exact SG.s h43 (rfl) ⟨rfl, Only.refl No _⟩) ?_
    refine WD.p rfl (fun e w hR hh => by obtain ⟨h49, h47, h44, h43, -⟩ := hh; exact SG.s h43 (rfl) ⟨rfl, Only.refl No _⟩) ?_
    refine WD.p rfl (fun e w hR hh => by obtain ⟨h50, h43, -⟩ := hh; exact SG.s h43 (rfl) ⟨rfl, Only.refl No _⟩) ?_
    refine WD.p rfl (fun e w hR hh => by obtain ⟨h51, h43, -⟩ := hh; exact SG.n (o_pickT h43 (rfl) ⟨rfl, Only.refl No _⟩)) ?_
    rintro e w hR ⟨h52, h51, h50, h49, h48, h47, h46, h45, h44, h43, h42, h41, h40, h39, h38, h37, h36, h35, h34, h33, h32, h31, h30, h29, h28, h27, h26, h25, h24, h23, h22, h21, h1, h2, h5, h6, h7, -⟩
    refine W.condT' h52 (rfl) ?_
    refine W.seq ?_
    refine W.region ?_
    refine WL.c rfl (o_ash (show _ = Value.bool _ from rfl) ?_)
    refine WL.nil ?_
    refine W.ret ?_
    refine ret1v rfl (show _ = Value.bool _ from rfl) ?_
    exact ⟨false, rfl, ⟨fun h => (by cases h), fun h => absurd h (fun h => hb ((okI_iff hxi hf).1 h).2.1)⟩, hx.tr (hwd ▸ hR)⟩
  · skip
    have hF2 := hF.trans (fmT_some hf)
    clear hF
    subst hF2
    obtain ⟨wd, hwd⟩ : ∃ wd, wd = World.drew wb6 := ⟨_, rfl⟩
    have hxd : Ext wb6 wd := hwd ▸ Only.drew wb6
    replace hx := hx.tr hxd
    replace hC2 := hxd.blk hC2 (fun h => h)
    replace hC5 := hxd.blk hC5 (fun h => h)
    replace hC6 := hxd.blk hC6 (fun h => h)
    replace hp := hp.ext hx
    refine W.draw (Ext) [(1, fun v _ => v = (Value.int .i64 (i : Int))), (2, fun v _ => v = (Value.pointer (some ⟨b2, 0, none⟩))), (5, fun v _ => v = (Value.pointer (some ⟨b5, 0, none⟩))), (6, fun v _ => v = (Value.pointer (some ⟨b6, 0, none⟩))), (7, fun v _ => v = _)] rfl (by kernel_rfl) (Only.refl No) (fun _ _ _ h k => h.trans k) ⟨Mono.eq, Mono.eq, Mono.eq, Mono.eq, Mono.eq, trivial⟩ ⟨rfl, rfl, rfl, rfl, rfl, trivial⟩ ?_
    refine WD.p rfl (fun e w hR hh => by obtain ⟨h7, -⟩ := hh; exact SG.n (o_mvh h7 ⟨rfl, Only.refl No _⟩)) ?_
    refine WD.p rfl (fun e w hR hh => by obtain ⟨h21, -⟩ := hh; exact SG.n (o_not' h21 ⟨rfl, Only.refl No _⟩)) ?_
    refine WD.p rfl (fun e w hR hh => by obtain ⟨h22, -⟩ := hh; exact SG.n (o_mvh h22 ⟨rfl, Only.refl No _⟩)) ?_
    refine WD.p rfl (fun e w hR hh => by obtain ⟨h23, h2, -⟩ := hh; rw [← hwd] at hR; have hc0 := hR.blk hC2 (fun h => h); exact SG.g h23 (rfl) (o_ldA TI26 rfl h2 (show Cells _ b2 0 (pgV p cv ev_) from Cells.of hc0 0 _ (by simp)) rfl ⟨rfl, Only.refl No _⟩)) ?_
    refine WD.p rfl (fun e w hR hh => by obtain ⟨h23, h6, -⟩ := hh; exact SG.g h23 (rfl) (o_fa 1 TI82 rfl TI9 rfl h6 ⟨rfl, Only.refl No _⟩)) ?_
    refine WD.p rfl (fun e w hR hh => by obtain ⟨h25, h23, -⟩ := hh; rw [← hwd] at hR; have hc0 := hR.blk hC6 (fun h => h); exact SG.g h23 (rfl) (o_ld TI9 rfl h25 (cell_of hc0 rfl) ⟨rfl, Only.refl No _⟩)) ?_
    refine WD.p rfl (fun e w hR hh => by obtain ⟨h26, h23, -⟩ := hh; exact SG.g h23 (rfl) (o_idT (i := 0) TI9 h26 rfl (by simp) ⟨rfl, Only.refl No _⟩)) ?_
    refine WD.p rfl (fun e w hR hh => by obtain ⟨h23, h5, -⟩ := hh; exact SG.g h23 (rfl) (o_fa 1 TI28 rfl TI3 rfl h5 ⟨rfl, Only.refl No _⟩)) ?_
    refine WD.p rfl (fun e w hR hh => by obtain ⟨h28, h23, -⟩ := hh; rw [← hwd] at hR; have hc0 := hR.blk hC5 (fun h => h); exact SG.g h23 (rfl) (o_ld TI3 rfl h28 (cell_of hc0 rfl) ⟨rfl, Only.refl No _⟩)) ?_
    refine WD.p rfl (fun e w hR hh => by obtain ⟨h29, h27, h24, h23, -⟩ := hh; rw [← hwd] at hR; exact SG.g h23 (rfl) (o_call Tryd.call71 (lc h24 (lc h27 (lc h29 ln))) ((fits_yes p cv ev_ l0 x.a _ (hp.ext hR) (by omega) (by omega) hl0 ha).mono (fun v w' h => h)))) ?_
    refine WD.p rfl (fun e w hR hh => by obtain ⟨h30, h23, -⟩ := hh; exact SG.g h23 (rfl) (o_not' h30 ⟨rfl, Only.refl No _⟩)) ?_
    refine WD.p rfl (fun e w hR hh => by obtain ⟨h31, h23, -⟩ := hh; exact SG.n (o_pickO h23 h31 ⟨rfl, Only.refl No _⟩)) ?_
    refine WD.p rfl (fun e w hR hh => by obtain ⟨h32, -⟩ := hh; exact SG.n (o_mvh h32 ⟨rfl, Only.refl No _⟩)) ?_
    refine WD.p rfl (fun e w hR hh => by obtain ⟨h33, h2, -⟩ := hh; rw [← hwd] at hR; have hc0 := hR.blk hC2 (fun h => h); exact SG.g h33 (rfl) (o_ldA TI26 rfl h2 (show Cells _ b2 0 (pgV p cv ev_) from Cells.of hc0 0 _ (by simp)) rfl ⟨rfl, Only.refl No _⟩)) ?_
    refine WD.p rfl (fun e w hR hh => by obtain ⟨h33, h6, -⟩ := hh; exact SG.g h33 (rfl) (o_fa 1 TI82 rfl TI9 rfl h6 ⟨rfl, Only.refl No _⟩)) ?_
    refine WD.p rfl (fun e w hR hh => by obtain ⟨h35, h33, -⟩ := hh; rw [← hwd] at hR; have hc0 := hR.blk hC6 (fun h => h); exact SG.g h33 (rfl) (o_ld TI9 rfl h35 (cell_of hc0 rfl) ⟨rfl, Only.refl No _⟩)) ?_
    refine WD.p rfl (fun e w hR hh => by obtain ⟨h36, h33, -⟩ := hh; exact SG.g h33 (rfl) (o_idT (i := 1) TI9 h36 rfl (by simp) ⟨rfl, Only.refl No _⟩)) ?_
    refine WD.p rfl (fun e w hR hh => by obtain ⟨h33, h5, -⟩ := hh; exact SG.g h33 (rfl) (o_fa 2 TI28 rfl TI3 rfl h5 ⟨rfl, Only.refl No _⟩)) ?_
    refine WD.p rfl (fun e w hR hh => by obtain ⟨h38, h33, -⟩ := hh; rw [← hwd] at hR; have hc0 := hR.blk hC5 (fun h => h); exact SG.g h33 (rfl) (o_ld TI3 rfl h38 (cell_of hc0 rfl) ⟨rfl, Only.refl No _⟩)) ?_
    refine WD.p rfl (fun e w hR hh => by obtain ⟨h39, h37, h34, h33, -⟩ := hh; rw [← hwd] at hR; exact SG.g h33 (rfl) (o_call Tryd.call71 (lc h34 (lc h37 (lc h39 ln))) ((fits_yes p cv ev_ l1 x.b _ (hp.ext hR) (by omega) (by omega) hl1 hb).mono (fun v w' h => h)))) ?_
    refine WD.p rfl (fun e w hR hh => by obtain ⟨h40, h33, -⟩ := hh; exact SG.g h33 (rfl) (o_not' h40 ⟨rfl, Only.refl No _⟩)) ?_
    refine WD.p rfl (fun e w hR hh => by obtain ⟨h41, h33, -⟩ := hh; exact SG.n (o_pickO h33 h41 ⟨rfl, Only.refl No _⟩)) ?_
    refine WD.p rfl (fun e w hR hh => by obtain ⟨h42, -⟩ := hh; exact SG.n (o_mvh h42 ⟨rfl, Only.refl No _⟩)) ?_
    refine WD.p rfl (fun e w hR hh => by obtain ⟨h43, h2, -⟩ := hh; rw [← hwd] at hR; have hc0 := hR.blk hC2 (fun h => h); exact SG.g h43 (rfl) (o_ldA TI26 rfl h2 (show Cells _ b2 0 (pgV p cv ev_) from Cells.of hc0 0 _ (by simp)) rfl ⟨rfl, Only.refl No _⟩)) ?_
    refine WD.p rfl (fun e w hR hh => by obtain ⟨h43, h6, -⟩ := hh; exact SG.g h43 (rfl) (o_fa 1 TI82 rfl TI9 rfl h6 ⟨rfl, Only.refl No _⟩)) ?_
    refine WD.p rfl (fun e w hR hh => by obtain ⟨h45, h43, -⟩ := hh; rw [← hwd] at hR; have hc0 := hR.blk hC6 (fun h => h); exact SG.g h43 (rfl) (o_ld TI9 rfl h45 (cell_of hc0 rfl) ⟨rfl, Only.refl No _⟩)) ?_
    refine WD.p rfl (fun e w hR hh => by obtain ⟨h46, h43, -⟩ := hh; exact SG.g h43 (rfl) (o_idT (i := 2) TI9 h46 rfl (by simp) ⟨rfl, Only.refl No _⟩)) ?_
    refine WD.p rfl (fun e w hR hh => by obtain ⟨h43, h5, -⟩ := hh; exact SG.g h43 (rfl) (o_fa 3 TI28 rfl TI3 rfl h5 ⟨rfl, Only.refl No _⟩)) ?_
    refine WD.p rfl (fun e w hR hh => by obtain ⟨h48, h43, -⟩ := hh; rw [← hwd] at hR; have hc0 := hR.blk hC5 (fun h => h); exact SG.g h43 (rfl) (o_ld TI3 rfl h48 (cell_of hc0 rfl) ⟨rfl, Only.refl No _⟩)) ?_
    refine WD.p rfl (fun e w hR hh => by obtain ⟨h49, h47, h44, h43, -⟩ := hh; rw [← hwd] at hR; exact SG.g h43 (rfl) (o_call Tryd.call71 (lc h44 (lc h47 (lc h49 ln))) ((fits_no p cv ev_ l2 x.c _ (hp.ext hR) (by omega) (by omega) hl2 hc).mono (fun v w' h => h)))) ?_
    refine WD.p rfl (fun e w hR hh => by obtain ⟨h50, h43, -⟩ := hh; exact SG.g h43 (rfl) (o_not' h50 ⟨rfl, Only.refl No _⟩)) ?_
    refine WD.p rfl (fun e w hR hh => by obtain ⟨h51, h43, -⟩ := hh; exact SG.n (o_pickO h43 h51 ⟨rfl, Only.refl No _⟩)) ?_
    rintro e w hR ⟨h52, h51, h50, h49, h48, h47, h46, h45, h44, h43, h42, h41, h40, h39, h38, h37, h36, h35, h34, h33, h32, h31, h30, h29, h28, h27, h26, h25, h24, h23, h22, h21, h1, h2, h5, h6, h7, -⟩
    refine W.condT' h52 (rfl) ?_
    refine W.seq ?_
    refine W.region ?_
    refine WL.c rfl (o_ash (show _ = Value.bool _ from rfl) ?_)
    refine WL.nil ?_
    refine W.ret ?_
    refine ret1v rfl (show _ = Value.bool _ from rfl) ?_
    exact ⟨false, rfl, ⟨fun h => (by cases h), fun h => absurd h (fun h => hc ((okI_iff hxi hf).1 h).2.2.1)⟩, hx.tr (hwd ▸ hR)⟩
  · skip
    have hF2 := hF.trans (fmT_some hf)
    clear hF
    subst hF2
    obtain ⟨wd, hwd⟩ : ∃ wd, wd = World.drew wb6 := ⟨_, rfl⟩
    have hxd : Ext wb6 wd := hwd ▸ Only.drew wb6
    replace hx := hx.tr hxd
    replace hC2 := hxd.blk hC2 (fun h => h)
    replace hC5 := hxd.blk hC5 (fun h => h)
    replace hC6 := hxd.blk hC6 (fun h => h)
    replace hp := hp.ext hx
    refine W.draw (Ext) [(1, fun v _ => v = (Value.int .i64 (i : Int))), (2, fun v _ => v = (Value.pointer (some ⟨b2, 0, none⟩))), (5, fun v _ => v = (Value.pointer (some ⟨b5, 0, none⟩))), (6, fun v _ => v = (Value.pointer (some ⟨b6, 0, none⟩))), (7, fun v _ => v = _)] rfl (by kernel_rfl) (Only.refl No) (fun _ _ _ h k => h.trans k) ⟨Mono.eq, Mono.eq, Mono.eq, Mono.eq, Mono.eq, trivial⟩ ⟨rfl, rfl, rfl, rfl, rfl, trivial⟩ ?_
    refine WD.p rfl (fun e w hR hh => by obtain ⟨h7, -⟩ := hh; exact SG.n (o_mvh h7 ⟨rfl, Only.refl No _⟩)) ?_
    refine WD.p rfl (fun e w hR hh => by obtain ⟨h21, -⟩ := hh; exact SG.n (o_not' h21 ⟨rfl, Only.refl No _⟩)) ?_
    refine WD.p rfl (fun e w hR hh => by obtain ⟨h22, -⟩ := hh; exact SG.n (o_mvh h22 ⟨rfl, Only.refl No _⟩)) ?_
    refine WD.p rfl (fun e w hR hh => by obtain ⟨h23, h2, -⟩ := hh; rw [← hwd] at hR; have hc0 := hR.blk hC2 (fun h => h); exact SG.g h23 (rfl) (o_ldA TI26 rfl h2 (show Cells _ b2 0 (pgV p cv ev_) from Cells.of hc0 0 _ (by simp)) rfl ⟨rfl, Only.refl No _⟩)) ?_
    refine WD.p rfl (fun e w hR hh => by obtain ⟨h23, h6, -⟩ := hh; exact SG.g h23 (rfl) (o_fa 1 TI82 rfl TI9 rfl h6 ⟨rfl, Only.refl No _⟩)) ?_
    refine WD.p rfl (fun e w hR hh => by obtain ⟨h25, h23, -⟩ := hh; rw [← hwd] at hR; have hc0 := hR.blk hC6 (fun h => h); exact SG.g h23 (rfl) (o_ld TI9 rfl h25 (cell_of hc0 rfl) ⟨rfl, Only.refl No _⟩)) ?_
    refine WD.p rfl (fun e w hR hh => by obtain ⟨h26, h23, -⟩ := hh; exact SG.g h23 (rfl) (o_idT (i := 0) TI9 h26 rfl (by simp) ⟨rfl, Only.refl No _⟩)) ?_
    refine WD.p rfl (fun e w hR hh => by obtain ⟨h23, h5, -⟩ := hh; exact SG.g h23 (rfl) (o_fa 1 TI28 rfl TI3 rfl h5 ⟨rfl, Only.refl No _⟩)) ?_
    refine WD.p rfl (fun e w hR hh => by obtain ⟨h28, h23, -⟩ := hh; rw [← hwd] at hR; have hc0 := hR.blk hC5 (fun h => h); exact SG.g h23 (rfl) (o_ld TI3 rfl h28 (cell_of hc0 rfl) ⟨rfl, Only.refl No _⟩)) ?_
    refine WD.p rfl (fun e w hR hh => by obtain ⟨h29, h27, h24, h23, -⟩ := hh; rw [← hwd] at hR; exact SG.g h23 (rfl) (o_call Tryd.call71 (lc h24 (lc h27 (lc h29 ln))) ((fits_yes p cv ev_ l0 x.a _ (hp.ext hR) (by omega) (by omega) hl0 ha).mono (fun v w' h => h)))) ?_
    refine WD.p rfl (fun e w hR hh => by obtain ⟨h30, h23, -⟩ := hh; exact SG.g h23 (rfl) (o_not' h30 ⟨rfl, Only.refl No _⟩)) ?_
    refine WD.p rfl (fun e w hR hh => by obtain ⟨h31, h23, -⟩ := hh; exact SG.n (o_pickO h23 h31 ⟨rfl, Only.refl No _⟩)) ?_
    refine WD.p rfl (fun e w hR hh => by obtain ⟨h32, -⟩ := hh; exact SG.n (o_mvh h32 ⟨rfl, Only.refl No _⟩)) ?_
    refine WD.p rfl (fun e w hR hh => by obtain ⟨h33, h2, -⟩ := hh; rw [← hwd] at hR; have hc0 := hR.blk hC2 (fun h => h); exact SG.g h33 (rfl) (o_ldA TI26 rfl h2 (show Cells _ b2 0 (pgV p cv ev_) from Cells.of hc0 0 _ (by simp)) rfl ⟨rfl, Only.refl No _⟩)) ?_
    refine WD.p rfl (fun e w hR hh => by obtain ⟨h33, h6, -⟩ := hh; exact SG.g h33 (rfl) (o_fa 1 TI82 rfl TI9 rfl h6 ⟨rfl, Only.refl No _⟩)) ?_
    refine WD.p rfl (fun e w hR hh => by obtain ⟨h35, h33, -⟩ := hh; rw [← hwd] at hR; have hc0 := hR.blk hC6 (fun h => h); exact SG.g h33 (rfl) (o_ld TI9 rfl h35 (cell_of hc0 rfl) ⟨rfl, Only.refl No _⟩)) ?_
    refine WD.p rfl (fun e w hR hh => by obtain ⟨h36, h33, -⟩ := hh; exact SG.g h33 (rfl) (o_idT (i := 1) TI9 h36 rfl (by simp) ⟨rfl, Only.refl No _⟩)) ?_
    refine WD.p rfl (fun e w hR hh => by obtain ⟨h33, h5, -⟩ := hh; exact SG.g h33 (rfl) (o_fa 2 TI28 rfl TI3 rfl h5 ⟨rfl, Only.refl No _⟩)) ?_
    refine WD.p rfl (fun e w hR hh => by obtain ⟨h38, h33, -⟩ := hh; rw [← hwd] at hR; have hc0 := hR.blk hC5 (fun h => h); exact SG.g h33 (rfl) (o_ld TI3 rfl h38 (cell_of hc0 rfl) ⟨rfl, Only.refl No _⟩)) ?_
    refine WD.p rfl (fun e w hR hh => by obtain ⟨h39, h37, h34, h33, -⟩ := hh; rw [← hwd] at hR; exact SG.g h33 (rfl) (o_call Tryd.call71 (lc h34 (lc h37 (lc h39 ln))) ((fits_yes p cv ev_ l1 x.b _ (hp.ext hR) (by omega) (by omega) hl1 hb).mono (fun v w' h => h)))) ?_
    refine WD.p rfl (fun e w hR hh => by obtain ⟨h40, h33, -⟩ := hh; exact SG.g h33 (rfl) (o_not' h40 ⟨rfl, Only.refl No _⟩)) ?_
    refine WD.p rfl (fun e w hR hh => by obtain ⟨h41, h33, -⟩ := hh; exact SG.n (o_pickO h33 h41 ⟨rfl, Only.refl No _⟩)) ?_
    refine WD.p rfl (fun e w hR hh => by obtain ⟨h42, -⟩ := hh; exact SG.n (o_mvh h42 ⟨rfl, Only.refl No _⟩)) ?_
    refine WD.p rfl (fun e w hR hh => by obtain ⟨h43, h2, -⟩ := hh; rw [← hwd] at hR; have hc0 := hR.blk hC2 (fun h => h); exact SG.g h43 (rfl) (o_ldA TI26 rfl h2 (show Cells _ b2 0 (pgV p cv ev_) from Cells.of hc0 0 _ (by simp)) rfl ⟨rfl, Only.refl No _⟩)) ?_
    refine WD.p rfl (fun e w hR hh => by obtain ⟨h43, h6, -⟩ := hh; exact SG.g h43 (rfl) (o_fa 1 TI82 rfl TI9 rfl h6 ⟨rfl, Only.refl No _⟩)) ?_
    refine WD.p rfl (fun e w hR hh => by obtain ⟨h45, h43, -⟩ := hh; rw [← hwd] at hR; have hc0 := hR.blk hC6 (fun h => h); exact SG.g h43 (rfl) (o_ld TI9 rfl h45 (cell_of hc0 rfl) ⟨rfl, Only.refl No _⟩)) ?_
    refine WD.p rfl (fun e w hR hh => by obtain ⟨h46, h43, -⟩ := hh; exact SG.g h43 (rfl) (o_idT (i := 2) TI9 h46 rfl (by simp) ⟨rfl, Only.refl No _⟩)) ?_
    refine WD.p rfl (fun e w hR hh => by obtain ⟨h43, h5, -⟩ := hh; exact SG.g h43 (rfl) (o_fa 3 TI28 rfl TI3 rfl h5 ⟨rfl, Only.refl No _⟩)) ?_
    refine WD.p rfl (fun e w hR hh => by obtain ⟨h48, h43, -⟩ := hh; rw [← hwd] at hR; have hc0 := hR.blk hC5 (fun h => h); exact SG.g h43 (rfl) (o_ld TI3 rfl h48 (cell_of hc0 rfl) ⟨rfl, Only.refl No _⟩)) ?_
    refine WD.p rfl (fun e w hR hh => by obtain ⟨h49, h47, h44, h43, -⟩ := hh; rw [← hwd] at hR; exact SG.g h43 (rfl) (o_call Tryd.call71 (lc h44 (lc h47 (lc h49 ln))) ((fits_yes p cv ev_ l2 x.c _ (hp.ext hR) (by omega) (by omega) hl2 hc).mono (fun v w' h => h)))) ?_
    refine WD.p rfl (fun e w hR hh => by obtain ⟨h50, h43, -⟩ := hh; exact SG.g h43 (rfl) (o_not' h50 ⟨rfl, Only.refl No _⟩)) ?_
    refine WD.p rfl (fun e w hR hh => by obtain ⟨h51, h43, -⟩ := hh; exact SG.n (o_pickO h43 h51 ⟨rfl, Only.refl No _⟩)) ?_
    rintro e w hR ⟨h52, h51, h50, h49, h48, h47, h46, h45, h44, h43, h42, h41, h40, h39, h38, h37, h36, h35, h34, h33, h32, h31, h30, h29, h28, h27, h26, h25, h24, h23, h22, h21, h1, h2, h5, h6, h7, -⟩
    refine W.condF' h52 (rfl) ?_
    refine W.skip ?_
    refine W.seq ?_
    refine W.seq ?_
    rw [← hwd] at hR
    have hpx : Ext wd w := hR
    replace hx := hx.tr hR
    replace hC2 := hR.blk hC2 (fun h => h)
    replace hC5 := hR.blk hC5 (fun h => h)
    replace hC6 := hR.blk hC6 (fun h => h)
    have hOk : OkI p i ↔ moreP p.code i x nm := (okI_iff hxi hf).trans ⟨fun h => h.2.2.2, fun h => ⟨ha, hb, hc, h⟩⟩
    have ba := fitP_bd hlc hle hl0 ha
    have bb := fitP_bd hlc hle hl1 hb
    have bc := fitP_bd hlc hle hl2 hc
    have bm := mul_bd bb.1 bb.2 bc.1 bc.2
    refine W.region ?_
    refine WL.c rfl (o_fa 0 TI82 rfl TI9 rfl h6 ?_)
    refine WL.c rfl (o_ld TI9 rfl rfl (cell_of hC6 rfl) ?_)
    refine WL.nil ?_
    refine W.block ?_
    refine W.seq ?_
    refine W.region ?_
    refine WL.c rfl (o_eqT rfl rfl ?_)
    refine WL.c rfl (o_ash (show _ = Value.bool _ from rfl) ?_)
    refine WL.nil ?_
    refine W.cond rfl (fun c55 => ?_) (fun c55 => ?_)
    · try simp only [decide_eq_true_eq, decide_eq_false_iff_not, Bool.not_eq_true', Bool.not_eq_false', Bool.and_eq_true, Bool.or_eq_true, Bool.and_eq_false_iff, Bool.or_eq_false_iff] at c55
      refine W.seq ?_
      refine W.region ?_
      refine WL.c rfl (o_fa 1 TI28 rfl TI3 rfl h5 ?_)
      refine WL.c rfl (o_ld TI3 rfl rfl (cell_of hC5 rfl) ?_)
      refine WL.c rfl (o_fa 2 TI28 rfl TI3 rfl h5 ?_)
      refine WL.c rfl (o_ld TI3 rfl rfl (cell_of hC5 rfl) ?_)
      refine WL.c rfl (o_addi rfl rfl (by omega) ?_)
      refine WL.c rfl (o_le rfl rfl ?_)
      refine WL.c rfl (o_ash (show _ = Value.bool _ from rfl) ?_)
      refine WL.nil ?_
      refine W.ret ?_
      refine ret1v rfl (show _ = Value.bool _ from rfl) ?_
      refine ⟨_, rfl, ?_, hx⟩
      rw [hOk, moreP]
      first
        | rw [if_pos c55]
        | rw [if_neg c55, if_pos c63]
        | rw [if_neg c55, if_neg c63, if_pos c74]
      first | (simp; done) | (simp; omega) | grind
    · try simp only [decide_eq_true_eq, decide_eq_false_iff_not, Bool.not_eq_true', Bool.not_eq_false', Bool.and_eq_true, Bool.or_eq_true, Bool.and_eq_false_iff, Bool.or_eq_false_iff] at c55
      refine W.seq ?_
      refine W.region ?_
      refine WL.c rfl (o_eqT rfl rfl ?_)
      refine WL.c rfl (o_ash (show _ = Value.bool _ from rfl) ?_)
      refine WL.nil ?_
      refine W.cond rfl (fun c63 => ?_) (fun c63 => ?_)
      · try simp only [decide_eq_true_eq, decide_eq_false_iff_not, Bool.not_eq_true', Bool.not_eq_false', Bool.and_eq_true, Bool.or_eq_true, Bool.and_eq_false_iff, Bool.or_eq_false_iff] at c63
        refine W.seq ?_
        refine W.region ?_
        refine WL.c rfl (o_fa 1 TI28 rfl TI3 rfl h5 ?_)
        refine WL.c rfl (o_ld TI3 rfl rfl (cell_of hC5 rfl) ?_)
        refine WL.c rfl (o_fa 2 TI28 rfl TI3 rfl h5 ?_)
        refine WL.c rfl (o_ld TI3 rfl rfl (cell_of hC5 rfl) ?_)
        refine WL.c rfl (o_fa 3 TI28 rfl TI3 rfl h5 ?_)
        refine WL.c rfl (o_ld TI3 rfl rfl (cell_of hC5 rfl) ?_)
        refine WL.c rfl (o_muli rfl rfl (by omega) ?_)
        refine WL.c rfl (o_addi rfl rfl (by omega) ?_)
        refine WL.c rfl (o_le rfl rfl ?_)
        refine WL.c rfl (o_ash (show _ = Value.bool _ from rfl) ?_)
        refine WL.nil ?_
        refine W.ret ?_
        refine ret1v rfl (show _ = Value.bool _ from rfl) ?_
        refine ⟨_, rfl, ?_, hx⟩
        rw [hOk, moreP]
        first
          | rw [if_pos c55]
          | rw [if_neg c55, if_pos c63]
          | rw [if_neg c55, if_neg c63, if_pos c74]
        first | (simp; done) | (simp; omega) | grind
      · try simp only [decide_eq_true_eq, decide_eq_false_iff_not, Bool.not_eq_true', Bool.not_eq_false', Bool.and_eq_true, Bool.or_eq_true, Bool.and_eq_false_iff, Bool.or_eq_false_iff] at c63
        refine W.seq ?_
        refine W.region ?_
        refine WL.c rfl (o_eqT rfl rfl ?_)
        refine WL.c rfl (o_ash (show _ = Value.bool _ from rfl) ?_)
        refine WL.nil ?_
        refine W.cond rfl (fun c74 => ?_) (fun c74 => ?_)
        · try simp only [decide_eq_true_eq, decide_eq_false_iff_not, Bool.not_eq_true', Bool.not_eq_false', Bool.and_eq_true, Bool.or_eq_true, Bool.and_eq_false_iff, Bool.or_eq_false_iff] at c74
          refine W.seq ?_
          refine W.region ?_
          refine WL.c rfl (o_fa 1 TI28 rfl TI3 rfl h5 ?_)
          refine WL.c rfl (o_ld TI3 rfl rfl (cell_of hC5 rfl) ?_)
          refine WL.c rfl (o_eq rfl rfl ?_)
          refine WL.c rfl (o_fa 2 TI28 rfl TI3 rfl h5 ?_)
          refine WL.c rfl (o_ld TI3 rfl rfl (cell_of hC5 rfl) ?_)
          refine WL.c rfl (o_eq rfl rfl ?_)
          refine WL.c rfl (o_eqB TI4 rfl rfl ?_)
          refine WL.c rfl (o_ash (show _ = Value.bool _ from rfl) ?_)
          refine WL.nil ?_
          refine W.ret ?_
          refine ret1v rfl (show _ = Value.bool _ from rfl) ?_
          refine ⟨_, rfl, ?_, hx⟩
          rw [hOk, moreP]
          first
            | rw [if_pos c55]
            | rw [if_neg c55, if_pos c63]
            | rw [if_neg c55, if_neg c63, if_pos c74]
          first | (simp; done) | (simp; omega) | grind
        · try simp only [decide_eq_true_eq, decide_eq_false_iff_not, Bool.not_eq_true', Bool.not_eq_false', Bool.and_eq_true, Bool.or_eq_true, Bool.and_eq_false_iff, Bool.or_eq_false_iff] at c74
          refine W.seq ?_
          refine W.seq ?_
          obtain ⟨wz, rfl⟩ : ∃ wz, wz = w := ⟨_, rfl⟩
          refine W.region ?_
          refine WL.c rfl (o_eqT rfl rfl ?_)
          refine WL.c rfl (o_ash (show _ = Value.bool _ from rfl) ?_)
          refine WL.nil ?_
          refine W.cut (fun e1 w1 => e1 83 = .bool (decide (nm = [117, 110, 105, 111, 110] ∨ nm = [99, 104, 111, 105, 99, 101])) ∧ e1 1 = .int .i64 (i : Int) ∧ e1 2 = .pointer (some ⟨b2, 0, none⟩) ∧ e1 5 = .pointer (some ⟨b5, 0, none⟩) ∧ w1 = wz) ?_ ?_
          · -- both ways
            refine W.cond rfl (fun c83 => ?_) (fun c83 => ?_)
            · try simp only [decide_eq_true_eq, decide_eq_false_iff_not, Bool.not_eq_true', Bool.not_eq_false', Bool.and_eq_true, Bool.or_eq_true, Bool.and_eq_false_iff, Bool.or_eq_false_iff] at c83
              refine W.skip ?_
              first | exact ⟨congrArg Value.bool (by simp [c83]), h1, h2, h5, rfl⟩ | exact ⟨congrArg Value.bool (by simp [c83]), h1, h2, h5, rfl⟩
            · try simp only [decide_eq_true_eq, decide_eq_false_iff_not, Bool.not_eq_true', Bool.not_eq_false', Bool.and_eq_true, Bool.or_eq_true, Bool.and_eq_false_iff, Bool.or_eq_false_iff] at c83
              refine W.region ?_
              refine WL.c rfl (o_eqT rfl rfl ?_)
              refine WL.c rfl (o_ash (show _ = Value.bool _ from rfl) ?_)
              refine WL.nil ?_
              first | exact ⟨congrArg Value.bool (by simp [c83]), h1, h2, h5, rfl⟩ | exact ⟨congrArg Value.bool (by simp [c83]), h1, h2, h5, rfl⟩
          rintro e w ⟨h83, h1, h2, h5, hw1⟩
          refine W.cond h83 (fun c83 => ?_) (fun c83 => ?_)
          · try simp only [decide_eq_true_eq, decide_eq_false_iff_not, Bool.not_eq_true', Bool.not_eq_false', Bool.and_eq_true, Bool.or_eq_true, Bool.and_eq_false_iff, Bool.or_eq_false_iff] at c83
            refine W.seq ?_
            subst hw1
            have hfu := fm_union _ (fmOf_mem hf) c83
            simp only [List.cons.injEq, and_true] at hfu
            obtain ⟨rfl, rfl, rfl⟩ := hfu
            have ha2 : 1 ≤ x.a ∧ x.a ≤ 64 := by simpa [fitP] using ha
            have hAr : OkI p i ↔ ArmsP p.code i x.a := hOk.trans (more_un c83)
            refine W.region ?_
            refine WL.c rfl (o_ldA TI26 rfl h2 (show Cells _ b2 0 (pgV p cv ev_) from Cells.of hC2 0 _ (by simp)) rfl ?_)
            refine WL.c rfl (o_mvh h1 ?_)
            refine WL.c rfl (o_call Tryd.call42 (lc rfl (lc rfl ln)) ((rarms_spec p cv ev_ i _ (hp.ext hpx) hlc hi (by rw [← hx0]; omega)).mono ?_))
            rintro v88 w88 ⟨b88, rfl, hb88, hx88⟩
            rw [← hx0] at hb88
            refine WL.c rfl (o_ash (show _ = Value.bool _ from rfl) ?_)
            refine WL.nil ?_
            refine W.ret ?_
            refine ret1v rfl (show _ = Value.bool _ from rfl) ?_
            exact ⟨_, rfl, hb88.trans hAr.symm, hx.tr hx88⟩
          · try simp only [decide_eq_true_eq, decide_eq_false_iff_not, Bool.not_eq_true', Bool.not_eq_false', Bool.and_eq_true, Bool.or_eq_true, Bool.and_eq_false_iff, Bool.or_eq_false_iff] at c83
            refine W.skip ?_
            refine W.seq ?_
            refine W.region ?_
            refine WL.c rfl (o_ash (show _ = Value.bool _ from rfl) ?_)
            refine WL.nil ?_
            refine W.ret ?_
            refine ret1v rfl (show _ = Value.bool _ from rfl) ?_
            subst hw1; exact ⟨true, rfl, ⟨fun _ => hOk.2 (by rw [moreP, if_neg c55, if_neg c63, if_neg c74, if_neg c83]; trivial), fun _ => rfl⟩, hx⟩
set_option maxHeartbeats 4000000 in
theorem rcheck_spec (p : Pg) (cv ev_ : Value) (w0 : World) (hp : PgR w0 p cv ev_) (hlc : p.code.length ≤ 4611686018427387904) (hle : p.ent.length ≤ 9223372036854775807) : Ca Tryd.prog 35 #[.agg (pgV p cv ev_).toArray] w0 (fun r w' => r = .agg #[.int .i64 ((chk p).1 : Int), .int .i64 ((chk p).2 : Int)] ∧ Ext w0 w') := by
  refine Ca.of Tryd.func35 Tryd.ntmps35 rfl rfl ?_
  refine W.seq ?_
  refine W.region ?_
  refine WL.c rfl (o_boxB rfl ?_)
  intro w1 hC1 hx1 hs1
  obtain ⟨b1, hb1⟩ : ∃ b, b = w0.heap.size := ⟨_, rfl⟩
  rw [← hb1] at hC1 ⊢
  replace hC1 : w1.heap[b1]? = some (.cells (pgV p cv ev_).toArray 26 (0, 0)) := hC1
  have hx : Ext w0 w1 := hx1
  refine WL.c rfl (o_alB TI32 ?_)
  intro w2 hC2 hx2 hs2
  obtain ⟨b2, hb2⟩ : ∃ b, b = w1.heap.size := ⟨_, rfl⟩
  rw [← hb2] at hC2 ⊢
  replace hC2 : w2.heap[b2]? = some (.cells ([.int .i64 0, .int .i64 0]).toArray 32 (0, 0)) := hC2
  have hb2g : w0.heap.size ≤ b2 := by have := hx.size; omega
  replace hx := hx.tr hx2
  replace hC1 := hx2.blk hC1 (fun h => h)
  refine WL.nil ?_
  refine W.seq ?_
  refine W.seq ?_
  refine W.region ?_
  refine WL.cut (fun e1 w1 => e1 14 = .bool (decide (1048576 < p.code.length ∨ 1048576 < p.ent.length)) ∧ e1 1 = .pointer (some ⟨b1, 0, none⟩) ∧ e1 2 = .pointer (some ⟨b2, 0, none⟩) ∧ w1 = w2) ?_ ?_
  · -- region 1
    refine WL.c rfl (o_fa 1 TI26 rfl TI23 rfl rfl ?_)
    refine WL.c rfl (o_ld TI23 rfl rfl (cell_of hC1 rfl) ?_)
    refine WL.c rfl (o_lenR TI23 rfl (hp.code.ext hx) ?_)
    refine WL.c rfl (o_gt rfl rfl ?_)
    refine WL.c rfl (o_mvh (show _ = Value.bool _ from rfl) ?_)
    refine WL.sp 4 rfl (fun g9 => ?_) (fun g9 => ?_)
    · skip
      refine WL.s rfl (g9) rfl ?_
      refine WL.s rfl (g9) rfl ?_
      refine WL.s rfl (g9) rfl ?_
      refine WL.s rfl (g9) rfl ?_
      refine WL.c rfl (o_pickT rfl (g9) ?_)
      exact WL.nil (⟨congrArg Value.bool (by rw [Bool.eq_iff_iff, decide_eq_true_iff]; simp_all <;> omega), rfl, rfl, rfl⟩)
    · skip
      refine WL.g rfl (g9) rfl (o_fa 2 TI26 rfl TI24 rfl rfl ?_)
      refine WL.g rfl (g9) rfl (o_ld TI24 rfl rfl (cell_of hC1 rfl) ?_)
      refine WL.g rfl (g9) rfl (o_lenR TI24 rfl (hp.ent.ext hx) ?_)
      refine WL.g rfl (g9) rfl (o_gt rfl rfl ?_)
      refine WL.c rfl (o_pickO rfl rfl ?_)
      exact WL.nil (⟨congrArg Value.bool (by rw [Bool.eq_iff_iff, decide_eq_true_iff]; simp_all <;> omega), rfl, rfl, rfl⟩)
  rintro e w ⟨h14, h1, h2, hw1⟩
  subst hw1
  refine W.cond h14 (fun c14 => ?_) (fun c14 => ?_)
  · try simp only [decide_eq_true_eq, decide_eq_false_iff_not, Bool.not_eq_true', Bool.not_eq_false', Bool.and_eq_true, Bool.or_eq_true, Bool.and_eq_false_iff, Bool.or_eq_false_iff] at c14
    refine W.seq ?_
    refine W.region ?_
    refine WL.c rfl (o_bldC (cs := [(.int .i64 4), (.int .i64 0)]) TI32 (Sizes.cons TI30 (Sizes.cons TI3 Sizes.nil)) rfl (lcp (show _ = Value.int _ _ from rfl) lnp) rfl rfl ?_)
    refine WL.u (o_stA TI32 h2 rfl rfl rfl (by assumption) rfl ?_)
    intro ws hBs hos hss
    replace hx := hx.trans' hos (fun _ h => h) (fun k hk he => by subst he; omega)
    refine WL.nil ?_
    refine W.ret ?_
    refine retC rfl TI32 rfl h2 (cells_all (by assumption)) rfl ?_
    exact ⟨by rw [chk_eq (.inl ⟨c14, rfl, rfl⟩)]; rfl, hx⟩
  · try simp only [decide_eq_true_eq, decide_eq_false_iff_not, Bool.not_eq_true', Bool.not_eq_false', Bool.and_eq_true, Bool.or_eq_true, Bool.and_eq_false_iff, Bool.or_eq_false_iff] at c14
    have hlc2 : p.code.length ≤ 1048576 ∧ p.ent.length ≤ 1048576 := by omega
    refine W.skip ?_
    refine W.seq ?_
    refine W.seq ?_
    refine W.region ?_
    refine WL.c rfl (o_ash (show _ = Value.int _ _ from rfl) ?_)
    refine WL.nil ?_
    refine W.block ?_
    refine W.loop (fun e w => ∃ k : Nat, k ≤ p.code.length ∧ e 1 = .pointer (some ⟨b1, 0, none⟩) ∧ e 2 = .pointer (some ⟨b2, 0, none⟩) ∧ e 3 = .int .i64 (k : Int) ∧ (∀ j, j < k → OkI p j) ∧ w.heap[b1]? = some (.cells (pgV p cv ev_).toArray 26 (0, 0)) ∧ w.heap[b2]? = some (.cells #[.int .i64 0, .int .i64 0] 32 (0, 0)) ∧ Ext w0 w) (fun e w => p.code.length - (intOf (e 3)).toNat) ?_ ?_
    · exact ⟨0, Nat.zero_le _, h1, h2, rfl, fun j h => absurd h (Nat.not_lt_zero j), hC1, hC2, hx⟩
    rintro e w ⟨k, hk, h1, h2, h3, hall, hC1, hC2, hx⟩
    have hm3 := h3
    refine W.seq ?_
    refine W.seq ?_
    refine W.region ?_
    refine WL.c rfl (o_mvh h3 ?_)
    refine WL.c rfl (o_fa 1 TI26 rfl TI23 rfl h1 ?_)
    refine WL.c rfl (o_ld TI23 rfl rfl (cell_of hC1 rfl) ?_)
    refine WL.c rfl (o_lenR TI23 rfl (hp.code.ext hx) ?_)
    refine WL.c rfl (o_lt rfl rfl ?_)
    refine WL.nil ?_
    refine W.cond rfl (fun c20 => ?_) (fun c20 => ?_)
    · try simp only [decide_eq_true_eq, decide_eq_false_iff_not, Bool.not_eq_true', Bool.not_eq_false', Bool.and_eq_true, Bool.or_eq_true, Bool.and_eq_false_iff, Bool.or_eq_false_iff] at c20
      have hk1 : k < p.code.length := by omega
      refine W.skip ?_
      refine W.seq ?_
      refine W.block ?_
      refine W.seq ?_
      refine W.region ?_
      refine WL.c rfl (o_ldA TI26 rfl h1 (show Cells _ b1 0 (pgV p cv ev_) from Cells.of hC1 0 _ (by simp)) rfl ?_)
      refine WL.c rfl (o_mvh h3 ?_)
      refine WL.c rfl (o_call Tryd.call59 (lc rfl (lc rfl ln)) ((formed_spec p cv ev_ k _ (hp.ext hx) hlc2.1 hlc2.2 hk1).mono ?_))
      rintro v25 w25 ⟨b25, rfl, hb25, hx25⟩
      replace hx := hx.tr hx25
      replace hC1 := hx25.blk hC1 (fun h => h)
      replace hC2 := hx25.blk hC2 (fun h => h)
      refine WL.c rfl (o_not' rfl ?_)
      refine WL.nil ?_
      refine W.cond rfl (fun c26 => ?_) (fun c26 => ?_)
      · try simp only [decide_eq_true_eq, decide_eq_false_iff_not, Bool.not_eq_true', Bool.not_eq_false', Bool.and_eq_true, Bool.or_eq_true, Bool.and_eq_false_iff, Bool.or_eq_false_iff] at c26
        refine W.seq ?_
        refine W.region ?_
        refine WL.c rfl (o_mvh h3 ?_)
        refine WL.c rfl (o_bldC (cs := [(.int .i64 140), _]) TI32 (Sizes.cons TI30 (Sizes.cons TI3 Sizes.nil)) rfl (lcp (show _ = Value.int _ _ from rfl) (lcp (show _ = Value.int _ _ from rfl) lnp)) rfl rfl ?_)
        refine WL.u (o_stA TI32 h2 rfl rfl rfl (by assumption) rfl ?_)
        intro ws hBs hos hss
        replace hx := hx.trans' hos (fun _ h => h) (fun k hk he => by subst he; omega)
        refine WL.nil ?_
        refine W.ret ?_
        refine retC rfl TI32 rfl h2 (cells_all (by assumption)) rfl ?_
        exact ⟨by rw [chk_eq (.inr (.inl ⟨c14, hk1, hall, fun h => by have := hb25.2 h; simp [this] at c26, rfl⟩))]; rfl, hx⟩
      · try simp only [decide_eq_true_eq, decide_eq_false_iff_not, Bool.not_eq_true', Bool.not_eq_false', Bool.and_eq_true, Bool.or_eq_true, Bool.and_eq_false_iff, Bool.or_eq_false_iff] at c26
        refine W.skip ?_
        refine W.region ?_
        refine WL.c rfl (o_mvh h3 ?_)
        refine WL.c rfl (o_addi rfl rfl (by omega) ?_)
        refine WL.c rfl (o_ash (show _ = Value.int _ _ from rfl) ?_)
        refine WL.nil ?_
        refine ⟨⟨k + 1, by omega, h1, h2, rfl, fun j hj => ?_, hC1, hC2, hx⟩, ?_⟩
        · rcases Nat.lt_or_ge j k with h | h
          · exact hall j h
          · rw [show j = k by omega]; exact hb25.1 (by simpa using c26)
        show p.code.length - ((k : Int) + 1).toNat < _
        rw [hm3]; simp [intOf]; omega
    · try simp only [decide_eq_true_eq, decide_eq_false_iff_not, Bool.not_eq_true', Bool.not_eq_false', Bool.and_eq_true, Bool.or_eq_true, Bool.and_eq_false_iff, Bool.or_eq_false_iff] at c20
      obtain rfl : k = p.code.length := by omega
      refine W.exit ?_
      refine W.seq ?_
      refine W.seq ?_
      refine W.region ?_
      refine WL.c rfl (o_ash (show _ = Value.int _ _ from rfl) ?_)
      refine WL.nil ?_
      refine W.block ?_
      refine W.loop (fun e w => ∃ k : Nat, k ≤ p.ent.length ∧ e 1 = .pointer (some ⟨b1, 0, none⟩) ∧ e 2 = .pointer (some ⟨b2, 0, none⟩) ∧ e 4 = .int .i64 (k : Int) ∧ (∀ j, j < k → OkE p j) ∧ w.heap[b1]? = some (.cells (pgV p cv ev_).toArray 26 (0, 0)) ∧ w.heap[b2]? = some (.cells #[.int .i64 0, .int .i64 0] 32 (0, 0)) ∧ Ext w0 w) (fun e w => p.ent.length - (intOf (e 4)).toNat) ?_ ?_
      · exact ⟨0, Nat.zero_le _, h1, h2, rfl, fun j h => absurd h (Nat.not_lt_zero j), hC1, hC2, hx⟩
      rintro e w ⟨k, hk, h1, h2, h4, halle, hC1, hC2, hx⟩
      have hm4 := h4
      refine W.seq ?_
      refine W.seq ?_
      refine W.region ?_
      refine WL.c rfl (o_mvh h4 ?_)
      refine WL.c rfl (o_fa 2 TI26 rfl TI24 rfl h1 ?_)
      refine WL.c rfl (o_ld TI24 rfl rfl (cell_of hC1 rfl) ?_)
      refine WL.c rfl (o_lenR TI24 rfl (hp.ent.ext hx) ?_)
      refine WL.c rfl (o_lt rfl rfl ?_)
      refine WL.nil ?_
      refine W.cond rfl (fun c33 => ?_) (fun c33 => ?_)
      · try simp only [decide_eq_true_eq, decide_eq_false_iff_not, Bool.not_eq_true', Bool.not_eq_false', Bool.and_eq_true, Bool.or_eq_true, Bool.and_eq_false_iff, Bool.or_eq_false_iff] at c33
        have hk1 : k < p.ent.length := by omega
        obtain ⟨eb, eo, ec, hev, hec⟩ := z1_at (hp.ent.ext hx) hk1
        refine W.skip ?_
        refine W.seq ?_
        refine W.block ?_
        refine W.seq ?_
        refine W.quiet rfl (by kernel_rfl) ?_
        refine WQ.c rfl ((QO.o rfl fun _ => o_fa 2 TI26 rfl TI24 rfl h1 ⟨rfl, rfl⟩)) ?_
        refine WQ.c rfl ((QO.o rfl fun _ => o_ld TI24 rfl rfl (cell_of ((Only.drewN _ _).blk hC1 (fun h => h)) rfl) ⟨rfl, rfl⟩)) ?_
        refine WQ.c rfl ((QO.o rfl fun _ => o_mvh h4 ⟨rfl, rfl⟩)) ?_
        refine WQ.c rfl ((QO.o rfl fun _ => o_ixB (i := k) TI24 TI3 hev rfl hk1 ⟨rfl, rfl⟩)) ?_
        refine WQ.c rfl ((QO.o rfl fun _ => o_ld TI3 rfl rfl ((Only.drewN _ _).cell hec (fun h => h)) ⟨rfl, rfl⟩)) ?_
        refine WQ.c rfl ((QO.o rfl fun _ => o_fa 1 TI26 rfl TI23 rfl h1 ⟨rfl, rfl⟩)) ?_
        refine WQ.c rfl ((QO.o rfl fun _ => o_ld TI23 rfl rfl (cell_of ((Only.drewN _ _).blk hC1 (fun h => h)) rfl) ⟨rfl, rfl⟩)) ?_
        refine WQ.c rfl ((QO.r fun _ => r_lenR TI23 rfl (hp.code.ext hx))) ?_
        refine WQ.c rfl ((QO.o rfl fun _ => o_subi rfl rfl (by omega) ⟨rfl, rfl⟩)) ?_
        refine WQ.c rfl (QO.call Tryd.call60 (lc (show _ = Value.int _ _ from rfl) (lc (show _ = Value.int _ _ from rfl) (lc (show _ = Value.int _ _ from rfl) ln))) (fun _ => Ca.same (rin_spec _ _ _ _))) ?_
        refine WQ.c rfl ((QO.o rfl fun _ => o_not' rfl ⟨rfl, rfl⟩)) ?_
        refine WQ.nil ?_
        intro nq
        have hxq := Only.drewN w nq
        replace hx := hx.tr hxq
        replace hC1 := hxq.blk hC1 (fun h => h)
        replace hC2 := hxq.blk hC2 (fun h => h)
        refine W.cond rfl (fun c46 => ?_) (fun c46 => ?_)
        · try simp only [decide_eq_true_eq, decide_eq_false_iff_not, Bool.not_eq_true', Bool.not_eq_false', Bool.and_eq_true, Bool.or_eq_true, Bool.and_eq_false_iff, Bool.or_eq_false_iff] at c46
          refine W.seq ?_
          refine W.region ?_
          refine WL.c rfl (o_mvh h4 ?_)
          refine WL.c rfl (o_bldC (cs := [(.int .i64 3), _]) TI32 (Sizes.cons TI30 (Sizes.cons TI3 Sizes.nil)) rfl (lcp (show _ = Value.int _ _ from rfl) (lcp (show _ = Value.int _ _ from rfl) lnp)) rfl rfl ?_)
          refine WL.u (o_stA TI32 h2 rfl rfl rfl (by assumption) rfl ?_)
          intro ws hBs hos hss
          replace hx := hx.trans' hos (fun _ h => h) (fun k hk he => by subst he; omega)
          refine WL.nil ?_
          refine W.ret ?_
          refine retC rfl TI32 rfl h2 (cells_all (by assumption)) rfl ?_
          exact ⟨by rw [chk_eq (.inr (.inr (.inl ⟨c14, hall, hk1, halle, fun h => by rw [okE_at hk1] at h; (try simp at c46); omega, rfl⟩)))]; rfl, hx⟩
        · try simp only [decide_eq_true_eq, decide_eq_false_iff_not, Bool.not_eq_true', Bool.not_eq_false', Bool.and_eq_true, Bool.or_eq_true, Bool.and_eq_false_iff, Bool.or_eq_false_iff] at c46
          refine W.skip ?_
          refine W.region ?_
          refine WL.c rfl (o_mvh h4 ?_)
          refine WL.c rfl (o_addi rfl rfl (by omega) ?_)
          refine WL.c rfl (o_ash (show _ = Value.int _ _ from rfl) ?_)
          refine WL.nil ?_
          refine ⟨⟨k + 1, by omega, h1, h2, rfl, fun j hj => ?_, hC1, hC2, hx⟩, ?_⟩
          · rcases Nat.lt_or_ge j k with h | h
            · exact halle j h
            · rw [show j = k by omega, okE_at hk1]; (try simp at c46); omega
          show p.ent.length - ((k : Int) + 1).toNat < _
          rw [hm4]; simp [intOf]; omega
      · try simp only [decide_eq_true_eq, decide_eq_false_iff_not, Bool.not_eq_true', Bool.not_eq_false', Bool.and_eq_true, Bool.or_eq_true, Bool.and_eq_false_iff, Bool.or_eq_false_iff] at c33
        obtain rfl : k = p.ent.length := by omega
        refine W.exit ?_
        refine W.seq ?_
        refine W.region ?_
        refine WL.c rfl (o_bldC (cs := [(.int .i64 0), (.int .i64 0)]) TI32 (Sizes.cons TI30 (Sizes.cons TI3 Sizes.nil)) rfl lnp rfl rfl ?_)
        refine WL.u (o_stA TI32 h2 rfl rfl rfl (by assumption) rfl ?_)
        intro ws hBs hos hss
        replace hx := hx.trans' hos (fun _ h => h) (fun k hk he => by subst he; omega)
        refine WL.nil ?_
        refine W.ret ?_
        refine retC rfl TI32 rfl h2 (cells_all (by assumption)) rfl ?_
        exact ⟨by rw [chk_eq (.inr (.inr (.inr ⟨c14, hall, halle, rfl, rfl⟩)))]; rfl, hx⟩
end Go.Proofs.YthlbhnefldaoiaaDoor
