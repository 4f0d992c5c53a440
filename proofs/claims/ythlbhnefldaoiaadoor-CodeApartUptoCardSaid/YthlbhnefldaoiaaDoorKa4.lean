/-
  Walks and lemmas. Written by program out of specs of mine.
-/
import Derived.WalkKit
import Derived.WalkSpells
import Derived.WalkLawsBesides
import Derived.Deep.Quiet
import Derived.StillTail
import Derived.StringKeys
import Derived.Laws.StructEq
import Derived.Laws.Externs
import Derived.Laws.Tables
import Derived.Scope
import Derived.Laws.AppendOwn
import Derived.Maps.AppendAt
import Derived.Recover
import Derived.Test.YthlbhnefldaoiaaDoorProg
import Derived.Shelf.Strconv.Itoa0
import Derived.Shelf.Strconv.Itoa1
import Derived.Shelf.LaysM
import Derived.Shelf.Strconv.Itoa2
import Derived.Shelf.Strconv.Itoa3
import Derived.Shelf.Strings.Builder1
import Derived.Shelf.Strings.OnBuilder
import Derived.Lib.Builder
import Derived.Lib.UnsafeStr
import Derived.Lib.ItoaLen
import Derived.SizedLaws
import Derived.ChangeArms
import Derived.ChangeSlices
import Derived.Lib.ConvBytes
import Derived.Test.YthlbhnefldaoiaaDoorRows
import Derived.ProofKit
import Derived.OpenShut
import Derived.ShutString
import Derived.ChangeOld
import Derived.Below
import Derived.JoinedCond
import Derived.SliceStrings
import Derived.Test.YthlbhnefldaoiaaDoorCards
import Derived.Test.YthlbhnefldaoiaaDoorTie
import Derived.Deep.DeepHandedRow
import Derived.Lib.LaidTab
import Derived.Test.YthlbhnefldaoiaaDoorKa3
set_option linter.unusedSimpArgs false
set_option linter.unusedVariables false
set_option maxRecDepth 100000
set_option linter.unusedSimpArgs false
set_option linter.unusedVariables false
set_option maxRecDepth 100000
namespace Go.Proofs.YthlbhnefldaoiaaDoor
open Go Go.Vc Go.RowKit Go.Proofs
theorem own_take {w : World} {base : Nat} {el : TypeId} {s n m g cap : Nat} {xs : List Value} (h : w.ownsRow base el s (.slice (some ⟨g, 0, none⟩) n cap) n xs) (hm : m ≤ n) : w.ownsRow base el s (.slice (some ⟨g, 0, none⟩) m cap) m (xs.take (m * s)) := by
  obtain ⟨cap', cur, hv, hb, hc, hnc, hcm, hcs, ht⟩ := own_blk h rfl
  simp only [Value.slice.injEq] at hv
  obtain ⟨-, -, rfl⟩ := hv
  have hms : m * s ≤ n * s := Nat.mul_le_mul_right _ hm
  refine ⟨by rw [List.length_take, h.1]; omega, .inr ⟨g, cap, cur, rfl, hb, hc, by omega, hcm, hcs, ?_⟩⟩
  rw [← ht, List.take_take, Nat.min_eq_left hms]
theorem one_all {l : List Value} (h : (l.all fun a => a.oneCell') = true) : ∀ a ∈ l, a.oneCell' = true := List.all_eq_true.1 h

theorem ins_ext {x y : Ins} (h1 : x.op = y.op) (h2 : x.a = y.a) (h3 : x.b = y.b) (h4 : x.c = y.c) : x = y := by cases x; cases y; simp_all
theorem pg_eq {p q : Pg} : p = q ↔ p.enc = q.enc ∧ p.code = q.code ∧ p.ent = q.ent := by
  obtain ⟨a, b, c⟩ := p; obtain ⟨d, e, f⟩ := q; simp
def mkI : Ins := ⟨-901, 0, 0, 0⟩
/-- a program that is lent: its lists, with a mark behind each -/
structure LentP (w : World) (B : Nat) (p : Pg) (g c h d : Nat) : Prop where
  code : w.ownsRow B 28 4 (.slice (some ⟨g, 0, none⟩) (p.code.length + 1) c) (p.code.length + 1) (inss (p.code ++ [mkI]))
  ent : w.ownsRow B 3 1 (.slice (some ⟨h, 0, none⟩) (p.ent.length + 1) d) (p.ent.length + 1) (zs (p.ent ++ [-902]))
def lcv (p : Pg) (g c : Nat) : Value := .slice (some ⟨g, 0, none⟩) p.code.length c
def lev (p : Pg) (h d : Nat) : Value := .slice (some ⟨h, 0, none⟩) p.ent.length d
theorem LentP.only {w w' : World} {F : Nat → Prop} {B : Nat} {p : Pg} {g c h d : Nat} (k : LentP w B p g c h d) (ho : Only F w w') (h1 : ¬ F g) (h2 : ¬ F h) : LentP w' B p g c h d :=
  ⟨own_only k.code ho (fun j hj => by cases hj; exact h1), own_only k.ent ho (fun j hj => by cases hj; exact h2)⟩
theorem LentP.ext {w w' : World} {B : Nat} {p : Pg} {g c h d : Nat} (k : LentP w B p g c h d) (ho : Ext w w') : LentP w' B p g c h d := ⟨own_ext k.code ho, own_ext k.ent ho⟩
theorem LentP.pg {w : World} {B : Nat} {p : Pg} {g c h d : Nat} (k : LentP w B p g c h d) : PgR w p (lcv p g c) (lev p h d) := by
  have h1 := Sl.own (own_take (m := p.code.length) k.code (by omega))
  have h2 := Sl.own (own_take (m := p.ent.length) k.ent (by omega))
  rw [inss_app, List.take_left' (inss_len _)] at h1
  rw [zs_snoc, Nat.mul_one, List.take_left' (zs_len _)] at h2
  exact ⟨h1, h2⟩
theorem LentP.lt {w : World} {B : Nat} {p : Pg} {g c h d : Nat} (k : LentP w B p g c h d) : B ≤ g ∧ g < w.heap.size ∧ B ≤ h ∧ h < w.heap.size := by
  have h1 := k.code.lt g rfl
  have h2 := k.ent.lt h rfl
  omega
theorem LentP.cap {w : World} {B : Nat} {p : Pg} {g c h d : Nat} (k : LentP w B p g c h d) : p.code.length + 1 ≤ c ∧ p.ent.length + 1 ≤ d := by
  obtain ⟨a, c', h1, h2⟩ := own_form k.code
  obtain ⟨a2, c2, h3, h4⟩ := own_form k.ent
  cases h1; cases h3
  exact ⟨h2, h4⟩

set_option maxHeartbeats 2000000 in
theorem eqi_spec (L M : List Ins) (v u : Value) (w0 : World) (hS : Sl w0 4 v L.length (inss L)) (hT : Sl w0 4 u M.length (inss M)) (hl : L.length ≤ 4611686018427387904) : Ca Tryd.prog 32 #[v, u] w0 (fun r w' => r = .bool (decide (L = M)) ∧ Ext w0 w') := by
  have hx : Ext w0 w0 := Only.refl _ _
  refine Ca.of Tryd.func32 Tryd.ntmps32 rfl rfl ?_
  refine W.seq ?_
  refine W.region ?_
  refine WL.c rfl (o_ash (show _ = Value.bool _ from rfl) ?_)
  refine WL.nil ?_
  refine W.seq ?_
  refine W.seq ?_
  refine W.region ?_
  refine WL.c rfl (o_mvh (by first | exact (show _ = Value.slice _ _ _ from rfl) | exact rfl) ?_)
  refine WL.c rfl (o_lenR TI23 rfl hS ?_)
  refine WL.c rfl (o_mvh (by first | exact (show _ = Value.slice _ _ _ from rfl) | exact rfl) ?_)
  refine WL.c rfl (o_lenR TI23 rfl hT ?_)
  refine WL.c rfl (o_ne rfl rfl ?_)
  refine WL.nil ?_
  refine W.cond rfl (fun c10 => ?_) (fun c10 => ?_)
  · try simp only [decide_eq_true_eq, decide_eq_false_iff_not, Bool.not_eq_true', Bool.not_eq_false', Bool.and_eq_true, Bool.or_eq_true, Bool.and_eq_false_iff, Bool.or_eq_false_iff] at c10
    have hn : ¬ L.length = M.length := by omega
    refine W.seq ?_
    refine W.region ?_
    refine WL.c rfl (o_ash (show _ = Value.bool _ from rfl) ?_)
    refine WL.nil ?_
    refine W.ret ?_
    refine ret1v rfl (show _ = Value.bool _ from rfl) ?_
    exact ⟨congrArg Value.bool (decide_eq_false (fun h => hn (by rw [h]))).symm, hx⟩
  · try simp only [decide_eq_true_eq, decide_eq_false_iff_not, Bool.not_eq_true', Bool.not_eq_false', Bool.and_eq_true, Bool.or_eq_true, Bool.and_eq_false_iff, Bool.or_eq_false_iff] at c10
    have hn : L.length = M.length := by omega
    refine W.skip ?_
    refine W.seq ?_
    refine W.seq ?_
    refine W.region ?_
    refine WL.c rfl (o_mvh (by first | exact (show _ = Value.slice _ _ _ from rfl) | exact rfl) ?_)
    refine WL.c rfl (o_lenR TI23 rfl (hS.ext hx) ?_)
    refine WL.c rfl (o_mvh (show _ = Value.int _ _ from rfl) ?_)
    refine WL.nil ?_
    refine W.block ?_
    refine W.loop (fun e w => ∃ i : Nat, i ≤ L.length ∧ e 0 = v ∧ e 1 = u ∧ e 12 = .int .i64 (L.length : Int) ∧ e 13 = .int .i64 (i : Int) ∧ L.take i = M.take i ∧ Ext w0 w) (fun e w => L.length - (intOf (e 13)).toNat) ?_ ?_
    · exact ⟨0, Nat.zero_le _, rfl, rfl, rfl, rfl, rfl, hx⟩
    rintro e w ⟨i, hi, h0, h1, h12, h13, htk, hx⟩
    have hm13 := h13
    refine W.seq ?_
    refine W.region ?_
    refine WL.c rfl (o_lt h13 h12 ?_)
    refine WL.nil ?_
    refine W.seq ?_
    refine W.cond rfl (fun c14 => ?_) (fun c14 => ?_)
    · try simp only [decide_eq_true_eq, decide_eq_false_iff_not, Bool.not_eq_true', Bool.not_eq_false', Bool.and_eq_true, Bool.or_eq_true, Bool.and_eq_false_iff, Bool.or_eq_false_iff] at c14
      have hi1 : i < L.length := by omega
      have hi2 : i < M.length := by omega
      obtain ⟨ub, uo, uc, hv, huc⟩ := Sl.ins (hS.ext hx) hi1
      obtain ⟨vb, vo, vc, hu, hvc⟩ := Sl.ins (hT.ext hx) hi2
      rw [hv] at h0
      rw [hu] at h1
      refine W.skip ?_
      refine W.seq ?_
      refine W.block ?_
      refine W.seq ?_
      refine W.region ?_
      refine WL.c rfl (o_mvh h13 ?_)
      refine WL.c rfl (o_ash (show _ = Value.int _ _ from rfl) ?_)
      refine WL.nil ?_
      refine W.seq ?_
      refine W.quiet rfl (by kernel_rfl) ?_
      refine WQ.c rfl ((QO.o rfl fun _ => o_mvh h0 ⟨rfl, rfl⟩)) ?_
      refine WQ.c rfl ((QO.o rfl fun _ => o_mvh (show _ = Value.int _ _ from rfl) ⟨rfl, rfl⟩)) ?_
      refine WQ.c rfl ((QO.o rfl fun _ => o_ixB (i := i) TI23 TI28 (show _ = Value.slice (some ⟨ub, uo, none⟩) L.length uc from by first | rfl | assumption) (show _ = Value.int .i64 (i : Int) from by first | rfl | assumption) (by omega) ⟨rfl, rfl⟩)) ?_
      refine WQ.c rfl ((QO.o rfl fun _ => o_ldA TI28 rfl rfl (Cells.only (F := No) huc (Only.drewN _ _) (fun h => h)) rfl ⟨rfl, rfl⟩)) ?_
      refine WQ.c rfl ((QO.o rfl fun _ => o_mvh h1 ⟨rfl, rfl⟩)) ?_
      refine WQ.c rfl ((QO.o rfl fun _ => o_mvh (show _ = Value.int _ _ from rfl) ⟨rfl, rfl⟩)) ?_
      refine WQ.c rfl ((QO.o rfl fun _ => o_ixB (i := i) TI23 TI28 (show _ = Value.slice (some ⟨vb, vo, none⟩) M.length vc from by first | rfl | assumption) (show _ = Value.int .i64 (i : Int) from by first | rfl | assumption) (by omega) ⟨rfl, rfl⟩)) ?_
      refine WQ.c rfl ((QO.o rfl fun _ => o_ldA TI28 rfl rfl (Cells.only (F := No) hvc (Only.drewN _ _) (fun h => h)) rfl ⟨rfl, rfl⟩)) ?_
      refine WQ.c rfl ((QO.o rfl fun _ => o_neR TI28 (by kernel_rfl) (by kernel_rfl) rfl rfl (.int TI3 (by decide) rfl rfl (.int TI3 (by decide) rfl rfl (.int TI3 (by decide) rfl rfl (.int TI3 (by decide) rfl rfl .nil)))) ⟨rfl, rfl⟩)) ?_
      refine WQ.nil ?_
      intro nq
      refine W.cond rfl (fun c24 => ?_) (fun c24 => ?_)
      · try simp only [decide_eq_true_eq, decide_eq_false_iff_not, Bool.not_eq_true', Bool.not_eq_false', Bool.and_eq_true, Bool.or_eq_true, Bool.and_eq_false_iff, Bool.or_eq_false_iff] at c24
        have hne : ¬ L[i] = M[i] := fun h => by rw [h] at c24; simp at c24
        refine W.seq ?_
        refine W.region ?_
        refine WL.c rfl (o_ash (show _ = Value.bool _ from rfl) ?_)
        refine WL.nil ?_
        refine W.ret ?_
        refine ret1v rfl (show _ = Value.bool _ from rfl) ?_
        exact ⟨congrArg Value.bool (decide_eq_false (fun h => hne (by subst h; rfl))).symm, hx.tr (Only.drewN _ _)⟩
      · try simp only [decide_eq_true_eq, decide_eq_false_iff_not, Bool.not_eq_true', Bool.not_eq_false', Bool.and_eq_true, Bool.or_eq_true, Bool.and_eq_false_iff, Bool.or_eq_false_iff] at c24
        have hxy : L[i] = M[i] := ins_ext c24.1 c24.2.1 c24.2.2.1 c24.2.2.2.1
        refine W.skip ?_
        refine W.region ?_
        refine WL.c rfl (o_addi h13 rfl (by omega) ?_)
        refine WL.c rfl (o_mvh (show _ = Value.int _ _ from rfl) ?_)
        refine WL.nil ?_
        have hxd := Only.drewN w nq
        refine ⟨⟨i + 1, by omega, h0.trans hv.symm, h1.trans hu.symm, h12, rfl, ?_, hx.tr hxd⟩, ?_⟩
        · rw [List.take_succ_eq_append_getElem hi1, List.take_succ_eq_append_getElem hi2, htk, hxy]
        · show L.length - ((i : Int) + 1).toNat < _
          rw [hm13]; simp [intOf]; omega
    · try simp only [decide_eq_true_eq, decide_eq_false_iff_not, Bool.not_eq_true', Bool.not_eq_false', Bool.and_eq_true, Bool.or_eq_true, Bool.and_eq_false_iff, Bool.or_eq_false_iff] at c14
      have hi1 : i = L.length := by omega
      refine W.exit ?_
      refine W.seq ?_
      refine W.region ?_
      refine WL.c rfl (o_ash (show _ = Value.bool _ from rfl) ?_)
      refine WL.nil ?_
      refine W.ret ?_
      refine ret1v rfl (show _ = Value.bool _ from rfl) ?_
      exact ⟨congrArg Value.bool (decide_eq_true (by rw [hi1, List.take_length, hn, List.take_length] at htk; exact htk)).symm, hx⟩
set_option maxHeartbeats 2000000 in
theorem eqz_spec (L M : List Int) (v u : Value) (w0 : World) (hS : Sl w0 1 v L.length (zs L)) (hT : Sl w0 1 u M.length (zs M)) (hl : L.length ≤ 4611686018427387904) : Ca Tryd.prog 33 #[v, u] w0 (fun r w' => r = .bool (decide (L = M)) ∧ Ext w0 w') := by
  have hx : Ext w0 w0 := Only.refl _ _
  refine Ca.of Tryd.func33 Tryd.ntmps33 rfl rfl ?_
  refine W.seq ?_
  refine W.region ?_
  refine WL.c rfl (o_ash (show _ = Value.bool _ from rfl) ?_)
  refine WL.nil ?_
  refine W.seq ?_
  refine W.seq ?_
  refine W.region ?_
  refine WL.c rfl (o_mvh (by first | exact (show _ = Value.slice _ _ _ from rfl) | exact rfl) ?_)
  refine WL.c rfl (o_lenR TI24 rfl hS ?_)
  refine WL.c rfl (o_mvh (by first | exact (show _ = Value.slice _ _ _ from rfl) | exact rfl) ?_)
  refine WL.c rfl (o_lenR TI24 rfl hT ?_)
  refine WL.c rfl (o_ne rfl rfl ?_)
  refine WL.nil ?_
  refine W.cond rfl (fun c10 => ?_) (fun c10 => ?_)
  · try simp only [decide_eq_true_eq, decide_eq_false_iff_not, Bool.not_eq_true', Bool.not_eq_false', Bool.and_eq_true, Bool.or_eq_true, Bool.and_eq_false_iff, Bool.or_eq_false_iff] at c10
    have hn : ¬ L.length = M.length := by omega
    refine W.seq ?_
    refine W.region ?_
    refine WL.c rfl (o_ash (show _ = Value.bool _ from rfl) ?_)
    refine WL.nil ?_
    refine W.ret ?_
    refine ret1v rfl (show _ = Value.bool _ from rfl) ?_
    exact ⟨congrArg Value.bool (decide_eq_false (fun h => hn (by rw [h]))).symm, hx⟩
  · try simp only [decide_eq_true_eq, decide_eq_false_iff_not, Bool.not_eq_true', Bool.not_eq_false', Bool.and_eq_true, Bool.or_eq_true, Bool.and_eq_false_iff, Bool.or_eq_false_iff] at c10
    have hn : L.length = M.length := by omega
    refine W.skip ?_
    refine W.seq ?_
    refine W.seq ?_
    refine W.region ?_
    refine WL.c rfl (o_mvh (by first | exact (show _ = Value.slice _ _ _ from rfl) | exact rfl) ?_)
    refine WL.c rfl (o_lenR TI24 rfl (hS.ext hx) ?_)
    refine WL.c rfl (o_mvh (show _ = Value.int _ _ from rfl) ?_)
    refine WL.nil ?_
    refine W.block ?_
    refine W.loop (fun e w => ∃ i : Nat, i ≤ L.length ∧ e 0 = v ∧ e 1 = u ∧ e 12 = .int .i64 (L.length : Int) ∧ e 13 = .int .i64 (i : Int) ∧ L.take i = M.take i ∧ Ext w0 w) (fun e w => L.length - (intOf (e 13)).toNat) ?_ ?_
    · exact ⟨0, Nat.zero_le _, rfl, rfl, rfl, rfl, rfl, hx⟩
    rintro e w ⟨i, hi, h0, h1, h12, h13, htk, hx⟩
    have hm13 := h13
    refine W.seq ?_
    refine W.region ?_
    refine WL.c rfl (o_lt h13 h12 ?_)
    refine WL.nil ?_
    refine W.seq ?_
    refine W.cond rfl (fun c14 => ?_) (fun c14 => ?_)
    · try simp only [decide_eq_true_eq, decide_eq_false_iff_not, Bool.not_eq_true', Bool.not_eq_false', Bool.and_eq_true, Bool.or_eq_true, Bool.and_eq_false_iff, Bool.or_eq_false_iff] at c14
      have hi1 : i < L.length := by omega
      have hi2 : i < M.length := by omega
      obtain ⟨ub, uo, uc, hv, huc⟩ := z1_at (hS.ext hx) hi1
      obtain ⟨vb, vo, vc, hu, hvc⟩ := z1_at (hT.ext hx) hi2
      rw [hv] at h0
      rw [hu] at h1
      refine W.skip ?_
      refine W.seq ?_
      refine W.block ?_
      refine W.seq ?_
      refine W.region ?_
      refine WL.c rfl (o_mvh h13 ?_)
      refine WL.c rfl (o_ash (show _ = Value.int _ _ from rfl) ?_)
      refine WL.nil ?_
      refine W.seq ?_
      refine W.quiet rfl (by kernel_rfl) ?_
      refine WQ.c rfl ((QO.o rfl fun _ => o_mvh h0 ⟨rfl, rfl⟩)) ?_
      refine WQ.c rfl ((QO.o rfl fun _ => o_mvh (show _ = Value.int _ _ from rfl) ⟨rfl, rfl⟩)) ?_
      refine WQ.c rfl ((QO.o rfl fun _ => o_ixB (i := i) TI24 TI3 (show _ = Value.slice (some ⟨ub, uo, none⟩) L.length uc from by first | rfl | assumption) (show _ = Value.int .i64 (i : Int) from by first | rfl | assumption) (by omega) ⟨rfl, rfl⟩)) ?_
      refine WQ.c rfl ((QO.o rfl fun _ => o_ld TI3 rfl rfl ((Only.drewN _ _).cell huc (fun h => h)) ⟨rfl, rfl⟩)) ?_
      refine WQ.c rfl ((QO.o rfl fun _ => o_mvh h1 ⟨rfl, rfl⟩)) ?_
      refine WQ.c rfl ((QO.o rfl fun _ => o_mvh (show _ = Value.int _ _ from rfl) ⟨rfl, rfl⟩)) ?_
      refine WQ.c rfl ((QO.o rfl fun _ => o_ixB (i := i) TI24 TI3 (show _ = Value.slice (some ⟨vb, vo, none⟩) M.length vc from by first | rfl | assumption) (show _ = Value.int .i64 (i : Int) from by first | rfl | assumption) (by omega) ⟨rfl, rfl⟩)) ?_
      refine WQ.c rfl ((QO.o rfl fun _ => o_ld TI3 rfl rfl ((Only.drewN _ _).cell hvc (fun h => h)) ⟨rfl, rfl⟩)) ?_
      refine WQ.c rfl ((QO.o rfl fun _ => o_ne rfl rfl ⟨rfl, rfl⟩)) ?_
      refine WQ.nil ?_
      intro nq
      refine W.cond rfl (fun c24 => ?_) (fun c24 => ?_)
      · try simp only [decide_eq_true_eq, decide_eq_false_iff_not, Bool.not_eq_true', Bool.not_eq_false', Bool.and_eq_true, Bool.or_eq_true, Bool.and_eq_false_iff, Bool.or_eq_false_iff] at c24
        have hne : ¬ L[i] = M[i] := by omega
        refine W.seq ?_
        refine W.region ?_
        refine WL.c rfl (o_ash (show _ = Value.bool _ from rfl) ?_)
        refine WL.nil ?_
        refine W.ret ?_
        refine ret1v rfl (show _ = Value.bool _ from rfl) ?_
        exact ⟨congrArg Value.bool (decide_eq_false (fun h => hne (by subst h; rfl))).symm, hx.tr (Only.drewN _ _)⟩
      · try simp only [decide_eq_true_eq, decide_eq_false_iff_not, Bool.not_eq_true', Bool.not_eq_false', Bool.and_eq_true, Bool.or_eq_true, Bool.and_eq_false_iff, Bool.or_eq_false_iff] at c24
        have hxy : L[i] = M[i] := by omega
        refine W.skip ?_
        refine W.region ?_
        refine WL.c rfl (o_addi h13 rfl (by omega) ?_)
        refine WL.c rfl (o_mvh (show _ = Value.int _ _ from rfl) ?_)
        refine WL.nil ?_
        have hxd := Only.drewN w nq
        refine ⟨⟨i + 1, by omega, h0.trans hv.symm, h1.trans hu.symm, h12, rfl, ?_, hx.tr hxd⟩, ?_⟩
        · rw [List.take_succ_eq_append_getElem hi1, List.take_succ_eq_append_getElem hi2, htk, hxy]
        · show L.length - ((i : Int) + 1).toNat < _
          rw [hm13]; simp [intOf]; omega
    · try simp only [decide_eq_true_eq, decide_eq_false_iff_not, Bool.not_eq_true', Bool.not_eq_false', Bool.and_eq_true, Bool.or_eq_true, Bool.and_eq_false_iff, Bool.or_eq_false_iff] at c14
      have hi1 : i = L.length := by omega
      refine W.exit ?_
      refine W.seq ?_
      refine W.region ?_
      refine WL.c rfl (o_ash (show _ = Value.bool _ from rfl) ?_)
      refine WL.nil ?_
      refine W.ret ?_
      refine ret1v rfl (show _ = Value.bool _ from rfl) ?_
      exact ⟨congrArg Value.bool (decide_eq_true (by rw [hi1, List.take_length, hn, List.take_length] at htk; exact htk)).symm, hx⟩
theorem equal_spec (p q : Pg) (cv ev_ cu eu : Value) (w0 : World) (hp : PgR w0 p cv ev_) (hq : PgR w0 q cu eu) (hlc : p.code.length ≤ 4611686018427387904) (hle : p.ent.length ≤ 4611686018427387904) : Ca Tryd.prog 15 #[.agg (pgV p cv ev_).toArray, .agg (pgV q cu eu).toArray] w0 (fun r w' => r = .bool (decide (p = q)) ∧ Ext w0 w') := by
  refine Ca.of Tryd.func15 Tryd.ntmps15 rfl rfl ?_
  refine W.seq ?_
  refine W.region ?_
  refine WL.c rfl (o_boxB rfl ?_)
  intro w2 hC2 hx2 hs2
  obtain ⟨b2, hb2⟩ : ∃ b, b = w0.heap.size := ⟨_, rfl⟩
  rw [← hb2] at hC2 ⊢
  replace hC2 : w2.heap[b2]? = some (.cells (pgV p cv ev_).toArray 26 (0, 0)) := hC2
  have hx : Ext w0 w2 := hx2
  refine WL.c rfl (o_boxB rfl ?_)
  intro w3 hC3 hx3 hs3
  obtain ⟨b3, hb3⟩ : ∃ b, b = w2.heap.size := ⟨_, rfl⟩
  rw [← hb3] at hC3 ⊢
  replace hC3 : w3.heap[b3]? = some (.cells (pgV q cu eu).toArray 26 (0, 0)) := hC3
  replace hx := hx.tr hx3
  replace hC2 := hx3.blk hC2 (fun h => h)
  refine WL.c rfl (o_ash (show _ = Value.bool _ from rfl) ?_)
  refine WL.nil ?_
  refine W.seq ?_
  rcases (show (p.enc == q.enc) = false ∨ ((p.enc == q.enc) = true ∧ decide (p.code = q.code) = false) ∨ ((p.enc == q.enc) = true ∧ decide (p.code = q.code) = true) by cases (p.enc == q.enc) <;> cases decide (p.code = q.code) <;> simp) with he | ⟨he, hc⟩ | ⟨he, hc⟩
  · skip
    refine W.region ?_
    refine WL.c rfl (o_fa 0 TI26 rfl TI4 rfl rfl ?_)
    refine WL.c rfl (o_ld TI4 rfl rfl (cell_of hC2 rfl) ?_)
    refine WL.c rfl (o_fa 0 TI26 rfl TI4 rfl rfl ?_)
    refine WL.c rfl (o_ld TI4 rfl rfl (cell_of hC3 rfl) ?_)
    refine WL.c rfl (o_eqB TI4 rfl rfl ?_)
    refine WL.c rfl (o_mvh (show _ = Value.bool _ from rfl) ?_)
    refine WL.s rfl (he) rfl ?_
    refine WL.s rfl (he) rfl ?_
    refine WL.s rfl (he) rfl ?_
    refine WL.s rfl (he) rfl ?_
    refine WL.s rfl (he) rfl ?_
    refine WL.c rfl (o_pickF rfl (he) ?_)
    refine WL.c rfl (o_mvh (show _ = Value.bool _ from rfl) ?_)
    refine WL.s rfl (rfl) rfl ?_
    refine WL.s rfl (rfl) rfl ?_
    refine WL.s rfl (rfl) rfl ?_
    refine WL.s rfl (rfl) rfl ?_
    refine WL.s rfl (rfl) rfl ?_
    refine WL.c rfl (o_pickF rfl (rfl) ?_)
    refine WL.c rfl (o_ash (show _ = Value.bool _ from rfl) ?_)
    refine WL.nil ?_
    refine W.ret ?_
    refine ret1v rfl (show _ = Value.bool _ from rfl) ?_
    exact ⟨congrArg Value.bool (by rw [eq_comm, decide_eq_false_iff_not, pg_eq]; simp at he; simp [he]), hx⟩
  · skip
    refine W.region ?_
    refine WL.c rfl (o_fa 0 TI26 rfl TI4 rfl rfl ?_)
    refine WL.c rfl (o_ld TI4 rfl rfl (cell_of hC2 rfl) ?_)
    refine WL.c rfl (o_fa 0 TI26 rfl TI4 rfl rfl ?_)
    refine WL.c rfl (o_ld TI4 rfl rfl (cell_of hC3 rfl) ?_)
    refine WL.c rfl (o_eqB TI4 rfl rfl ?_)
    refine WL.c rfl (o_mvh (show _ = Value.bool _ from rfl) ?_)
    refine WL.g rfl (he) rfl (o_fa 1 TI26 rfl TI23 rfl rfl ?_)
    refine WL.g rfl (he) rfl (o_ld TI23 rfl rfl (cell_of hC2 rfl) ?_)
    refine WL.g rfl (he) rfl (o_fa 1 TI26 rfl TI23 rfl rfl ?_)
    refine WL.g rfl (he) rfl (o_ld TI23 rfl rfl (cell_of hC3 rfl) ?_)
    refine WL.g rfl (he) rfl (o_call Tryd.call32 (lc rfl (lc rfl ln)) ((eqi_spec p.code q.code cv cu _ (hp.code.ext hx) (hq.code.ext hx) hlc).mono ?_))
    rintro v15 w15 ⟨rfl, hx15⟩
    replace hx := hx.tr hx15
    replace hC2 := hx15.blk hC2 (fun h => h)
    replace hC3 := hx15.blk hC3 (fun h => h)
    refine WL.c rfl (o_pickA rfl rfl ?_)
    refine WL.c rfl (o_mvh (show _ = Value.bool _ from rfl) ?_)
    refine WL.s rfl (by simp [he, hc]) rfl ?_
    refine WL.s rfl (by simp [he, hc]) rfl ?_
    refine WL.s rfl (by simp [he, hc]) rfl ?_
    refine WL.s rfl (by simp [he, hc]) rfl ?_
    refine WL.s rfl (by simp [he, hc]) rfl ?_
    refine WL.c rfl (o_pickF rfl (by simp [he, hc]) ?_)
    refine WL.c rfl (o_ash (show _ = Value.bool _ from rfl) ?_)
    refine WL.nil ?_
    refine W.ret ?_
    refine ret1v rfl (show _ = Value.bool _ from rfl) ?_
    exact ⟨congrArg Value.bool (by rw [eq_comm, decide_eq_false_iff_not, pg_eq]; simp at hc; simp [hc]), hx⟩
  · skip
    refine W.region ?_
    refine WL.c rfl (o_fa 0 TI26 rfl TI4 rfl rfl ?_)
    refine WL.c rfl (o_ld TI4 rfl rfl (cell_of hC2 rfl) ?_)
    refine WL.c rfl (o_fa 0 TI26 rfl TI4 rfl rfl ?_)
    refine WL.c rfl (o_ld TI4 rfl rfl (cell_of hC3 rfl) ?_)
    refine WL.c rfl (o_eqB TI4 rfl rfl ?_)
    refine WL.c rfl (o_mvh (show _ = Value.bool _ from rfl) ?_)
    refine WL.g rfl (he) rfl (o_fa 1 TI26 rfl TI23 rfl rfl ?_)
    refine WL.g rfl (he) rfl (o_ld TI23 rfl rfl (cell_of hC2 rfl) ?_)
    refine WL.g rfl (he) rfl (o_fa 1 TI26 rfl TI23 rfl rfl ?_)
    refine WL.g rfl (he) rfl (o_ld TI23 rfl rfl (cell_of hC3 rfl) ?_)
    refine WL.g rfl (he) rfl (o_call Tryd.call32 (lc rfl (lc rfl ln)) ((eqi_spec p.code q.code cv cu _ (hp.code.ext hx) (hq.code.ext hx) hlc).mono ?_))
    rintro v15 w15 ⟨rfl, hx15⟩
    replace hx := hx.tr hx15
    replace hC2 := hx15.blk hC2 (fun h => h)
    replace hC3 := hx15.blk hC3 (fun h => h)
    refine WL.c rfl (o_pickA rfl rfl ?_)
    refine WL.c rfl (o_mvh (show _ = Value.bool _ from rfl) ?_)
    refine WL.g rfl (by simp [he, hc]) rfl (o_fa 2 TI26 rfl TI24 rfl rfl ?_)
    refine WL.g rfl (by simp [he, hc]) rfl (o_ld TI24 rfl rfl (cell_of hC2 rfl) ?_)
    refine WL.g rfl (by simp [he, hc]) rfl (o_fa 2 TI26 rfl TI24 rfl rfl ?_)
    refine WL.g rfl (by simp [he, hc]) rfl (o_ld TI24 rfl rfl (cell_of hC3 rfl) ?_)
    refine WL.g rfl (by simp [he, hc]) rfl (o_call Tryd.call33 (lc rfl (lc rfl ln)) ((eqz_spec p.ent q.ent ev_ eu _ (hp.ent.ext hx) (hq.ent.ext hx) hle).mono ?_))
    rintro v22 w22 ⟨rfl, hx22⟩
    replace hx := hx.tr hx22
    refine WL.c rfl (o_pickA rfl rfl ?_)
    refine WL.c rfl (o_ash (show _ = Value.bool _ from rfl) ?_)
    refine WL.nil ?_
    refine W.ret ?_
    refine ret1v rfl (show _ = Value.bool _ from rfl) ?_
    exact ⟨congrArg Value.bool (by rw [Bool.eq_iff_iff, decide_eq_true_iff, pg_eq]; simp at he hc; simp [he, hc]), hx⟩
set_option maxHeartbeats 4000000 in
theorem requal_spec (p q : Pg) (cv ev_ cu eu : Value) (w0 : World) (hp : PgR w0 p cv ev_) (hq : PgR w0 q cu eu) (hlc : p.code.length ≤ 4611686018427387904) (hle : p.ent.length ≤ 4611686018427387904) : Ca Tryd.prog 19 #[.agg (pgV p cv ev_).toArray, .agg (pgV q cu eu).toArray] w0 (fun r w' => r = .bool (decide (p = q)) ∧ Ext w0 w') := by
  refine Ca.of Tryd.func19 Tryd.ntmps19 rfl rfl ?_
  refine W.seq ?_
  refine W.region ?_
  refine WL.c rfl (o_boxB rfl ?_)
  intro w2 hC2 hx2 hs2
  obtain ⟨b2, hb2⟩ : ∃ b, b = w0.heap.size := ⟨_, rfl⟩
  rw [← hb2] at hC2 ⊢
  replace hC2 : w2.heap[b2]? = some (.cells (pgV p cv ev_).toArray 26 (0, 0)) := hC2
  have hx : Ext w0 w2 := hx2
  refine WL.c rfl (o_boxB rfl ?_)
  intro w3 hC3 hx3 hs3
  obtain ⟨b3, hb3⟩ : ∃ b, b = w2.heap.size := ⟨_, rfl⟩
  rw [← hb3] at hC3 ⊢
  replace hC3 : w3.heap[b3]? = some (.cells (pgV q cu eu).toArray 26 (0, 0)) := hC3
  replace hx := hx.tr hx3
  replace hC2 := hx3.blk hC2 (fun h => h)
  refine WL.c rfl (o_ash (show _ = Value.bool _ from rfl) ?_)
  refine WL.nil ?_
  refine W.seq ?_
  refine W.seq ?_
  refine W.region ?_
  refine WL.cut (fun e1 w1 => e1 29 = .bool (decide (p.enc ≠ q.enc ∨ p.code.length ≠ q.code.length ∨ p.ent.length ≠ q.ent.length)) ∧ e1 2 = .pointer (some ⟨b2, 0, none⟩) ∧ e1 3 = .pointer (some ⟨b3, 0, none⟩) ∧ w1 = w3) ?_ ?_
  · -- region 1
    refine WL.c rfl (o_fa 0 TI26 rfl TI4 rfl rfl ?_)
    refine WL.c rfl (o_ld TI4 rfl rfl (cell_of hC2 rfl) ?_)
    refine WL.c rfl (o_fa 0 TI26 rfl TI4 rfl rfl ?_)
    refine WL.c rfl (o_ld TI4 rfl rfl (cell_of hC3 rfl) ?_)
    refine WL.c rfl (o_neB TI4 rfl rfl ?_)
    refine WL.c rfl (o_mvh (show _ = Value.bool _ from rfl) ?_)
    refine WL.sp 5 rfl (fun g12 => ?_) (fun g12 => ?_)
    · skip
      refine WL.s rfl (g12) rfl ?_
      refine WL.s rfl (g12) rfl ?_
      refine WL.s rfl (g12) rfl ?_
      refine WL.s rfl (g12) rfl ?_
      refine WL.s rfl (g12) rfl ?_
      refine WL.s rfl (g12) rfl ?_
      refine WL.s rfl (g12) rfl ?_
      refine WL.c rfl (o_pickT rfl (g12) ?_)
      refine WL.c rfl (o_mvh (show _ = Value.bool _ from rfl) ?_)
      refine WL.s rfl (rfl) rfl ?_
      refine WL.s rfl (rfl) rfl ?_
      refine WL.s rfl (rfl) rfl ?_
      refine WL.s rfl (rfl) rfl ?_
      refine WL.s rfl (rfl) rfl ?_
      refine WL.s rfl (rfl) rfl ?_
      refine WL.s rfl (rfl) rfl ?_
      refine WL.c rfl (o_pickT rfl (rfl) ?_)
      exact WL.nil (⟨congrArg Value.bool (by rw [Bool.eq_iff_iff, decide_eq_true_iff]; first | (simp_all; done) | (simp_all; omega) | grind), rfl, rfl, rfl⟩)
    · skip
      refine WL.g rfl (g12) rfl (o_fa 1 TI26 rfl TI23 rfl rfl ?_)
      refine WL.g rfl (g12) rfl (o_ld TI23 rfl rfl (cell_of hC2 rfl) ?_)
      refine WL.g rfl (g12) rfl (o_lenR TI23 rfl (hp.code.ext hx) ?_)
      refine WL.g rfl (g12) rfl (o_fa 1 TI26 rfl TI23 rfl rfl ?_)
      refine WL.g rfl (g12) rfl (o_ld TI23 rfl rfl (cell_of hC3 rfl) ?_)
      refine WL.g rfl (g12) rfl (o_lenR TI23 rfl (hq.code.ext hx) ?_)
      refine WL.g rfl (g12) rfl (o_ne rfl rfl ?_)
      refine WL.c rfl (o_pickO rfl rfl ?_)
      refine WL.c rfl (o_mvh (show _ = Value.bool _ from rfl) ?_)
      refine WL.sp 14 rfl (fun g21 => ?_) (fun g21 => ?_)
      · skip
        refine WL.s rfl (g21) rfl ?_
        refine WL.s rfl (g21) rfl ?_
        refine WL.s rfl (g21) rfl ?_
        refine WL.s rfl (g21) rfl ?_
        refine WL.s rfl (g21) rfl ?_
        refine WL.s rfl (g21) rfl ?_
        refine WL.s rfl (g21) rfl ?_
        refine WL.c rfl (o_pickT rfl (g21) ?_)
        exact WL.nil (⟨congrArg Value.bool (by rw [Bool.eq_iff_iff, decide_eq_true_iff]; first | (simp_all; done) | (simp_all; omega) | grind), rfl, rfl, rfl⟩)
      · skip
        refine WL.g rfl (g21) rfl (o_fa 2 TI26 rfl TI24 rfl rfl ?_)
        refine WL.g rfl (g21) rfl (o_ld TI24 rfl rfl (cell_of hC2 rfl) ?_)
        refine WL.g rfl (g21) rfl (o_lenR TI24 rfl (hp.ent.ext hx) ?_)
        refine WL.g rfl (g21) rfl (o_fa 2 TI26 rfl TI24 rfl rfl ?_)
        refine WL.g rfl (g21) rfl (o_ld TI24 rfl rfl (cell_of hC3 rfl) ?_)
        refine WL.g rfl (g21) rfl (o_lenR TI24 rfl (hq.ent.ext hx) ?_)
        refine WL.g rfl (g21) rfl (o_ne rfl rfl ?_)
        refine WL.c rfl (o_pickO rfl rfl ?_)
        exact WL.nil (⟨congrArg Value.bool (by rw [Bool.eq_iff_iff, decide_eq_true_iff]; first | (simp_all; done) | (simp_all; omega) | grind), rfl, rfl, rfl⟩)
  rintro e w ⟨h29, h2, h3, hw1⟩
  subst hw1
  refine W.cond h29 (fun c29 => ?_) (fun c29 => ?_)
  · try simp only [decide_eq_true_eq, decide_eq_false_iff_not, Bool.not_eq_true', Bool.not_eq_false', Bool.and_eq_true, Bool.or_eq_true, Bool.and_eq_false_iff, Bool.or_eq_false_iff] at c29
    refine W.seq ?_
    refine W.region ?_
    refine WL.c rfl (o_ash (show _ = Value.bool _ from rfl) ?_)
    refine WL.nil ?_
    refine W.ret ?_
    refine ret1v rfl (show _ = Value.bool _ from rfl) ?_
    exact ⟨congrArg Value.bool (by rw [eq_comm, decide_eq_false_iff_not]; rintro rfl; simp at c29), hx⟩
  · try simp only [decide_eq_true_eq, decide_eq_false_iff_not, Bool.not_eq_true', Bool.not_eq_false', Bool.and_eq_true, Bool.or_eq_true, Bool.and_eq_false_iff, Bool.or_eq_false_iff] at c29
    have hen : p.enc = q.enc := Classical.byContradiction fun h => c29 (.inl h)
    have hnc : p.code.length = q.code.length := Classical.byContradiction fun h => c29 (.inr (.inl h))
    have hne : p.ent.length = q.ent.length := Classical.byContradiction fun h => c29 (.inr (.inr h))
    refine W.skip ?_
    refine W.seq ?_
    refine W.seq ?_
    refine W.region ?_
    refine WL.c rfl (o_ash (show _ = Value.int _ _ from rfl) ?_)
    refine WL.nil ?_
    refine W.block ?_
    refine W.loop (fun e w => ∃ i : Nat, i ≤ p.code.length ∧ e 2 = .pointer (some ⟨b2, 0, none⟩) ∧ e 3 = .pointer (some ⟨b3, 0, none⟩) ∧ e 5 = .int .i64 (i : Int) ∧ p.code.take i = q.code.take i ∧ w.heap[b2]? = some (.cells (pgV p cv ev_).toArray 26 (0, 0)) ∧ w.heap[b3]? = some (.cells (pgV q cu eu).toArray 26 (0, 0)) ∧ Ext w0 w) (fun e w => p.code.length - (intOf (e 5)).toNat) ?_ ?_
    · exact ⟨0, Nat.zero_le _, h2, h3, rfl, rfl, hC2, hC3, hx⟩
    rintro e w ⟨i, hi, h2, h3, h5, htk, hC2, hC3, hx⟩
    have hm5 := h5
    refine W.seq ?_
    refine W.seq ?_
    refine W.region ?_
    refine WL.c rfl (o_mvh h5 ?_)
    refine WL.c rfl (o_fa 1 TI26 rfl TI23 rfl h2 ?_)
    refine WL.c rfl (o_ld TI23 rfl rfl (cell_of hC2 rfl) ?_)
    refine WL.c rfl (o_lenR TI23 rfl (hp.code.ext hx) ?_)
    refine WL.c rfl (o_lt rfl rfl ?_)
    refine WL.nil ?_
    refine W.cond rfl (fun c34 => ?_) (fun c34 => ?_)
    · try simp only [decide_eq_true_eq, decide_eq_false_iff_not, Bool.not_eq_true', Bool.not_eq_false', Bool.and_eq_true, Bool.or_eq_true, Bool.and_eq_false_iff, Bool.or_eq_false_iff] at c34
      have hi1 : i < p.code.length := by omega
      have hi2 : i < q.code.length := by omega
      obtain ⟨ub, uo, uc, hv, huc⟩ := Sl.ins (hp.code.ext hx) hi1
      obtain ⟨vb, vo, vc, hu, hvc⟩ := Sl.ins (hq.code.ext hx) hi2
      refine W.skip ?_
      refine W.seq ?_
      refine W.block ?_
      refine W.seq ?_
      refine W.quiet rfl (by kernel_rfl) ?_
      refine WQ.c rfl ((QO.o rfl fun _ => o_fa 1 TI26 rfl TI23 rfl h2 ⟨rfl, rfl⟩)) ?_
      refine WQ.c rfl ((QO.o rfl fun _ => o_ld TI23 rfl rfl (cell_of ((Only.drewN _ _).blk hC2 (fun h => h)) rfl) ⟨rfl, rfl⟩)) ?_
      refine WQ.c rfl ((QO.o rfl fun _ => o_mvh h5 ⟨rfl, rfl⟩)) ?_
      refine WQ.c rfl ((QO.o rfl fun _ => o_ixB (i := i) TI23 TI28 hv rfl hi1 ⟨rfl, rfl⟩)) ?_
      refine WQ.c rfl ((QO.o rfl fun _ => o_ldA TI28 rfl rfl (Cells.only (F := No) huc (Only.drewN _ _) (fun h => h)) rfl ⟨rfl, rfl⟩)) ?_
      refine WQ.c rfl ((QO.o rfl fun _ => o_fa 1 TI26 rfl TI23 rfl h3 ⟨rfl, rfl⟩)) ?_
      refine WQ.c rfl ((QO.o rfl fun _ => o_ld TI23 rfl rfl (cell_of ((Only.drewN _ _).blk hC3 (fun h => h)) rfl) ⟨rfl, rfl⟩)) ?_
      refine WQ.c rfl ((QO.o rfl fun _ => o_mvh h5 ⟨rfl, rfl⟩)) ?_
      refine WQ.c rfl ((QO.o rfl fun _ => o_ixB (i := i) TI23 TI28 hu rfl hi2 ⟨rfl, rfl⟩)) ?_
      refine WQ.c rfl ((QO.o rfl fun _ => o_ldA TI28 rfl rfl (Cells.only (F := No) hvc (Only.drewN _ _) (fun h => h)) rfl ⟨rfl, rfl⟩)) ?_
      refine WQ.c rfl ((QO.o rfl fun _ => o_neR TI28 (by kernel_rfl) (by kernel_rfl) rfl rfl (.int TI3 (by decide) rfl rfl (.int TI3 (by decide) rfl rfl (.int TI3 (by decide) rfl rfl (.int TI3 (by decide) rfl rfl .nil)))) ⟨rfl, rfl⟩)) ?_
      refine WQ.nil ?_
      intro nq
      have hxq := Only.drewN w nq
      replace hx := hx.tr hxq
      replace hC2 := hxq.blk hC2 (fun h => h)
      replace hC3 := hxq.blk hC3 (fun h => h)
      refine W.cond rfl (fun c47 => ?_) (fun c47 => ?_)
      · try simp only [decide_eq_true_eq, decide_eq_false_iff_not, Bool.not_eq_true', Bool.not_eq_false', Bool.and_eq_true, Bool.or_eq_true, Bool.and_eq_false_iff, Bool.or_eq_false_iff] at c47
        have hne2 : ¬ p.code[i] = q.code[i] := fun h => by rw [h] at c47; simp at c47
        refine W.seq ?_
        refine W.region ?_
        refine WL.c rfl (o_ash (show _ = Value.bool _ from rfl) ?_)
        refine WL.nil ?_
        refine W.ret ?_
        refine ret1v rfl (show _ = Value.bool _ from rfl) ?_
        exact ⟨congrArg Value.bool (by rw [eq_comm, decide_eq_false_iff_not]; rintro rfl; exact hne2 rfl), hx⟩
      · try simp only [decide_eq_true_eq, decide_eq_false_iff_not, Bool.not_eq_true', Bool.not_eq_false', Bool.and_eq_true, Bool.or_eq_true, Bool.and_eq_false_iff, Bool.or_eq_false_iff] at c47
        have hxy : p.code[i] = q.code[i] := ins_ext c47.1 c47.2.1 c47.2.2.1 c47.2.2.2.1
        refine W.skip ?_
        refine W.region ?_
        refine WL.c rfl (o_mvh h5 ?_)
        refine WL.c rfl (o_addi rfl rfl (by omega) ?_)
        refine WL.c rfl (o_ash (show _ = Value.int _ _ from rfl) ?_)
        refine WL.nil ?_
        refine ⟨⟨i + 1, by omega, h2, h3, rfl, ?_, hC2, hC3, hx⟩, ?_⟩
        · rw [List.take_succ_eq_append_getElem hi1, List.take_succ_eq_append_getElem hi2, htk, hxy]
        · show p.code.length - ((i : Int) + 1).toNat < _
          rw [hm5]; simp [intOf]; omega
    · try simp only [decide_eq_true_eq, decide_eq_false_iff_not, Bool.not_eq_true', Bool.not_eq_false', Bool.and_eq_true, Bool.or_eq_true, Bool.and_eq_false_iff, Bool.or_eq_false_iff] at c34
      have hcode : p.code = q.code := (by have hi1 : i = p.code.length := (by omega); rw [hi1, List.take_length, hnc, List.take_length] at htk; exact htk)
      refine W.exit ?_
      refine W.seq ?_
      refine W.seq ?_
      refine W.region ?_
      refine WL.c rfl (o_ash (show _ = Value.int _ _ from rfl) ?_)
      refine WL.nil ?_
      refine W.block ?_
      refine W.loop (fun e w => ∃ i : Nat, i ≤ p.ent.length ∧ e 2 = .pointer (some ⟨b2, 0, none⟩) ∧ e 3 = .pointer (some ⟨b3, 0, none⟩) ∧ e 6 = .int .i64 (i : Int) ∧ p.ent.take i = q.ent.take i ∧ w.heap[b2]? = some (.cells (pgV p cv ev_).toArray 26 (0, 0)) ∧ w.heap[b3]? = some (.cells (pgV q cu eu).toArray 26 (0, 0)) ∧ Ext w0 w) (fun e w => p.ent.length - (intOf (e 6)).toNat) ?_ ?_
      · exact ⟨0, Nat.zero_le _, h2, h3, rfl, rfl, hC2, hC3, hx⟩
      rintro e w ⟨i, hi, h2, h3, h6, htk, hC2, hC3, hx⟩
      have hm6 := h6
      refine W.seq ?_
      refine W.seq ?_
      refine W.region ?_
      refine WL.c rfl (o_mvh h6 ?_)
      refine WL.c rfl (o_fa 2 TI26 rfl TI24 rfl h2 ?_)
      refine WL.c rfl (o_ld TI24 rfl rfl (cell_of hC2 rfl) ?_)
      refine WL.c rfl (o_lenR TI24 rfl (hp.ent.ext hx) ?_)
      refine WL.c rfl (o_lt rfl rfl ?_)
      refine WL.nil ?_
      refine W.cond rfl (fun c52 => ?_) (fun c52 => ?_)
      · try simp only [decide_eq_true_eq, decide_eq_false_iff_not, Bool.not_eq_true', Bool.not_eq_false', Bool.and_eq_true, Bool.or_eq_true, Bool.and_eq_false_iff, Bool.or_eq_false_iff] at c52
        have hi1 : i < p.ent.length := by omega
        have hi2 : i < q.ent.length := by omega
        obtain ⟨ub, uo, uc, hv, huc⟩ := z1_at (hp.ent.ext hx) hi1
        obtain ⟨vb, vo, vc, hu, hvc⟩ := z1_at (hq.ent.ext hx) hi2
        refine W.skip ?_
        refine W.seq ?_
        refine W.block ?_
        refine W.seq ?_
        refine W.quiet rfl (by kernel_rfl) ?_
        refine WQ.c rfl ((QO.o rfl fun _ => o_fa 2 TI26 rfl TI24 rfl h2 ⟨rfl, rfl⟩)) ?_
        refine WQ.c rfl ((QO.o rfl fun _ => o_ld TI24 rfl rfl (cell_of ((Only.drewN _ _).blk hC2 (fun h => h)) rfl) ⟨rfl, rfl⟩)) ?_
        refine WQ.c rfl ((QO.o rfl fun _ => o_mvh h6 ⟨rfl, rfl⟩)) ?_
        refine WQ.c rfl ((QO.o rfl fun _ => o_ixB (i := i) TI24 TI3 hv rfl hi1 ⟨rfl, rfl⟩)) ?_
        refine WQ.c rfl ((QO.o rfl fun _ => o_ld TI3 rfl rfl ((Only.drewN _ _).cell huc (fun h => h)) ⟨rfl, rfl⟩)) ?_
        refine WQ.c rfl ((QO.o rfl fun _ => o_fa 2 TI26 rfl TI24 rfl h3 ⟨rfl, rfl⟩)) ?_
        refine WQ.c rfl ((QO.o rfl fun _ => o_ld TI24 rfl rfl (cell_of ((Only.drewN _ _).blk hC3 (fun h => h)) rfl) ⟨rfl, rfl⟩)) ?_
        refine WQ.c rfl ((QO.o rfl fun _ => o_mvh h6 ⟨rfl, rfl⟩)) ?_
        refine WQ.c rfl ((QO.o rfl fun _ => o_ixB (i := i) TI24 TI3 hu rfl hi2 ⟨rfl, rfl⟩)) ?_
        refine WQ.c rfl ((QO.o rfl fun _ => o_ld TI3 rfl rfl ((Only.drewN _ _).cell hvc (fun h => h)) ⟨rfl, rfl⟩)) ?_
        refine WQ.c rfl ((QO.o rfl fun _ => o_ne rfl rfl ⟨rfl, rfl⟩)) ?_
        refine WQ.nil ?_
        intro nq
        have hxq := Only.drewN w nq
        replace hx := hx.tr hxq
        replace hC2 := hxq.blk hC2 (fun h => h)
        replace hC3 := hxq.blk hC3 (fun h => h)
        refine W.cond rfl (fun c65 => ?_) (fun c65 => ?_)
        · try simp only [decide_eq_true_eq, decide_eq_false_iff_not, Bool.not_eq_true', Bool.not_eq_false', Bool.and_eq_true, Bool.or_eq_true, Bool.and_eq_false_iff, Bool.or_eq_false_iff] at c65
          have hne2 : ¬ p.ent[i] = q.ent[i] := by omega
          refine W.seq ?_
          refine W.region ?_
          refine WL.c rfl (o_ash (show _ = Value.bool _ from rfl) ?_)
          refine WL.nil ?_
          refine W.ret ?_
          refine ret1v rfl (show _ = Value.bool _ from rfl) ?_
          exact ⟨congrArg Value.bool (by rw [eq_comm, decide_eq_false_iff_not]; rintro rfl; exact hne2 rfl), hx⟩
        · try simp only [decide_eq_true_eq, decide_eq_false_iff_not, Bool.not_eq_true', Bool.not_eq_false', Bool.and_eq_true, Bool.or_eq_true, Bool.and_eq_false_iff, Bool.or_eq_false_iff] at c65
          have hxy : p.ent[i] = q.ent[i] := by omega
          refine W.skip ?_
          refine W.region ?_
          refine WL.c rfl (o_mvh h6 ?_)
          refine WL.c rfl (o_addi rfl rfl (by omega) ?_)
          refine WL.c rfl (o_ash (show _ = Value.int _ _ from rfl) ?_)
          refine WL.nil ?_
          refine ⟨⟨i + 1, by omega, h2, h3, rfl, ?_, hC2, hC3, hx⟩, ?_⟩
          · rw [List.take_succ_eq_append_getElem hi1, List.take_succ_eq_append_getElem hi2, htk, hxy]
          · show p.ent.length - ((i : Int) + 1).toNat < _
            rw [hm6]; simp [intOf]; omega
      · try simp only [decide_eq_true_eq, decide_eq_false_iff_not, Bool.not_eq_true', Bool.not_eq_false', Bool.and_eq_true, Bool.or_eq_true, Bool.and_eq_false_iff, Bool.or_eq_false_iff] at c52
        refine W.exit ?_
        refine W.seq ?_
        refine W.region ?_
        refine WL.c rfl (o_ash (show _ = Value.bool _ from rfl) ?_)
        refine WL.nil ?_
        refine W.ret ?_
        refine ret1v rfl (show _ = Value.bool _ from rfl) ?_
        exact ⟨congrArg Value.bool (by rw [eq_comm, decide_eq_true_iff, pg_eq]; refine ⟨hen, hcode, ?_⟩; have hi1 : i = p.ent.length := (by omega); rw [hi1, List.take_length, hne, List.take_length] at htk; exact htk), hx⟩
end Go.Proofs.YthlbhnefldaoiaaDoor

set_option linter.unusedSimpArgs false
set_option linter.unusedVariables false
set_option maxRecDepth 100000
namespace Go.Proofs.YthlbhnefldaoiaaDoor
open Go Go.Vc Go.RowKit Go.Proofs
def FP (H p : Nat) (w : World) (k : Nat) : Prop := k = p ∨ (H ≤ k ∧ ∃ c d, w.heap[k]? = some (.cells c 5 d))
theorem FP.tr {H p : Nat} {a b c : World} (h : Only (FP H p a) a b) (k : Only (FP H p b) b c) : Only (FP H p a) a c :=
  h.trans' k (fun _ h => h) (fun j hj hF => by
    rcases hF with hF | ⟨h1, x, d, h2⟩
    · exact .inl hF
    · by_cases hn : FP H p a j
      · exact hn
      · have := h.block j hj hn
        exact .inr ⟨h1, x, d, by rw [← this]; exact h2⟩)
theorem FP.ext {H p : Nat} {a b c : World} (h : Only (FP H p a) a b) (k : Ext b c) : Only (FP H p a) a c := h.trans' k (fun _ h => h) (fun _ _ h => h.elim)
theorem FP.ext0 {H p : Nat} {a b c : World} (k : Ext a b) (h : Only (FP H p b) b c) : Only (FP H p a) a c := FP.tr (k.mono (fun _ _ h => h.elim)) h
theorem FP.blk {H p : Nat} {a b : World} (h : Only (FP H p a) a b) {k : Nat} {cs : Array Value} {T : TypeId} {fr : Nat × Nat} (hk : a.heap[k]? = some (.cells cs T fr)) (hT : T ≠ 5) (hp : k ≠ p) : b.heap[k]? = some (.cells cs T fr) :=
  h.blk hk (fun hF => by
    rcases hF with hF | ⟨-, c, d, h2⟩
    · exact hp hF
    · rw [hk] at h2; simp only [Option.some.injEq, Obj.cells.injEq] at h2; exact hT h2.2.1)
theorem FP.off {H p : Nat} {a : World} {k : Nat} (hp : H ≤ p) (h : k < H) : ¬ FP H p a k := fun hF => by
  rcases hF with hF | ⟨h1, -⟩ <;> omega
theorem own_u8 {w : World} {base b : Nat} {n : Nat} {v : Value} {xs : List Value} (h : w.ownsRow base 5 1 v n xs) (hb : v.ownBlock = some b) : ∃ c d, w.heap[b]? = some (.cells c 5 d) := by
  rcases h.2 with ⟨rfl, _⟩ | ⟨g, cap, cur, rfl, h1, h2, r⟩
  · simp [Value.ownBlock] at hb
  · simp only [Value.ownBlock, Option.some.injEq] at hb
    subst hb
    exact ⟨cur, _, h2⟩
theorem o_cvN {P : Program} {e : Env} {w : World} {K : Value → World → Prop} {ty : TypeId} {x : Operand} {t u : TypeId} {z0 : Int} {s b s' b' : Nat} {z z' : Value} (ht : Ty P t (.int .i64) s b z) (hu : Ty P u (.int .u64) s' b' z') (hx : ev e x = .int .i64 z0) (h0 : 0 ≤ z0) (h1 : z0 < 18446744073709551616) (kk : K (.int .u64 (z0.toNat : Int)) w) : OP P e (.convert t u x) ty w K :=
  o_cvI ht hu hx (by
    obtain ⟨n, rfl⟩ : ∃ n : Nat, z0 = (n : Int) := ⟨z0.toNat, by omega⟩
    have h2 : IntKind.u64.wrap (n : Int) = (n : Int) := by
      rw [wrapU (by decide)]
      have h3 : 2 ^ ubits IntKind.u64 = 18446744073709551616 := by decide
      rw [h3, Nat.mod_eq_of_lt (by omega)]
    rw [h2]; exact kk)

/-- which operands there are -/
def selK (ls : List UInt8) (k : Nat) : List Nat := (List.range k).filter fun j => decide (ls.getD j 0 ≠ 32)
abbrev selI (ls : List UInt8) : List Nat := selK ls 3
theorem selK_succ (ls : List UInt8) (k : Nat) : selK ls (k + 1) = selK ls k ++ (if ls.getD k 0 = 32 then [] else [k]) := by
  unfold selK
  rw [List.range_succ, List.filter_append]
  congr 1
  show (match decide (ls.getD k 0 ≠ 32) with | true => [k] | false => []) = _
  by_cases h : ls.getD k 0 = 32
  · rw [if_pos h, decide_eq_false (by simpa using h)]
  · rw [if_neg h, decide_eq_true h]
theorem selK_le (ls : List UInt8) (k : Nat) : (selK ls k).length ≤ k := by
  unfold selK
  exact Nat.le_trans (List.length_filter_le _ _) (by simp)
theorem selK_lt {ls : List UInt8} {k j : Nat} (h : j ∈ selK ls k) : j < k := by
  unfold selK at h
  simpa using (List.mem_filter.1 h).1
def opAt (x : Ins) (j : Nat) : Int := if j = 0 then x.a else if j = 1 then x.b else x.c
theorem opsI_sel (l0 l1 l2 : UInt8) (x : Ins) : opsI [l0, l1, l2] x = (selI [l0, l1, l2]).map (opAt x) := by
  show _ = (selK [l0, l1, l2] (0 + 1 + 1 + 1)).map _
  rw [selK_succ, selK_succ, selK_succ]
  unfold opsI
  simp only [List.getD_cons_zero, List.getD_cons_succ, Nat.zero_add, Nat.reduceAdd]
  split <;> split <;> split <;> simp [selK, opAt]
theorem tl_32 (c : UInt8) : tl c = 32 ↔ c = 32 := by
  unfold tl
  split
  · rename_i h; subst h; decide
  · split
    · rename_i h; subst h; decide
    · split
      · rename_i h; subst h; decide
      · split
        · rename_i h; subst h; decide
        · split
          · rename_i h; subst h; decide
          · rfl
theorem selI_tl (l0 l1 l2 : UInt8) : selI [tl l0, tl l1, tl l2] = selI [l0, l1, l2] := by
  show selK _ (0 + 1 + 1 + 1) = selK _ (0 + 1 + 1 + 1)
  rw [selK_succ, selK_succ, selK_succ, selK_succ, selK_succ, selK_succ]
  simp only [List.getD_cons_zero, List.getD_cons_succ, Nat.zero_add, Nat.reduceAdd, tl_32]
  rfl
def ptrJ (b j : Nat) : Value := .pointer (some ⟨b, 1 + j, none⟩)
theorem at3 (f : Nat → Value) {k : Nat} (h : k < 3) : (#[f 0, f 1, f 2])[0 + k * 1]? = some (f k) := by
  have : k = 0 ∨ k = 1 ∨ k = 2 := by omega
  rcases this with rfl | rfl | rfl <;> rfl
/-- bytes that a closure appends to: the cell of the slice, and the row -/
structure BufM (w : World) (H b : Nat) (v : Value) (bs : List UInt8) : Prop where
  cell : w.heap[b]? = some (.cells #[v] 34 (0, 0))
  row : w.ownsRow H 5 1 v bs.length (bs.map bv)
  ge : H ≤ b
theorem BufM.ext {w w' : World} {H b : Nat} {v : Value} {bs : List UInt8} (h : BufM w H b v bs) (ho : Ext w w') : BufM w' H b v bs := ⟨ho.blk h.cell (fun h => h), own_ext h.row ho, h.ge⟩
theorem BufM.off {w : World} {H b : Nat} {v : Value} {bs : List UInt8} (h : BufM w H b v bs) : ¬ v.ownBlock = some b := own_off h.row h.cell (by decide)
theorem vsz {n : Nat} (h : n < 2 ^ 64) : (vput n).length ≤ 10 := by rw [vput_len]; exact vsize_10 h

set_option maxHeartbeats 2000000 in
theorem operands_spec (b : Nat) (nm ls : List UInt8) (w0 : World) (hls : ls.length = 3) : Ca Tryd.prog 29 #[.agg #[st nm, st ls], .pointer (some ⟨b, 0, none⟩)] w0 (fun r w' => w'.ownsRow w0.heap.size 67 1 r (selI ls).length ((selI ls).map (ptrJ b)) ∧ Ext w0 w') := by
  refine Ca.of Tryd.func29 Tryd.ntmps29 rfl rfl ?_
  refine W.seq ?_
  refine W.region ?_
  refine WL.c rfl (o_boxB rfl ?_)
  intro w2 hC2 hx2 hs2
  obtain ⟨b2, hb2⟩ : ∃ b, b = w0.heap.size := ⟨_, rfl⟩
  rw [← hb2] at hC2 ⊢
  replace hC2 : w2.heap[b2]? = some (.cells ([st nm, st ls]).toArray 61 (0, 0)) := hC2
  have hx : Ext w0 w2 := hx2
  refine WL.c rfl (o_ash (by first | exact (show _ = Value.slice _ _ _ from rfl) | exact rfl) ?_)
  refine WL.nil ?_
  refine W.seq ?_
  refine W.region ?_
  refine WL.c rfl (o_ash (by first | exact (show _ = Value.slice _ _ _ from rfl) | exact rfl) ?_)
  refine WL.nil ?_
  refine W.seq ?_
  refine W.seq ?_
  obtain ⟨wd, hwd⟩ : ∃ wd, wd = World.drew w2 := ⟨_, rfl⟩
  have hxd : Ext w2 wd := hwd ▸ Only.drew w2
  replace hx := hx.tr hxd
  replace hC2 := hxd.blk hC2 (fun h => h)
  refine W.draw (Ext) [(1, fun v _ => v = (Value.pointer (some ⟨b, 0, none⟩))), (2, fun v _ => v = (Value.pointer (some ⟨b2, 0, none⟩))), (5, fun v _ => v = (Value.slice none 0 0))] rfl (by kernel_rfl) (Only.refl No) (fun _ _ _ h k => h.trans k) ⟨Mono.eq, Mono.eq, Mono.eq, trivial⟩ ⟨rfl, rfl, rfl, trivial⟩ ?_
  refine WD.p rfl (fun e w hR hh => by obtain ⟨h1, -⟩ := hh; exact SG.n (o_mvh h1 ⟨rfl, Only.refl No _⟩)) ?_
  refine WD.p rfl (fun e w hR hh => by obtain ⟨h8, -⟩ := hh; exact SG.n (o_nil h8 ⟨rfl, Only.refl No _⟩)) ?_
  refine WD.p rfl (fun e w hR hh => by obtain ⟨h9, -⟩ := hh; exact SG.n (o_fa 1 TI28 rfl TI3 rfl h9 ⟨rfl, Only.refl No _⟩)) ?_
  refine WD.p rfl (fun e w hR hh => by obtain ⟨h1, -⟩ := hh; exact SG.n (o_mvh h1 ⟨rfl, Only.refl No _⟩)) ?_
  refine WD.p rfl (fun e w hR hh => by obtain ⟨h11, -⟩ := hh; exact SG.n (o_nil h11 ⟨rfl, Only.refl No _⟩)) ?_
  refine WD.p rfl (fun e w hR hh => by obtain ⟨h12, -⟩ := hh; exact SG.n (o_fa 2 TI28 rfl TI3 rfl h12 ⟨rfl, Only.refl No _⟩)) ?_
  refine WD.p rfl (fun e w hR hh => by obtain ⟨h1, -⟩ := hh; exact SG.n (o_mvh h1 ⟨rfl, Only.refl No _⟩)) ?_
  refine WD.p rfl (fun e w hR hh => by obtain ⟨h14, -⟩ := hh; exact SG.n (o_nil h14 ⟨rfl, Only.refl No _⟩)) ?_
  refine WD.p rfl (fun e w hR hh => by obtain ⟨h15, -⟩ := hh; exact SG.n (o_fa 3 TI28 rfl TI3 rfl h15 ⟨rfl, Only.refl No _⟩)) ?_
  refine WD.q (fun v w => ∃ g, v = .slice (some ⟨g, 0, none⟩) 3 3 ∧ b2 ≤ g ∧ w.heap[g]? = some (.cells #[ptrJ b 0, ptrJ b 1, ptrJ b 2] 67 (0, 0))) (fun v w w2 hR hh => by obtain ⟨g, h1, h2, h3⟩ := hh; exact ⟨g, h1, h2, hR.blk h3 (fun h => h)⟩) rfl (fun e w hR hh => by obtain ⟨h16, h13, h10, -⟩ := hh; rw [← hwd] at hR; exact SG.n (o_bsn (xs := [(.tmp 10), (.tmp 13), (.tmp 16)]) TI64 TI67 rfl (lc h10 (lc h13 (lc h16 ln))) rfl rfl (by decide) (by decide) ⟨⟨_, rfl, by have := (hx.tr hR).size; omega, heap_alloc_new _ _⟩, Only.alloc w _⟩)) ?_
  refine WD.p rfl (fun e w hR hh => by obtain ⟨h17, -⟩ := hh; obtain ⟨g, h17v, -⟩ := h17; exact SG.n (o_len TI64 h17v ⟨rfl, Only.refl No _⟩)) ?_
  refine WD.p rfl (fun e w hR hh => by skip; exact SG.n (o_mvh (show _ = Value.int _ _ from rfl) ⟨rfl, Only.refl No _⟩)) ?_
  rintro e w hR ⟨h19, h18, h17, h16, h15, h14, h13, h12, h11, h10, h9, h8, h1, h2, h5, -⟩
  rw [← hwd] at hR
  obtain ⟨g17, h17v, hg17, hB17⟩ := h17
  replace hx := hx.tr hR
  replace hC2 := hR.blk hC2 (fun h => h)
  obtain ⟨B, hB⟩ : ∃ B, B = w.heap.size := ⟨_, rfl⟩
  have hgB : g17 < B := by rw [hB]; exact (Array.getElem?_eq_some_iff.1 hB17).1
  have hbB : b2 ≤ B := by omega
  refine W.block ?_
  refine W.loop (fun e w => ∃ (k : Nat) (ov : Value), k ≤ 3 ∧ e 2 = .pointer (some ⟨b2, 0, none⟩) ∧ e 5 = ov ∧ e 17 = .slice (some ⟨g17, 0, none⟩) 3 3 ∧ e 18 = .int .i64 3 ∧ e 19 = .int .i64 (k : Int) ∧ w.ownsRow B 67 1 ov (selK ls k).length ((selK ls k).map (ptrJ b)) ∧ w.heap[g17]? = some (.cells #[ptrJ b 0, ptrJ b 1, ptrJ b 2] 67 (0, 0)) ∧ w.heap[b2]? = some (.cells #[st nm, st ls] 61 (0, 0)) ∧ B ≤ w.heap.size ∧ Ext w0 w) (fun e w => 3 - (intOf (e 19)).toNat) ?_ ?_
  · exact ⟨0, _, Nat.zero_le _, h2, h5, h17v, h18, h19, World.ownsRow_nil _ _ _ _, hB17, hC2, by omega, hx⟩
  rintro e w ⟨k, ov, hk, h2, h5, h17, h18, h19, hown, hB17, hC2, hBw, hx⟩
  have hm19 := h19
  refine W.seq ?_
  refine W.region ?_
  refine WL.c rfl (o_lt h19 h18 ?_)
  refine WL.nil ?_
  refine W.seq ?_
  refine W.cond rfl (fun c20 => ?_) (fun c20 => ?_)
  · try simp only [decide_eq_true_eq, decide_eq_false_iff_not, Bool.not_eq_true', Bool.not_eq_false', Bool.and_eq_true, Bool.or_eq_true, Bool.and_eq_false_iff, Bool.or_eq_false_iff] at c20
    have hk1 : k < 3 := by omega
    have hsl := selK_le ls k
    refine W.skip ?_
    refine W.seq ?_
    refine W.block ?_
    refine W.seq ?_
    refine W.region ?_
    refine WL.c rfl (o_mvh h19 ?_)
    refine WL.c rfl (o_ixB (i := k) TI64 TI67 h17 h19 hk1 ?_)
    refine WL.c rfl (o_ld TI67 rfl rfl (cell_of hB17 (at3 (ptrJ b) hk1)) ?_)
    refine WL.c rfl (o_ash (show _ = Value.int _ _ from rfl) ?_)
    refine WL.c rfl (o_ash (by first | exact (show _ = Value.pointer _ from rfl) | exact rfl) ?_)
    refine WL.nil ?_
    refine W.seq ?_
    refine W.region ?_
    refine WL.c rfl (o_fa 1 TI61 rfl TI9 rfl h2 ?_)
    refine WL.c rfl (o_ld TI9 rfl rfl (cell_of hC2 rfl) ?_)
    refine WL.c rfl (o_mvh (show _ = Value.int _ _ from rfl) ?_)
    refine WL.c rfl (o_idT TI9 rfl rfl (by omega) ?_)
    refine WL.c rfl (o_ne rfl rfl ?_)
    refine WL.nil ?_
    refine W.cond rfl (fun c28 => ?_) (fun c28 => ?_)
    · try simp only [decide_eq_true_eq, decide_eq_false_iff_not, Bool.not_eq_true', Bool.not_eq_false', Bool.and_eq_true, Bool.or_eq_true, Bool.and_eq_false_iff, Bool.or_eq_false_iff] at c28
      refine W.region ?_
      refine WL.c rfl (o_mvh h5 ?_)
      refine WL.c rfl (o_mvh (by first | exact (show _ = Value.pointer _ from rfl) | exact rfl) ?_)
      refine WL.ap1 (B) rfl rfl TI64 TI67 (show _ = ptrJ b k from rfl) rfl hown (by decide) (by decide) rfl (one_all (by first | rfl | decide)) rfl (by rw [maxLen_eq]; omega) (by omega) hBw ?_
      intro v32 w32 h32 ho32
      have hlo := fun k hk => (hown.lt k hk).1
      replace hB17 := ho32.blk hB17 (fun hF => by have := hlo _ hF; omega)
      replace hC2 := ho32.blk hC2 (own_off hown hC2 (by decide))
      replace hx := hx.trans' ho32 (fun _ h => h) (fun k hk hF => by have := hlo k hF; omega)
      replace hBw := Nat.le_trans hBw ho32.size
      refine WL.c rfl (o_ash (by first | exact (show _ = Value.slice _ _ _ from rfl) | exact rfl) ?_)
      refine WL.nil ?_
      refine W.region ?_
      refine WL.c rfl (o_addi h19 rfl (by omega) ?_)
      refine WL.c rfl (o_mvh (show _ = Value.int _ _ from rfl) ?_)
      refine WL.nil ?_
      have hsk := selK_succ ls k
      have hlsk : ls.getD k 0 = ls[k] := by rw [List.getD_eq_getElem?_getD, List.getElem?_eq_getElem (by omega)]; rfl
      first
        | (rw [hlsk, if_neg (by intro h; apply c28; rw [h]; rfl)] at hsk
           refine ⟨⟨k + 1, v32, by omega, h2, rfl, h17, h18, rfl, by rw [hsk, List.length_append, List.map_append]; exact h32, hB17, hC2, hBw, hx⟩, ?_⟩)
        | (rw [hlsk, if_pos (UInt8.toNat_inj.1 (by (try simp at c28); first | omega | (show ls[k].toNat = 32; omega))), List.append_nil] at hsk
           refine ⟨⟨k + 1, ov, by omega, h2, h5, h17, h18, rfl, by rw [hsk]; exact hown, hB17, hC2, hBw, hx⟩, ?_⟩)
      show 3 - ((k : Int) + 1).toNat < _
      rw [hm19]; simp [intOf]; omega
    · try simp only [decide_eq_true_eq, decide_eq_false_iff_not, Bool.not_eq_true', Bool.not_eq_false', Bool.and_eq_true, Bool.or_eq_true, Bool.and_eq_false_iff, Bool.or_eq_false_iff] at c28
      refine W.skip ?_
      refine W.region ?_
      refine WL.c rfl (o_addi h19 rfl (by omega) ?_)
      refine WL.c rfl (o_mvh (show _ = Value.int _ _ from rfl) ?_)
      refine WL.nil ?_
      have hsk := selK_succ ls k
      have hlsk : ls.getD k 0 = ls[k] := by rw [List.getD_eq_getElem?_getD, List.getElem?_eq_getElem (by omega)]; rfl
      first
        | (rw [hlsk, if_neg (by intro h; apply c28; rw [h]; rfl)] at hsk
           refine ⟨⟨k + 1, v32, by omega, h2, rfl, h17, h18, rfl, by rw [hsk, List.length_append, List.map_append]; exact h32, hB17, hC2, hBw, hx⟩, ?_⟩)
        | (rw [hlsk, if_pos (UInt8.toNat_inj.1 (by (try simp at c28); first | omega | (show ls[k].toNat = 32; omega))), List.append_nil] at hsk
           refine ⟨⟨k + 1, ov, by omega, h2, h5, h17, h18, rfl, by rw [hsk]; exact hown, hB17, hC2, hBw, hx⟩, ?_⟩)
      show 3 - ((k : Int) + 1).toNat < _
      rw [hm19]; simp [intOf]; omega
  · try simp only [decide_eq_true_eq, decide_eq_false_iff_not, Bool.not_eq_true', Bool.not_eq_false', Bool.and_eq_true, Bool.or_eq_true, Bool.and_eq_false_iff, Bool.or_eq_false_iff] at c20
    obtain rfl : k = 3 := by omega
    refine W.exit ?_
    refine W.seq ?_
    refine W.region ?_
    refine WL.c rfl (o_mvh h5 ?_)
    refine WL.c rfl (o_ash (by first | exact (show _ = Value.slice _ _ _ from rfl) | exact rfl) ?_)
    refine WL.nil ?_
    refine W.ret ?_
    refine ret1v rfl rfl ?_
    exact ⟨own_mono hown (by omega), hx⟩
set_option maxHeartbeats 2000000 in
theorem putc_spec (H b : Nat) (v : Value) (bs : List UInt8) (m : Int) (w0 : World) (hM : BufM w0 H b v bs) (hm0 : 0 ≤ m) (hm1 : m < 18446744073709551616) (hl : bs.length + 10 ≤ 140737488355328) : Ca Tryd.prog 26 #[.int .i64 m, .pointer (some ⟨b, 0, none⟩)] w0 (fun _ w' => ∃ v', BufM w' H b v' (bs ++ vput m.toNat) ∧ Only (FP H b w0) w0 w') := by
  have hm2 : m.toNat < 2 ^ 64 := by omega
  have hvl := vsz hm2
  refine Ca.of Tryd.func26 Tryd.ntmps26 rfl rfl ?_
  obtain ⟨wd, hwd⟩ : ∃ wd, wd = w0.drew := ⟨_, rfl⟩
  have hxd : Ext w0 wd := hwd ▸ Only.drew w0
  have hM0 := hM
  replace hM := hM.ext hxd
  have hlt : ∀ k, v.ownBlock = some k → k < wd.heap.size := fun k hk => (hM.row.lt k hk).2
  refine W.drawF 5 [4] [fun k => v.ownBlock = some k] [(0, fun v _ => v = (Value.int .i64 m)), (1, fun v _ => v = (Value.pointer (some ⟨b, 0, none⟩)))] rfl (by kernel_rfl) (by kernel_rfl) ⟨Mono.eq, Mono.eq, trivial⟩ ⟨rfl, rfl, trivial⟩ ?_
  refine WDS.p rfl (by decide) (fun e w hR hh => by obtain ⟨h1, -⟩ := hh; rw [← hwd] at hR; have hc := hR.blk hM.cell (fun hF => by rcases hF with hF | hF <;> first | exact hM.off hF | exact hF); exact SG.n (o_ld TI34 rfl h1 (cell_of hc rfl) ⟨rfl, Only.refl No _⟩)) ?_
  refine WDS.p rfl (by decide) (fun e w hR hh => by obtain ⟨h0, -⟩ := hh; exact SG.n (o_mvh h0 ⟨rfl, Only.refl No _⟩)) ?_
  refine WDS.p rfl (by decide) (fun e w hR hh => by obtain ⟨h4, -⟩ := hh; exact SG.n (o_cvN TI3 TI58 h4 hm0 hm1 ⟨rfl, Only.refl No _⟩)) ?_
  refine WDS.q 0 (fun u w => w.ownsRow wd.heap.size 5 1 u (vput m.toNat).length ((vput m.toNat).map bv)) (fun u w w2 hR hh => own_only hh hR (fun k hk hF => by rcases hF with hF | hF <;> first | exact hF | (have := hlt k hF; have := (hh.lt k hk).1; omega))) (by kernel_rfl) rfl (by decide) (fun e w hR hh => by obtain ⟨h5, -⟩ := hh; rw [← hwd] at hR; exact SG.n (o_call Tryd.call27 (lc h5 ln) ((put_own hm2 w).mono (fun u w' hh => ⟨own_mono hh.1 hR.size, hh.2⟩)))) ?_
  refine WDS.mf 0 1 (fun u w => w.ownsRow H 5 1 u (bs.length + (vput m.toNat).length) (bs.map bv ++ (vput m.toNat).map bv)) (fun u w w2 hR hh => own_ext hh hR) (by kernel_rfl) rfl rfl rfl (fun e w hR hW hh => by obtain ⟨h6, h3, -⟩ := hh; rw [← hwd] at hR hW; have hw2 := hR.size; have hW2 : Ext wd w := hW.mono (fun k _ hF => hF); have hHd := hM.ge; have hbl := (Array.getElem?_eq_some_iff.1 hM.cell).1; exact SGX.n (OP.x (o_apO H TI34 TI5 h3 rfl (own_ext hM.row hW2) (Sl.own h6) rfl (by decide) one_bv (by rw [maxLen_eq]; omega) (by omega) (by omega) (fun v' w' h1 h2 h3 _ => ⟨h1, h2⟩)))) ?_
  rintro e w hR ⟨h7, h6, h5, h4, h3, h0, h1, -⟩
  rw [← hwd] at hR
  obtain ⟨v7, hv7⟩ : ∃ v, v = e 7 := ⟨_, rfl⟩
  rw [← hv7, ← List.length_append, ← List.map_append] at h7
  have hc7 := hR.blk hM.cell (fun hF => by rcases hF with hF | hF <;> first | exact hM.off hF | exact hF)
  refine WL.u (o_stB TI34 h1 (show _ = v7 from hv7.symm) (own_one h7) hc7 (show 0 < 1 by decide) ?_)
  intro w8 hB8 ho8 hs8
  have hM2 : BufM w8 H b v7 (bs ++ vput m.toNat) := ⟨hB8, own_only h7 ho8 (fun k hk he => by subst he; exact own_off h7 hc7 (by decide) hk), hM.ge⟩
  have hO1 : Only (FP H b w0) w0 w := hxd.trans' hR (fun _ h => h.elim) (fun k hk hF => by
    rcases hF with hF | hF
    · exact .inr ⟨(hM0.row.lt k hF).1, own_u8 hM0.row hF⟩
    · exact hF.elim)
  have hO : Only (FP H b w0) w0 w8 := hO1.trans' ho8 (fun _ h => h) (fun k _ h => .inl h)
  refine WL.nil ?_
  refine ret0 rfl ?_
  exact ⟨v7, hM2, hO⟩
end Go.Proofs.YthlbhnefldaoiaaDoor

set_option linter.unusedSimpArgs false
set_option linter.unusedVariables false
set_option maxRecDepth 100000
namespace Go.Proofs.YthlbhnefldaoiaaDoor
open Go Go.Vc Go.RowKit Go.Proofs
theorem own_newN {w : World} {vs : List Value} {el : TypeId} {n : Nat} (hl : vs.length = n) (hm : n ≤ maxLen) : (w.alloc (.cells vs.toArray el)).ownsRow w.heap.size el 1 (.slice (some ⟨w.heap.size, 0, none⟩) n n) n vs :=
  ⟨by simp [hl], .inr ⟨w.heap.size, n, vs.toArray, rfl, Nat.le_refl _, heap_alloc_new w _, Nat.le_refl _, hm, by simp [hl], by rw [Nat.mul_one]; exact List.take_of_length_le (by simp [hl])⟩⟩


theorem fm_len {α : Type} {f : α → List UInt8} {c : Nat} : ∀ {l : List α}, (∀ x ∈ l, (f x).length ≤ c) → (l.flatMap f).length ≤ c * l.length
  | [], _ => by simp
  | x :: l, h => by
    have h1 := h x (by simp)
    have h2 := fm_len (l := l) (fun y hy => h y (by simp [hy]))
    rw [List.flatMap_cons, List.length_append, List.length_cons, Nat.mul_add]; omega
theorem take_fm {α : Type} {f : α → List UInt8} {l : List α} {k : Nat} (h : k < l.length) : (l.take (k + 1)).flatMap f = (l.take k).flatMap f ++ f l[k] := by
  rw [← List.take_append_getElem h, List.flatMap_append]; simp
theorem layO_len {n : Int} (h : -1 ≤ n ∧ n ≤ 2147483647) : (layO n).length ≤ 10 := vsz (by omega)
theorem layE_len {e : Int} (h : entOk e) : (layE e).length ≤ 10 := vsz (layE_put h).1
theorem layI_len {enc : Bool} {x : Ins} (h : insOk enc x) : (layI enc x).length ≤ 40 := by
  obtain ⟨f, hf, h1, h2, h3⟩ := h
  have ho := fmOf_op hf
  rw [layI_eq hf]
  have hc : ∀ (c : UInt8) (y : Int), opOk c y → (layC c y).length ≤ 10 := fun c y hy => by
    unfold layC
    unfold opOk at hy
    split
    · simp
    · rename_i hc; rw [if_neg hc] at hy; exact layO_len hy
  have := hc _ _ h1
  have := hc _ _ h2
  have := hc _ _ h3
  have := vsz (n := x.op.toNat) (by omega)
  simp only [List.length_append]; omega
/-- what Encode writes -/
noncomputable def encB (p : Pg) : List UInt8 := if (chk p).1 = 0 then lay p else []
theorem FP.row {H p : Nat} {a b : World} {cs : Array Value} {T el : TypeId} {fr : Nat × Nat} {base s n : Nat} {v : Value} {xs : List Value} (ho : Only (FP H p a) a b) (hp : a.heap[p]? = some (.cells cs T fr)) (h : a.ownsRow base el s v n xs) (h1 : el ≠ T) (h2 : el ≠ 5) : b.ownsRow base el s v n xs :=
  own_only h ho (fun k hk hF => by
    rcases hF with rfl | ⟨-, c, d, h3⟩
    · exact own_off h hp h1 hk
    · exact own_off h h3 h2 hk)
theorem FP.top {w0 a b : World} {H p : Nat} (hx : Ext w0 a) (ho : Only (FP H p a) a b) (hH : w0.heap.size ≤ H) (hp : H ≤ p) : Ext w0 b :=
  hx.trans' ho (fun _ h => h) (fun k hk hF => by rcases hF with rfl | ⟨h1, -⟩ <;> omega)
theorem ins_opAt (x : Ins) {t : Nat} (h : t < 3) : (insV x).toArray[1 + t]? = some (.int .i64 (opAt x t)) := by
  have : t = 0 ∨ t = 1 ∨ t = 2 := by omega
  rcases this with rfl | rfl | rfl <;> rfl
/-- an instruction that Check takes: its form -/
theorem ReadP.form {p : Pg} (h : ReadP p) {k : Nat} (hk : k < p.code.length) : ∃ nm l0 l1 l2, fmOf p.enc p.code[k].op = some (nm, [l0, l1, l2]) ∧ (0 ≤ p.code[k].op ∧ p.code[k].op ≤ 47) ∧ layI p.enc p.code[k] = vput p.code[k].op.toNat ++ (selI [l0, l1, l2]).flatMap (fun t => layO (opAt p.code[k] t)) ∧ ∀ t ∈ selI [l0, l1, l2], -1 ≤ opAt p.code[k] t ∧ opAt p.code[k] t ≤ 2147483647 := by
  obtain ⟨f, h1, h2, h3, h4⟩ := h.ins p.code[k] (List.getElem_mem _)
  obtain ⟨g1, g2⟩ := fmOf_three h1
  obtain ⟨nm, ls⟩ := f
  match ls, g1, h1, h2, h3, h4 with
  | [l0, l1, l2], _, h1, h2, h3, h4 =>
    have ho := fmOf_op h1
    refine ⟨nm, l0, l1, l2, h1, by omega, ?_, fun t ht => ?_⟩
    · have e1 : (fmD p.enc p.code[k].op).2 = [l0, l1, l2] := by rw [fmD, h1]; rfl
      rw [layI, e1, opsI_sel, List.flatMap_map]
    · have ht3 := selK_lt ht
      have hne : ([l0, l1, l2] : List UInt8).getD t 0 ≠ 32 := by
        have := (List.mem_filter.1 ht).2
        simpa using this
      simp only [opOk, List.getD_cons_zero, List.getD_cons_succ] at h2 h3 h4
      have : t = 0 ∨ t = 1 ∨ t = 2 := by omega
      rcases this with rfl | rfl | rfl
      · rw [if_neg (by simpa using hne)] at h2; exact h2
      · rw [if_neg (by simpa using hne)] at h3; exact h3
      · rw [if_neg (by simpa using hne)] at h4; exact h4
theorem lay_bd {p : Pg} (hr : ReadP p) (k : Nat) : (lay0 p).length ≤ 12 ∧ ((p.ent.take k).flatMap layE).length ≤ 10485760 ∧ (lay1 p).length ≤ 10485790 ∧ ((p.code.take k).flatMap (layI p.enc)).length ≤ 41943040 := by
  have h1 := hr.nc
  have h2 := hr.ne
  have h3 : ∀ k, ((p.ent.take k).flatMap layE).length ≤ 10485760 := fun k => by
    have := fm_len (f := layE) (c := 10) (l := p.ent.take k) (fun x hx => layE_len (hr.ent x (List.mem_of_mem_take hx)))
    rw [List.length_take] at this; omega
  have h4 := fm_len (f := layI p.enc) (c := 40) (l := p.code.take k) (fun x hx => layI_len (hr.ins x (List.mem_of_mem_take hx)))
  rw [List.length_take] at h4
  have h5 := vsz (n := p.ent.length) (by omega)
  have h6 := vsz (n := p.code.length) (by omega)
  have h7 := h3 p.ent.length
  rw [List.take_length] at h7
  have h8 : (lay0 p).length ≤ 12 := by unfold lay0; rw [List.length_append, hdr_len]; omega
  refine ⟨h8, h3 k, ?_, by omega⟩
  unfold lay1
  simp only [List.length_append]; omega

set_option maxHeartbeats 16000000 in
theorem encode_spec (p : Pg) (cv ev_ : Value) (w0 : World) (hp : PgR w0 p cv ev_) (hlc : p.code.length ≤ 4611686018427387904) (hle : p.ent.length ≤ 4611686018427387904) : Ca Tryd.prog 13 #[.agg (pgV p cv ev_).toArray] w0 (fun r w' => ∃ v, r = .tuple #[v, .agg #[.int .i64 ((chk p).1 : Int), .int .i64 ((chk p).2 : Int)]] ∧ w'.ownsRow w0.heap.size 5 1 v (encB p).length ((encB p).map bv) ∧ Ext w0 w') := by
  obtain ⟨H0, hH0⟩ : ∃ H, H = w0.heap.size := ⟨_, rfl⟩
  rw [← hH0]
  have hH0x : w0.heap.size ≤ H0 := by omega
  refine Ca.of Tryd.func13 Tryd.ntmps13 rfl rfl ?_
  refine W.seq ?_
  refine W.region ?_
  refine WL.c rfl (o_boxB rfl ?_)
  intro w1 hC1 hx1 hs1
  obtain ⟨b1, hb1⟩ : ∃ b, b = w0.heap.size := ⟨_, rfl⟩
  rw [← hb1] at hC1 ⊢
  replace hC1 : w1.heap[b1]? = some (.cells (pgV p cv ev_).toArray 26 (0, 0)) := hC1
  have hx : Ext w0 w1 := hx1
  refine WL.c rfl (o_ash (by first | exact (show _ = Value.slice _ _ _ from rfl) | exact rfl) ?_)
  refine WL.c rfl (o_alB TI32 ?_)
  intro w3 hC3 hx3 hs3
  obtain ⟨b3, hb3⟩ : ∃ b, b = w1.heap.size := ⟨_, rfl⟩
  rw [← hb3] at hC3 ⊢
  replace hC3 : w3.heap[b3]? = some (.cells ([.int .i64 0, .int .i64 0]).toArray 32 (0, 0)) := hC3
  have hb3g : w0.heap.size ≤ b3 := by have := hx.size; omega
  replace hx := hx.tr hx3
  replace hC1 := hx3.blk hC1 (fun h => h)
  refine WL.nil ?_
  refine W.seq ?_
  refine W.seq ?_
  refine W.region ?_
  refine WL.c rfl (o_ldA TI26 rfl rfl (show Cells _ b1 0 (pgV p cv ev_) from Cells.of hC1 0 _ (by simp)) rfl ?_)
  refine WL.c rfl (o_call Tryd.call12 (lc rfl ln) ((check_spec p cv ev_ _ (hp.ext hx) hlc hle).mono ?_))
  rintro v16 w16 ⟨rfl, hx16⟩
  replace hx := hx.tr hx16
  replace hC1 := hx16.blk hC1 (fun h => h)
  replace hC3 := hx16.blk hC3 (fun h => h)
  refine WL.c rfl (o_alB TI32 ?_)
  intro wa hCa hxa hsa
  refine WL.u (o_stA TI32 rfl (show _ = Value.agg ([.int .i64 ((chk p).1 : Int), .int .i64 ((chk p).2 : Int)]).toArray from rfl) rfl rfl hCa rfl ?_)
  intro wb4 hC4 hob hsb
  have hxb := Ext.own hxa (Nat.le_refl _) hob
  obtain ⟨b4, hb4⟩ : ∃ b, b = w16.heap.size := ⟨_, rfl⟩
  rw [← hb4] at hC4 ⊢
  clear hCa hxa hsa hob hsb
  replace hx := hx.tr hxb
  replace hC1 := hxb.blk hC1 (fun h => h)
  replace hC3 := hxb.blk hC3 (fun h => h)
  clear hxb
  refine WL.nil ?_
  refine W.seq ?_
  refine W.region ?_
  refine WL.c rfl (o_fa 0 TI32 rfl TI30 rfl rfl ?_)
  refine WL.c rfl (o_ld TI30 rfl rfl (cell_of hC4 rfl) ?_)
  refine WL.c rfl (o_ne rfl rfl ?_)
  refine WL.nil ?_
  refine W.cond rfl (fun c19 => ?_) (fun c19 => ?_)
  · try simp only [decide_eq_true_eq, decide_eq_false_iff_not, Bool.not_eq_true', Bool.not_eq_false', Bool.and_eq_true, Bool.or_eq_true, Bool.and_eq_false_iff, Bool.or_eq_false_iff] at c19
    have hne : (chk p).1 ≠ 0 := by omega
    have heb : encB p = [] := by rw [encB, if_neg hne]
    refine W.seq ?_
    refine W.tail 2 rfl (by kernel_rfl) ?_
    refine WS.c rfl ((SO.o rfl (o_ldA TI32 rfl rfl (show Cells _ b4 0 [.int .i64 ((chk p).1 : Int), .int .i64 ((chk p).2 : Int)] from Cells.of ((Only.drew _).blk hC4 (fun h => h)) 0 _ (by simp)) rfl ⟨rfl, rfl⟩))) ?_
    refine WS.c rfl ((SO.o rfl (o_ash (by first | exact (show _ = Value.slice _ _ _ from rfl) | exact rfl) ⟨rfl, rfl⟩))) ?_
    refine WS.nil ?_
    have hxd := Only.drew wb4
    replace hx := hx.tr hxd
    replace hC3 := hxd.blk hC3 (fun h => h)
    refine WL.u (o_stA TI32 rfl (show _ = Value.agg #[.int .i64 ((chk p).1 : Int), .int .i64 ((chk p).2 : Int)] from rfl) rfl rfl (by assumption) rfl ?_)
    intro ws hBs hos hss
    replace hx := hx.trans' hos (fun _ h => h) (fun k hk he => by subst he; omega)
    refine WL.nil ?_
    refine W.ret ?_
    refine retTC rfl TI32 rfl (show _ = Value.slice _ _ _ from rfl) rfl (cells_all (by assumption)) rfl ?_
    exact ⟨_, rfl, by rw [heb]; exact World.ownsRow_nil _ _ _ _, hx⟩
  · try simp only [decide_eq_true_eq, decide_eq_false_iff_not, Bool.not_eq_true', Bool.not_eq_false', Bool.and_eq_true, Bool.or_eq_true, Bool.and_eq_false_iff, Bool.or_eq_false_iff] at c19
    have hz : (chk p).1 = 0 := by omega
    have hok := chk_zero.1 hz
    have hcz := chk_okP hok
    have heb : encB p = lay p := by rw [encB, if_pos hz]
    have hrd := hok.read
    have hnc := hrd.nc
    have hne := hrd.ne
    have hbd := lay_bd hrd
    refine W.skip ?_
    refine W.seq ?_
    refine W.region ?_
    refine WL.c rfl (o_bsn (vs := [.int .u8 109, .int .u8 0]) (xs := [(.const (.int .u8 109)), (.const (.int .u8 0))]) TI34 TI5 rfl (lc (show _ = Value.int _ _ from rfl) (lc (show _ = Value.int _ _ from rfl) ln)) rfl rfl (by decide) (by decide) ?_)
    have hr21 := own_newN (w := wb4) (vs := [Value.int .u8 109, Value.int .u8 0]) (el := 5) (n := 2) rfl (by decide)
    have hx21 : Ext wb4 (wb4.alloc (.cells [Value.int .u8 109, Value.int .u8 0].toArray 5)) := Only.alloc wb4 _
    obtain ⟨w21, hw21⟩ : ∃ w, w = wb4.alloc (.cells [Value.int .u8 109, Value.int .u8 0].toArray 5) := ⟨_, rfl⟩
    rw [← hw21] at hr21 hx21 ⊢
    clear hw21
    obtain ⟨g21, hg21⟩ : ∃ b, b = wb4.heap.size := ⟨_, rfl⟩
    rw [← hg21] at hr21 ⊢
    replace hr21 : w21.ownsRow H0 5 1 (.slice (some ⟨g21, 0, none⟩) 2 2) ([109, 0] : List UInt8).length (([109, 0] : List UInt8).map bv) := own_mono hr21 (by have := hx.size; omega)
    replace hx := hx.tr hx21
    replace hC1 := hx21.blk hC1 (fun h => h)
    replace hC3 := hx21.blk hC3 (fun h => h)
    refine WL.c rfl (o_alB TI34 ?_)
    intro w5 hC5 hx5 hs5
    obtain ⟨b5, hb5⟩ : ∃ b, b = w21.heap.size := ⟨_, rfl⟩
    rw [← hb5] at hC5 ⊢
    replace hC5 : w5.heap[b5]? = some (.cells ([.slice none 0 0]).toArray 34 (0, 0)) := hC5
    have hg5 : w0.heap.size ≤ b5 := by have := hx.size; omega
    replace hx := hx.tr hx5
    replace hC1 := hx5.blk hC1 (fun h => h)
    replace hC3 := hx5.blk hC3 (fun h => h)
    replace hr21 := own_ext hr21 hx5
    refine WL.u (o_stB TI34 rfl (show _ = Value.slice (some ⟨g21, 0, none⟩) 2 2 from rfl) rfl hC5 (show 0 < 1 by decide) ?_)
    intro w5b hB5 ho5 hs5b
    have hH5 : H0 ≤ b5 := by have := hx.size; omega
    have hl1 := (Array.getElem?_eq_some_iff.1 hC1).1
    have hM : BufM w5b H0 b5 (.slice (some ⟨g21, 0, none⟩) 2 2) [109, 0] := ⟨hB5, own_only hr21 ho5 (fun k hk he => by subst he; exact own_off hr21 hC5 (by decide) hk), hH5⟩
    have hn1 : b1 ≠ b5 := fun h => by rw [h, hC5] at hC1; cases hC1
    have hn3 : b3 ≠ b5 := fun h => by rw [h, hC5] at hC3; cases hC3
    replace hC1 := ho5.blk hC1 hn1
    replace hC3 := ho5.blk hC3 hn3
    replace hx := hx.trans' ho5 (fun _ h => h) (fun k hk he => by omega)
    refine WL.nil ?_
    refine W.seq ?_
    refine W.seq ?_
    refine W.region ?_
    refine WL.c rfl (o_fa 0 TI26 rfl TI4 rfl rfl ?_)
    refine WL.c rfl (o_ld TI4 rfl rfl (cell_of hC1 rfl) ?_)
    refine WL.nil ?_
    refine W.cut (fun e1 w1 => BufM w1 H0 b5 (.slice (some ⟨g21, 0, none⟩) 2 2) (hdr p.enc) ∧ e1 1 = .pointer (some ⟨b1, 0, none⟩) ∧ e1 3 = .pointer (some ⟨b3, 0, none⟩) ∧ e1 5 = .pointer (some ⟨b5, 0, none⟩) ∧ w1.heap[b1]? = some (.cells (pgV p cv ev_).toArray 26 (0, 0)) ∧ w1.heap[b3]? = some (.cells #[.int .i64 0, .int .i64 0] 32 (0, 0)) ∧ Ext w0 w1) ?_ ?_
    · -- both ways
      refine W.cond rfl (fun c23 => ?_) (fun c23 => ?_)
      · try simp only [decide_eq_true_eq, decide_eq_false_iff_not, Bool.not_eq_true', Bool.not_eq_false', Bool.and_eq_true, Bool.or_eq_true, Bool.and_eq_false_iff, Bool.or_eq_false_iff] at c23
        refine W.region ?_
        refine WL.c rfl (o_ld TI34 rfl rfl (cell_of hM.cell rfl) ?_)
        refine WL.c rfl (o_ixB (i := 1) TI34 TI5 rfl rfl (by decide) ?_)
        refine WL.u (o_stR1 TI5 rfl (show _ = 1 from rfl) (show _ = Value.int .u8 1 from rfl) rfl hM.row rfl (by decide) ?_)
        intro w25 hr25 ho25 hs25
        have hM2 : BufM w25 H0 b5 (.slice (some ⟨g21, 0, none⟩) 2 2) [109, 1] := ⟨ho25.blk hM.cell hM.off, hr25, hH5⟩
        replace hx := hx.trans' ho25 (fun _ h => h) (fun k hk hF => by have := (hM.row.lt k hF).1; omega)
        replace hC1 := ho25.blk hC1 (own_off hM.row hC1 (by decide))
        replace hC3 := ho25.blk hC3 (own_off hM.row hC3 (by decide))
        refine WL.nil ?_
        first | exact ⟨by rw [c23]; exact hM2, rfl, rfl, rfl, hC1, hC3, hx⟩ | exact ⟨by rw [c23]; exact hM, rfl, rfl, rfl, hC1, hC3, hx⟩
      · try simp only [decide_eq_true_eq, decide_eq_false_iff_not, Bool.not_eq_true', Bool.not_eq_false', Bool.and_eq_true, Bool.or_eq_true, Bool.and_eq_false_iff, Bool.or_eq_false_iff] at c23
        refine W.skip ?_
        first | exact ⟨by rw [c23]; exact hM2, rfl, rfl, rfl, hC1, hC3, hx⟩ | exact ⟨by rw [c23]; exact hM, rfl, rfl, rfl, hC1, hC3, hx⟩
    rintro e w ⟨hM, h1, h3, h5, hC1, hC3, hx⟩
    refine W.seq ?_
    refine W.region ?_
    refine WL.c rfl (o_mkF (lc h5 ln) ?_)
    refine WL.c rfl (o_as ?_)
    refine WL.nil ?_
    refine W.seq ?_
    refine W.region ?_
    refine WL.c rfl (o_mv ?_)
    refine WL.c rfl (o_fa 2 TI26 rfl TI24 rfl h1 ?_)
    refine WL.c rfl (o_ld TI24 rfl rfl (cell_of hC1 rfl) ?_)
    refine WL.c rfl (o_lenR TI24 rfl (hp.ent.ext hx) ?_)
    refine WL.c rfl (o_callC (show _ = Value.func (.func 26) #[] #[.pointer (some ⟨b5, 0, none⟩)] from by first | rfl | assumption) Tryd.call26 (lc (show _ = Value.int .i64 ((p.ent.length : Int)) from by first | rfl | assumption) ln) ((putc_spec H0 b5 _ _ ((p.ent.length : Int)) _ hM (by omega) (by omega) (by rw [hdr_len]; omega)).mono ?_))
    rintro v31 w31 ⟨vb31, hM31, ho31⟩
    replace hC1 := FP.blk ho31 hC1 (by decide) hn1
    replace hC3 := FP.blk ho31 hC3 (by decide) hn3
    replace hx := FP.top hx ho31 hH0x hH5
    clear hM
    have hM := hM31
    clear hM31
    refine WL.nil ?_
    refine W.seq ?_
    refine W.seq ?_
    refine W.region ?_
    refine WL.c rfl (o_fa 2 TI26 rfl TI24 rfl h1 ?_)
    refine WL.c rfl (o_ld TI24 rfl rfl (cell_of hC1 rfl) ?_)
    refine WL.c rfl (o_lenR TI24 rfl (hp.ent.ext hx) ?_)
    refine WL.c rfl (o_mvh (show _ = Value.int _ _ from rfl) ?_)
    refine WL.nil ?_
    refine W.block ?_
    refine W.loop (fun e w => ∃ (k : Nat) (vb : Value), k ≤ p.ent.length ∧ e 1 = .pointer (some ⟨b1, 0, none⟩) ∧ e 3 = .pointer (some ⟨b3, 0, none⟩) ∧ e 5 = .pointer (some ⟨b5, 0, none⟩) ∧ e 6 = Value.func (.func 26) #[] #[.pointer (some ⟨b5, 0, none⟩)] ∧ e 33 = ev_ ∧ e 34 = .int .i64 (p.ent.length : Int) ∧ e 35 = .int .i64 (k : Int) ∧ BufM w H0 b5 vb (lay0 p ++ (p.ent.take k).flatMap layE) ∧ w.heap[b1]? = some (.cells (pgV p cv ev_).toArray 26 (0, 0)) ∧ w.heap[b3]? = some (.cells #[.int .i64 0, .int .i64 0] 32 (0, 0)) ∧ Ext w0 w) (fun e w => p.ent.length - (intOf (e 35)).toNat) ?_ ?_
    · exact ⟨0, _, Nat.zero_le _, h1, h3, h5, rfl, rfl, rfl, rfl, by simpa [lay0] using hM, hC1, hC3, hx⟩
    rintro e w ⟨k, vb, hk, h1, h3, h5, h6, h33, h34, h35, hM, hC1, hC3, hx⟩
    have hm35 := h35
    refine W.seq ?_
    refine W.region ?_
    refine WL.c rfl (o_lt h35 h34 ?_)
    refine WL.nil ?_
    refine W.seq ?_
    refine W.cond rfl (fun c36 => ?_) (fun c36 => ?_)
    · try simp only [decide_eq_true_eq, decide_eq_false_iff_not, Bool.not_eq_true', Bool.not_eq_false', Bool.and_eq_true, Bool.or_eq_true, Bool.and_eq_false_iff, Bool.or_eq_false_iff] at c36
      have hk1 : k < p.ent.length := by omega
      have hek := (okE_at hk1).1 (hok.ent k hk1)
      refine W.skip ?_
      refine W.seq ?_
      refine W.block ?_
      refine W.seq ?_
      refine W.region ?_
      refine WL.c rfl (o_ix1 TI24 TI3 h33 h35 (hp.ent.ext hx) (by omega) ?_)
      intro b37 o37 hc37 hb37
      refine WL.c rfl (o_ld TI3 rfl rfl (hc37.trans (zs_at hk1)) ?_)
      refine WL.c rfl (o_ash (show _ = Value.int _ _ from rfl) ?_)
      refine WL.nil ?_
      refine W.region ?_
      refine WL.c rfl (o_mvh h6 ?_)
      refine WL.c rfl (o_mvh (show _ = Value.int _ _ from rfl) ?_)
      refine WL.c rfl (o_callC (show _ = Value.func (.func 26) #[] #[.pointer (some ⟨b5, 0, none⟩)] from by first | rfl | assumption) Tryd.call26 (lc (show _ = Value.int .i64 (p.ent[k]) from by first | rfl | assumption) ln) ((putc_spec H0 b5 _ _ (p.ent[k]) _ hM (by omega) (by omega) (by have := hbd k; rw [List.length_append]; omega)).mono ?_))
      rintro v41 w41 ⟨vb41, hM41, ho41⟩
      replace hC1 := FP.blk ho41 hC1 (by decide) hn1
      replace hC3 := FP.blk ho41 hC3 (by decide) hn3
      replace hx := FP.top hx ho41 hH0x hH5
      clear hM
      have hM := hM41
      clear hM41
      refine WL.nil ?_
      refine W.region ?_
      refine WL.c rfl (o_addi h35 rfl (by omega) ?_)
      refine WL.c rfl (o_mvh (show _ = Value.int _ _ from rfl) ?_)
      refine WL.nil ?_
      refine ⟨⟨k + 1, _, by omega, h1, h3, h5, h6, h33, h34, rfl, by rw [take_fm hk1, ← List.append_assoc]; exact hM, hC1, hC3, hx⟩, ?_⟩
      show p.ent.length - ((k : Int) + 1).toNat < _
      rw [hm35]; simp [intOf]; omega
    · try simp only [decide_eq_true_eq, decide_eq_false_iff_not, Bool.not_eq_true', Bool.not_eq_false', Bool.and_eq_true, Bool.or_eq_true, Bool.and_eq_false_iff, Bool.or_eq_false_iff] at c36
      obtain rfl : k = p.ent.length := by omega
      rw [List.take_length] at hM
      refine W.exit ?_
      refine W.seq ?_
      refine W.region ?_
      refine WL.c rfl (o_mvh h6 ?_)
      refine WL.c rfl (o_fa 1 TI26 rfl TI23 rfl h1 ?_)
      refine WL.c rfl (o_ld TI23 rfl rfl (cell_of hC1 rfl) ?_)
      refine WL.c rfl (o_lenR TI23 rfl (hp.code.ext hx) ?_)
      refine WL.c rfl (o_callC (show _ = Value.func (.func 26) #[] #[.pointer (some ⟨b5, 0, none⟩)] from by first | rfl | assumption) Tryd.call26 (lc (show _ = Value.int .i64 ((p.code.length : Int)) from by first | rfl | assumption) ln) ((putc_spec H0 b5 _ _ ((p.code.length : Int)) _ hM (by omega) (by omega) (by have := hbd p.ent.length; rw [List.take_length] at this; rw [List.length_append]; omega)).mono ?_))
      rintro v47 w47 ⟨vb47, hM47, ho47⟩
      replace hC1 := FP.blk ho47 hC1 (by decide) hn1
      replace hC3 := FP.blk ho47 hC3 (by decide) hn3
      replace hx := FP.top hx ho47 hH0x hH5
      clear hM
      have hM := hM47
      clear hM47
      refine WL.nil ?_
      refine W.seq ?_
      refine W.seq ?_
      refine W.region ?_
      refine WL.c rfl (o_fa 1 TI26 rfl TI23 rfl h1 ?_)
      refine WL.c rfl (o_ld TI23 rfl rfl (cell_of hC1 rfl) ?_)
      refine WL.c rfl (o_lenR TI23 rfl (hp.code.ext hx) ?_)
      refine WL.c rfl (o_mvh (show _ = Value.int _ _ from rfl) ?_)
      refine WL.nil ?_
      refine W.block ?_
      refine W.loop (fun e w => ∃ (k : Nat) (vb : Value), k ≤ p.code.length ∧ e 1 = .pointer (some ⟨b1, 0, none⟩) ∧ e 3 = .pointer (some ⟨b3, 0, none⟩) ∧ e 5 = .pointer (some ⟨b5, 0, none⟩) ∧ e 6 = Value.func (.func 26) #[] #[.pointer (some ⟨b5, 0, none⟩)] ∧ e 49 = cv ∧ e 50 = .int .i64 (p.code.length : Int) ∧ e 51 = .int .i64 (k : Int) ∧ BufM w H0 b5 vb (lay1 p ++ (p.code.take k).flatMap (layI p.enc)) ∧ w.heap[b1]? = some (.cells (pgV p cv ev_).toArray 26 (0, 0)) ∧ w.heap[b3]? = some (.cells #[.int .i64 0, .int .i64 0] 32 (0, 0)) ∧ Ext w0 w) (fun e w => p.code.length - (intOf (e 51)).toNat) ?_ ?_
      · exact ⟨0, _, Nat.zero_le _, h1, h3, h5, h6, rfl, rfl, rfl, by simpa [lay1, List.append_assoc] using hM, hC1, hC3, hx⟩
      rintro e w ⟨k, vb, hk, h1, h3, h5, h6, h49, h50, h51, hM, hC1, hC3, hx⟩
      have hm51 := h51
      refine W.seq ?_
      refine W.region ?_
      refine WL.c rfl (o_lt h51 h50 ?_)
      refine WL.nil ?_
      refine W.seq ?_
      refine W.cond rfl (fun c52 => ?_) (fun c52 => ?_)
      · try simp only [decide_eq_true_eq, decide_eq_false_iff_not, Bool.not_eq_true', Bool.not_eq_false', Bool.and_eq_true, Bool.or_eq_true, Bool.and_eq_false_iff, Bool.or_eq_false_iff] at c52
        have hk1 : k < p.code.length := by omega
        obtain ⟨sb, so, sc, hve, hsc⟩ := Sl.ins (hp.code.ext hx) hk1
        rw [hve] at h49
        obtain ⟨nm, l0, l1, l2, hfm, hop, hLI, hopb⟩ := hrd.form hk1
        obtain ⟨x, hxk⟩ : ∃ x, p.code[k] = x := ⟨_, rfl⟩
        rw [hxk] at hsc hfm hop hLI hopb
        refine W.skip ?_
        refine W.seq ?_
        refine W.block ?_
        refine W.seq ?_
        refine W.region ?_
        refine WL.c rfl (o_ixB (i := k) TI23 TI28 h49 h51 hk1 ?_)
        refine WL.c rfl (o_ldA TI28 rfl rfl hsc rfl ?_)
        refine WL.c rfl (o_alB TI28 ?_)
        intro wa hCa hxa hsa
        refine WL.u (o_stA TI28 rfl (show _ = Value.agg (insV x).toArray from rfl) rfl rfl hCa rfl ?_)
        intro wb10 hC10 hob hsb
        have hxb := Ext.own hxa (Nat.le_refl _) hob
        obtain ⟨b10, hb10⟩ : ∃ b, b = w.heap.size := ⟨_, rfl⟩
        rw [← hb10] at hC10 ⊢
        clear hCa hxa hsa hob hsb
        replace hx := hx.tr hxb
        replace hC1 := hxb.blk hC1 (fun h => h)
        replace hC3 := hxb.blk hC3 (fun h => h)
        replace hM := hM.ext hxb
        have hn10 : b10 ≠ b5 := fun h => by rw [h, hM.cell] at hC10; cases hC10
        clear hxb
        refine WL.nil ?_
        refine W.seq ?_
        refine W.region ?_
        refine WL.c rfl (o_mvh h6 ?_)
        refine WL.c rfl (o_fa 0 TI28 rfl TI3 rfl rfl ?_)
        refine WL.c rfl (o_ld TI3 rfl rfl (cell_of hC10 rfl) ?_)
        refine WL.c rfl (o_callC (show _ = Value.func (.func 26) #[] #[.pointer (some ⟨b5, 0, none⟩)] from by first | rfl | assumption) Tryd.call26 (lc (show _ = Value.int .i64 (x.op) from by first | rfl | assumption) ln) ((putc_spec H0 b5 _ _ (x.op) _ hM (by omega) (by omega) (by have := hbd k; rw [List.length_append]; omega)).mono ?_))
        rintro v58 w58 ⟨vb58, hM58, ho58⟩
        replace hC1 := FP.blk ho58 hC1 (by decide) hn1
        replace hC3 := FP.blk ho58 hC3 (by decide) hn3
        replace hC10 := FP.blk ho58 hC10 (by decide) hn10
        replace hx := FP.top hx ho58 hH0x hH5
        clear hM
        have hM := hM58
        clear hM58
        refine WL.nil ?_
        refine W.seq ?_
        refine W.region ?_
        refine WL.c rfl (o_ldA TI26 rfl h1 (show Cells _ b1 0 (pgV p cv ev_) from Cells.of hC1 0 _ (by simp)) rfl ?_)
        refine WL.c rfl (o_fa 0 TI28 rfl TI3 rfl rfl ?_)
        refine WL.c rfl (o_ld TI3 rfl rfl (cell_of hC10 rfl) ?_)
        refine WL.c rfl (o_call Tryd.call28 (lc rfl (lc rfl ln)) ((of_spec p cv ev_ x.op _ (hp.ext hx)).mono ?_))
        rintro v63 w63 ⟨rfl, hx63⟩
        rw [fmP_some hfm]
        replace hx := hx.tr hx63
        replace hC1 := hx63.blk hC1 (fun h => h)
        replace hC3 := hx63.blk hC3 (fun h => h)
        replace hC10 := hx63.blk hC10 (fun h => h)
        replace hM := hM.ext hx63
        refine WL.c rfl (o_mvh (by first | exact (show _ = Value.tuple _ from rfl) | exact rfl) ?_)
        refine WL.c rfl (o_ext rfl rfl ?_)
        refine WL.c rfl (o_ext rfl rfl ?_)
        refine WL.c rfl (o_alB TI61 ?_)
        intro wa hCa hxa hsa
        refine WL.u (o_stA TI61 rfl (show _ = Value.agg ([st nm, st [tl l0, tl l1, tl l2]]).toArray from rfl) rfl rfl hCa rfl ?_)
        intro wb11 hC11 hob hsb
        have hxb := Ext.own hxa (Nat.le_refl _) hob
        obtain ⟨b11, hb11⟩ : ∃ b, b = w63.heap.size := ⟨_, rfl⟩
        rw [← hb11] at hC11 ⊢
        clear hCa hxa hsa hob hsb
        replace hx := hx.tr hxb
        replace hC1 := hxb.blk hC1 (fun h => h)
        replace hC3 := hxb.blk hC3 (fun h => h)
        replace hC10 := hxb.blk hC10 (fun h => h)
        replace hM := hM.ext hxb
        clear hxb
        refine WL.c rfl (o_ash (show _ = Value.bool _ from rfl) ?_)
        refine WL.nil ?_
        refine W.seq ?_
        refine W.region ?_
        refine WL.c rfl (o_ldA TI61 rfl rfl (show Cells _ b11 0 [st nm, st [tl l0, tl l1, tl l2]] from Cells.of hC11 0 _ (by simp)) rfl ?_)
        refine WL.c rfl (o_call Tryd.call29 (lc rfl (lc rfl ln)) ((operands_spec b10 nm [tl l0, tl l1, tl l2] _ rfl).mono ?_))
        rintro v67 w67 ⟨hr67, hx67⟩
        rw [selI_tl] at hr67
        obtain ⟨S, hS⟩ : ∃ S, S = selI [l0, l1, l2] := ⟨_, rfl⟩
        have hSl := selK_le [l0, l1, l2] 3
        rw [← hS] at hr67 hLI hopb
        replace hSl : S.length ≤ 3 := by rw [hS]; exact hSl
        have hS3 : ∀ t ∈ S, t < 3 := fun t ht => selK_lt (hS ▸ ht)
        replace hx := hx.tr hx67
        replace hC1 := hx67.blk hC1 (fun h => h)
        replace hC3 := hx67.blk hC3 (fun h => h)
        replace hC10 := hx67.blk hC10 (fun h => h)
        replace hM := hM.ext hx67
        obtain ⟨B67, hB67⟩ : ∃ B, B = wb11.heap.size := ⟨_, rfl⟩
        rw [← hB67] at hr67
        refine WL.c rfl (o_lenR TI64 rfl (Sl.own (show World.ownsRow _ _ _ _ _ (S.map (ptrJ b10)).length (S.map (ptrJ b10)) from by rw [List.length_map]; exact hr67)) ?_)
        refine WL.c rfl (o_mvh (show _ = Value.int _ _ from rfl) ?_)
        refine WL.nil ?_
        refine W.block ?_
        refine W.loop (fun e w => ∃ (j : Nat) (vb : Value), j ≤ S.length ∧ e 1 = .pointer (some ⟨b1, 0, none⟩) ∧ e 3 = .pointer (some ⟨b3, 0, none⟩) ∧ e 5 = .pointer (some ⟨b5, 0, none⟩) ∧ e 6 = Value.func (.func 26) #[] #[.pointer (some ⟨b5, 0, none⟩)] ∧ e 49 = .slice (some ⟨sb, so, none⟩) p.code.length sc ∧ e 50 = .int .i64 (p.code.length : Int) ∧ e 51 = .int .i64 (k : Int) ∧ e 67 = v67 ∧ e 68 = .int .i64 (S.length : Int) ∧ e 69 = .int .i64 (j : Int) ∧ BufM w H0 b5 vb (lay1 p ++ (p.code.take k).flatMap (layI p.enc) ++ (vput x.op.toNat ++ (S.take j).flatMap (fun t => layO (opAt x t)))) ∧ w.ownsRow B67 67 1 v67 S.length (S.map (ptrJ b10)) ∧ w.heap[b10]? = some (.cells (insV x).toArray 28 (0, 0)) ∧ w.heap[b1]? = some (.cells (pgV p cv ev_).toArray 26 (0, 0)) ∧ w.heap[b3]? = some (.cells #[.int .i64 0, .int .i64 0] 32 (0, 0)) ∧ Ext w0 w) (fun e w => S.length - (intOf (e 69)).toNat) ?_ ?_
        · exact ⟨0, _, Nat.zero_le _, h1, h3, h5, h6, h49, h50, h51, rfl, by first | rfl | (show Value.int _ _ = Value.int _ _; simp), rfl, by simpa using hM, hr67, hC10, hC1, hC3, hx⟩
        rintro e w ⟨j, vb, hj, h1, h3, h5, h6, h49, h50, h51, h67, h68, h69, hM, hr67, hC10, hC1, hC3, hx⟩
        have hm69 := h69
        refine W.seq ?_
        refine W.region ?_
        refine WL.c rfl (o_lt h69 h68 ?_)
        refine WL.nil ?_
        refine W.seq ?_
        refine W.cond rfl (fun c70 => ?_) (fun c70 => ?_)
        · try simp only [decide_eq_true_eq, decide_eq_false_iff_not, Bool.not_eq_true', Bool.not_eq_false', Bool.and_eq_true, Bool.or_eq_true, Bool.and_eq_false_iff, Bool.or_eq_false_iff] at c70
          have hj1 : j < S.length := by omega
          have ht3 := hS3 S[j] (List.getElem_mem _)
          have hob := hopb S[j] (List.getElem_mem _)
          have hbl : ((S.take j).flatMap (fun t => layO (opAt x t))).length ≤ 30 := by
            have := fm_len (f := fun t => layO (opAt x t)) (c := 10) (l := S.take j) (fun t ht => layO_len (hopb t (List.mem_of_mem_take ht)))
            rw [List.length_take] at this; omega
          refine W.skip ?_
          refine W.seq ?_
          refine W.block ?_
          refine W.seq ?_
          refine W.region ?_
          refine WL.c rfl (o_ix1 TI64 TI67 h67 h69 (Sl.own hr67) (by omega) ?_)
          intro b71 o71 hc71 hb71
          refine WL.c rfl (o_ld TI67 rfl rfl (show _ = some (ptrJ b10 S[j]) from hc71.trans (by simp [hj1])) ?_)
          refine WL.c rfl (o_ash (by first | exact (show _ = Value.pointer _ from rfl) | exact rfl) ?_)
          refine WL.nil ?_
          refine W.region ?_
          refine WL.c rfl (o_mvh h6 ?_)
          refine WL.c rfl (o_mvh (by first | exact (show _ = Value.pointer _ from rfl) | exact rfl) ?_)
          refine WL.c rfl (o_nil (show _ = Value.pointer (some ⟨b10, 1 + S[j], none⟩) from rfl) ?_)
          refine WL.c rfl (o_ld TI3 rfl rfl (cell_of hC10 (ins_opAt x ht3)) ?_)
          refine WL.c rfl (o_addi rfl rfl (by omega) ?_)
          refine WL.c rfl (o_callC (show _ = Value.func (.func 26) #[] #[.pointer (some ⟨b5, 0, none⟩)] from by first | rfl | assumption) Tryd.call26 (lc (show _ = Value.int .i64 (opAt x S[j] + 1) from by first | rfl | assumption) ln) ((putc_spec H0 b5 _ _ (opAt x S[j] + 1) _ hM (by omega) (by omega) (by have := hbd k; have := vsz (n := x.op.toNat) (by omega); simp only [List.length_append]; omega)).mono ?_))
          rintro v78 w78 ⟨vb78, hM78, ho78⟩
          replace hr67 := FP.row ho78 hM.cell hr67 (by decide) (by decide)
          replace hC1 := FP.blk ho78 hC1 (by decide) hn1
          replace hC3 := FP.blk ho78 hC3 (by decide) hn3
          replace hC10 := FP.blk ho78 hC10 (by decide) hn10
          replace hx := FP.top hx ho78 hH0x hH5
          clear hM
          have hM := hM78
          clear hM78
          refine WL.nil ?_
          refine W.region ?_
          refine WL.c rfl (o_addi h69 rfl (by omega) ?_)
          refine WL.c rfl (o_mvh (show _ = Value.int _ _ from rfl) ?_)
          refine WL.nil ?_
          refine ⟨⟨j + 1, _, by omega, h1, h3, h5, h6, h49, h50, h51, h67, h68, rfl, by rw [take_fm hj1, ← List.append_assoc (vput x.op.toNat), ← List.append_assoc]; exact hM, hr67, hC10, hC1, hC3, hx⟩, ?_⟩
          show S.length - ((j : Int) + 1).toNat < _
          rw [hm69]; simp [intOf]; omega
        · try simp only [decide_eq_true_eq, decide_eq_false_iff_not, Bool.not_eq_true', Bool.not_eq_false', Bool.and_eq_true, Bool.or_eq_true, Bool.and_eq_false_iff, Bool.or_eq_false_iff] at c70
          obtain rfl : j = S.length := by omega
          rw [List.take_length] at hM
          refine W.exit ?_
          refine W.region ?_
          refine WL.c rfl (o_addi h51 rfl (by omega) ?_)
          refine WL.c rfl (o_mvh (show _ = Value.int _ _ from rfl) ?_)
          refine WL.nil ?_
          refine ⟨⟨k + 1, _, by omega, h1, h3, h5, h6, h49.trans hve.symm, h50, rfl, by rw [take_fm hk1, ← List.append_assoc, hxk, hLI]; exact hM, hC1, hC3, hx⟩, ?_⟩
          show p.code.length - ((k : Int) + 1).toNat < _
          rw [hm51]; simp [intOf]; omega
      · try simp only [decide_eq_true_eq, decide_eq_false_iff_not, Bool.not_eq_true', Bool.not_eq_false', Bool.and_eq_true, Bool.or_eq_true, Bool.and_eq_false_iff, Bool.or_eq_false_iff] at c52
        obtain rfl : k = p.code.length := by omega
        rw [List.take_length] at hM
        refine W.exit ?_
        refine W.seq ?_
        refine W.region ?_
        refine WL.c rfl (o_ld TI34 rfl h5 (cell_of hM.cell rfl) ?_)
        refine WL.c rfl (o_bldC (cs := [(.int .i64 0), (.int .i64 0)]) TI32 (Sizes.cons TI30 (Sizes.cons TI3 Sizes.nil)) rfl lnp rfl rfl ?_)
        refine WL.c rfl (o_ash (by first | exact (show _ = Value.slice _ _ _ from rfl) | exact rfl) ?_)
        refine WL.u (o_stA TI32 h3 rfl rfl rfl (by assumption) rfl ?_)
        intro ws hBs hos hss
        replace hx := hx.trans' hos (fun _ h => h) (fun k hk he => by subst he; omega)
        refine WL.nil ?_
        refine W.ret ?_
        refine retTC rfl TI32 rfl (show _ = vb from rfl) h3 (cells_all (by assumption)) rfl ?_
        exact ⟨_, by rw [hcz]; rfl, by rw [heb]; exact own_only hM.row hos (fun k hk he => by subst he; exact own_off hM.row hC3 (by decide) hk), hx⟩
end Go.Proofs.YthlbhnefldaoiaaDoor

set_option linter.unusedSimpArgs false
set_option linter.unusedVariables false
namespace Go.Vc
open Go Go.RowKit
variable {D : List Deferred}
/-- st: the numbers of the stores; Wt t: what is so after t stores (of the value of slot z, too) -/
def WX (P : Program) (all : List Oper) (R : World → World → Prop) (st : List Nat) (z : Nat) (Wt : Nat → Value → World → Prop) (w0 : World) (F : Known → Prop) : List Oper → Nat → Known → Prop
  | [], _, kn => F kn
  | o :: l, i, kn => (∃ d φ, o.dst = some d ∧ Mono R φ ∧ (∀ t e w, R w0 w → Wt t (e z) w → Holds kn (rds all o) e w → SG P all e o w (fun v w' => φ v w' ∧ Ext w w')) ∧ WX P all R st z Wt w0 F l (i + 1) ((d, φ) :: kn)) ∨
    (∃ t, o.dst = none ∧ st[t]? = some i ∧ (∀ e w, R w0 w → Wt t (e z) w → Holds kn (rds all o) e w → SG P all e o w (fun _ w' => Wt (t + 1) (e z) w' ∧ R w w')) ∧ WX P all R st z Wt w0 F l (i + 1) kn)
section
variable {P : Program} {all : List Oper} {R : World → World → Prop} {st : List Nat} {z : Nat} {Wt : Nat → Value → World → Prop} {w0 : World} {F : Known → Prop} {o : Oper} {l : List Oper} {kn : Known} {d i : Nat}
theorem WX.p {V : Value} (hd : o.dst = some d) (h : ∀ t e w, R w0 w → Wt t (e z) w → Holds kn (rds all o) e w → SG P all e o w (fun v w' => v = V ∧ Ext w w')) (k : WX P all R st z Wt w0 F l (i + 1) ((d, fun v _ => v = V) :: kn)) : WX P all R st z Wt w0 F (o :: l) i kn :=
  .inl ⟨d, fun v _ => v = V, hd, fun _ _ _ _ h => h, h, k⟩
theorem WX.q (φ : Value → World → Prop) (hm : Mono R φ) (hd : o.dst = some d) (h : ∀ t e w, R w0 w → Wt t (e z) w → Holds kn (rds all o) e w → SG P all e o w (fun v w' => φ v w' ∧ Ext w w')) (k : WX P all R st z Wt w0 F l (i + 1) ((d, φ) :: kn)) : WX P all R st z Wt w0 F (o :: l) i kn :=
  .inl ⟨d, φ, hd, hm, h, k⟩
theorem WX.s (t : Nat) (hd : o.dst = none) (ht : st[t]? = some i) (h : ∀ e w, R w0 w → Wt t (e z) w → Holds kn (rds all o) e w → SG P all e o w (fun _ w' => Wt (t + 1) (e z) w' ∧ R w w')) (k : WX P all R st z Wt w0 F l (i + 1) kn) : WX P all R st z Wt w0 F (o :: l) i kn :=
  .inr ⟨t, hd, ht, h, k⟩
theorem WX.unroll : ∀ (l : List Oper) (i : Nat) (kn : Known), WX P all R st z Wt w0 F l i kn → ∃ KN : Known, F KN ∧ (∀ x ∈ kn, x ∈ KN) ∧ KN.map Prod.fst = ((l.filterMap fun o => o.dst).reverse ++ kn.map Prod.fst) ∧ (∀ x ∈ KN, x ∈ kn ∨ (Mono R x.2 ∧ ∃ o ∈ l, o.dst = some x.1)) ∧
    ∀ j o, l[j]? = some o → (∃ d φ, o.dst = some d ∧ (d, φ) ∈ KN ∧ ∀ t e w, R w0 w → Wt t (e z) w → (∀ x ∈ KN, x.1 ∈ rds all o → x.2 (e x.1) w) → SG P all e o w (fun v w' => φ v w' ∧ Ext w w')) ∨
      (∃ t, o.dst = none ∧ st[t]? = some (i + j) ∧ ∀ e w, R w0 w → Wt t (e z) w → (∀ x ∈ KN, x.1 ∈ rds all o → x.2 (e x.1) w) → SG P all e o w (fun _ w' => Wt (t + 1) (e z) w' ∧ R w w'))
  | [], i, kn, h => ⟨kn, h, fun _ h => h, by simp, fun _ h => .inl h, fun j o ho => by simp at ho⟩
  | o :: l, i, kn, h => by
    rcases h with ⟨d, φ, hd, hm, hs, hk⟩ | ⟨t, hd, ht, hs, hk⟩
    · obtain ⟨KN, h1, h2, h3, h4, h5⟩ := WX.unroll l _ _ hk
      refine ⟨KN, h1, fun x hx => h2 x (List.mem_cons_of_mem _ hx), ?_, fun x hx => ?_, fun j o' ho' => ?_⟩
      · rw [h3]; simp [hd]
      · rcases h4 x hx with hx' | ⟨h, o', ho', h'⟩
        · rcases List.mem_cons.1 hx' with rfl | hx'
          · exact .inr ⟨hm, o, List.mem_cons_self .., hd⟩
          · exact .inl hx'
        · exact .inr ⟨h, o', List.mem_cons_of_mem _ ho', h'⟩
      · cases j with
        | zero =>
          simp only [List.getElem?_cons_zero, Option.some.injEq] at ho'
          subst ho'
          exact .inl ⟨d, φ, hd, h2 _ (List.mem_cons_self ..), fun t e w hR hW hx => hs t e w hR hW (Holds.of fun x hx' hs' => hx x (h2 x (List.mem_cons_of_mem _ hx')) hs')⟩
        | succ j =>
          have := h5 j o' (by simpa using ho')
          rw [show i + 1 + j = i + (j + 1) by omega] at this
          exact this
    · obtain ⟨KN, h1, h2, h3, h4, h5⟩ := WX.unroll l _ _ hk
      refine ⟨KN, h1, h2, ?_, fun x hx => ?_, fun j o' ho' => ?_⟩
      · rw [h3]; simp [hd]
      · rcases h4 x hx with hx' | ⟨h, o', ho', h'⟩
        · exact .inl hx'
        · exact .inr ⟨h, o', List.mem_cons_of_mem _ ho', h'⟩
      · cases j with
        | zero =>
          simp only [List.getElem?_cons_zero, Option.some.injEq] at ho'
          subst ho'
          exact .inr ⟨t, hd, ht, fun e w hR hW hx => hs e w hR hW (Holds.of fun x hx' hs' => hx x (h2 x hx') hs')⟩
        | succ j =>
          have := h5 j o' (by simpa using ho')
          rw [show i + 1 + j = i + (j + 1) by omega] at this
          exact this
end
/-- What is asked of the region's text. -/
def mixOk (all : List Oper) (st : List Nat) (z : Nat) (ins : List Nat) (n : Nat) : Bool :=
  decide ((all.filterMap fun o => o.dst).reverse ++ ins).Nodup && decide st.Nodup && st.all (fun i => (all[i]?).all (·.dst.isNone)) &&
  all.all (fun o => o.dst.all fun d => Nat.blt d n) && st.all (fun i => Nat.blt i all.length) &&
  all.zipIdx.all (fun (o, i) => o.after.toList.all (fun e => !Region.binds .any e || Nat.blt e.on i) &&
    all.zipIdx.all (fun (p, j) => (match p.dst with | some d => !(rds all o).contains d && !(o.dst.isNone && d == z) | none => true) || o.after.toList.any (fun e => Region.binds .any e && e.on == j))) &&
  st.zipIdx.all (fun (i, t) => match st[t + 1]? with | some k => (all[k]?).all (fun o => o.after.toList.any (fun e => Region.binds .any e && e.on == i)) | none => true)

theorem getD_set_ne {ls : Array Bool} {i k : Nat} {b c : Bool} (h : k ≠ i) : (ls.setIfInBounds i b).getD k c = ls.getD k c := by
  rw [Array.getD_eq_getD_getElem?, Array.getElem?_setIfInBounds_ne (by omega), Array.getD_eq_getD_getElem?]
theorem getD_set_eq {ls : Array Bool} {i : Nat} {c : Bool} (h : i < ls.size) : (ls.setIfInBounds i true).getD i c = true := by
  rw [Array.getD_eq_getD_getElem?, Array.getElem?_setIfInBounds]; simp [h]
theorem getD_tf {ls : Array Bool} {i : Nat} (h : i < ls.size) : ls.getD i true = ls.getD i false := by
  simp [Array.getD, h]
theorem W.mix {P : Program} {Q : Exit → Env → World → Prop} {n : Nat} {e : Env} {w : World} {id : Nat} {l : List Oper} (st : List Nat) (z : Nat) (Wt : Nat → Value → World → Prop) (R : World → World → Prop) (kn : Known) (hm : P.follows .mixedOrders = true) (hok : mixOk l st z (kn.map Prod.fst) n = true)
    (hrefl : ∀ w, R w w) (htrans : ∀ a b c, R a b → R b c → R a c) (hext : ∀ a b, Ext a b → R a b) (hWE : ∀ t v a b, Wt t v a → Ext a b → Wt t v b) (hW0 : ∀ v v' w, Wt 0 v w → Wt 0 v' w) (hmono' : MonoAll R kn) (h0 : HoldsAll kn e w.drew) (hW : Wt 0 (e z) w.drew)
    (h : WX P l R st z Wt w.drew (fun KN => ∀ e' w', R w.drew w' → Wt st.length (e' z) w' → HoldsAll KN e' w' → Q .normal e' w') l 0 kn) : W P (.region id l.toArray true) Q n e w := by
  have hmono := hmono'.mem
  obtain ⟨KN, hF, hsub, hfst, hor, hstep⟩ := WX.unroll l 0 kn h
  simp only [mixOk, Bool.and_eq_true, decide_eq_true_eq, List.all_eq_true] at hok
  obtain ⟨⟨⟨⟨⟨⟨hnd, hsn⟩, hsd⟩, hdst⟩, hsl⟩, hedge⟩, hchain⟩ := hok
  have hnd' : (KN.map Prod.fst).Nodup := by rw [hfst]; exact hnd
  have hinj := nodup_inj hnd'
  have hmonoK : ∀ x ∈ KN, Mono R x.2 := fun x hx => by
    rcases hor x hx with hx | ⟨hm, _⟩
    · exact hmono x hx
    · exact hm
  have hback : ∀ (i : Nat) o, l[i]? = some o → ∀ e ∈ o.after.toList, Region.binds .any e = true → e.on < i := by
    intro i o ho e he hb
    have := (hedge (o, i) (List.mem_zipIdx_iff_getElem?.2 ho)).1 e he
    rw [hb] at this
    simpa using this
  have hpair : ∀ (i j : Nat) o p d, l[i]? = some o → l[j]? = some p → p.dst = some d → (d ∈ rds l o ∨ (o.dst = none ∧ d = z)) → ∃ e ∈ o.after.toList, Region.binds .any e = true ∧ e.on = j := by
    intro i j o p d ho hp hd hin
    have := (hedge (o, i) (List.mem_zipIdx_iff_getElem?.2 ho)).2 (p, j) (List.mem_zipIdx_iff_getElem?.2 hp)
    simp only [hd, Bool.or_eq_true, Bool.and_eq_true, Bool.not_eq_true', List.any_eq_true, beq_iff_eq] at this
    rcases this with ⟨h1, h2⟩ | ⟨e, he, hb, hj⟩
    · exfalso
      rcases hin with hin | ⟨hn, hz⟩
      · simp only [List.contains_eq_mem, decide_eq_false_iff_not] at h1; exact h1 hin
      · rw [hn, hz] at h2; simp at h2
    · exact ⟨e, he, hb, hj⟩
  have hstn : ∀ (j i : Nat) o, st[j]? = some i → l[i]? = some o → o.dst = none := by
    intro j i o hj hi
    have := hsd i (List.mem_of_getElem? hj)
    rw [hi] at this
    simpa using this
  have hstl : ∀ (j i : Nat), st[j]? = some i → i < l.length := by
    intro j i hj
    have := hsl i (List.mem_of_getElem? hj)
    simpa using this
  have hnext : ∀ (j i k : Nat) o, st[j]? = some i → st[j + 1]? = some k → l[k]? = some o → ∃ e ∈ o.after.toList, Region.binds .any e = true ∧ e.on = i := by
    intro j i k o hj hj2 hk
    have := hchain (i, j) (List.mem_zipIdx_iff_getElem?.2 hj)
    simp only [hj2, hk, Option.all_some, List.any_eq_true, Bool.and_eq_true, beq_iff_eq] at this
    obtain ⟨e, he, hb, hi⟩ := this
    exact ⟨e, he, hb, hi⟩
  have hstinj : ∀ (j j' i : Nat), st[j]? = some i → st[j']? = some i → j = j' := by
    intro j j' i h1 h2
    obtain ⟨g1, g2⟩ := List.getElem?_eq_some_iff.1 h1
    obtain ⟨g3, g4⟩ := List.getElem?_eq_some_iff.1 h2
    exact (List.getElem_inj hsn).1 (g2.trans g4.symm)
  refine ⟨fun D a ha => wp_region_any hm ?_⟩
  have main : ∀ (fuel : Nat) (listed : Array Bool) (a : Act) (w' : World) (e' : Env), listed.size = l.length → (l.length ≤ fuel + (List.range l.length).countP (fun i => listed.getD i true)) → Rel D n a e' → R w.drew w' →
      (∀ x ∈ KN, (x ∈ kn ∨ ∃ j o, l[j]? = some o ∧ o.dst = some x.1 ∧ listed.getD j false = true) → x.2 (e' x.1) w') →
      (∀ k o, l[k]? = some o → listed.getD k false = true → ∀ e ∈ o.after.toList, Region.binds .any e = true → listed.getD e.on false = true) →
      (∃ t, t ≤ st.length ∧ Wt t (e' z) w' ∧ ∀ j i, st[j]? = some i → (listed.getD i false = true ↔ j < t)) →
      wpAny P .any l.toArray (lift D n Q) fuel listed a w' := by
    intro fuel
    have fin : ∀ (listed : Array Bool) (a : Act) (w' : World) (e' : Env), listed.size = l.length → Rel D n a e' → R w.drew w' → (∀ x ∈ KN, (x ∈ kn ∨ ∃ j o, l[j]? = some o ∧ o.dst = some x.1 ∧ listed.getD j false = true) → x.2 (e' x.1) w') →
        (∃ t, t ≤ st.length ∧ Wt t (e' z) w' ∧ ∀ j i, st[j]? = some i → (listed.getD i false = true ↔ j < t)) → (∀ i, i < l.length → listed.getD i true = true) → lift D n Q .normal a w' := by
      intro listed a w' e' hsz hr hR hx ht hall
      obtain ⟨t, htl, hWt, hts⟩ := ht
      have hall2 : ∀ i, i < l.length → listed.getD i false = true := fun i hi => by rw [← getD_tf (by omega)]; exact hall i hi
      have htt : t = st.length := by
        rcases Nat.lt_or_ge t st.length with h | h
        · have h1 := hts t st[t] (List.getElem?_eq_getElem h)
          have h2 := h1.1 (hall2 _ (hstl t _ (List.getElem?_eq_getElem h)))
          omega
        · omega
      subst htt
      refine ⟨e', hr, hF e' w' hR hWt (HoldsAll.of fun x hxm => hx x hxm ?_)⟩
      rcases hor x hxm with h | ⟨_, o, ho, hd⟩
      · exact .inl h
      · obtain ⟨j, hj⟩ := List.getElem?_of_mem ho
        exact .inr ⟨j, o, hj, hd, hall2 j (List.getElem?_eq_some_iff.1 hj).1⟩
    induction fuel with
    | zero =>
      intro listed a w' e' hsz hcnt hr hR hx hcl ht
      have hall : ∀ i, i < l.length → listed.getD i true = true := by
        intro i hi
        have hle := List.countP_le_length (p := fun i => listed.getD i true) (l := List.range l.length)
        have heq : (List.range l.length).countP (fun i => listed.getD i true) = (List.range l.length).length := by simp at hle ⊢; simp at hcnt; omega
        exact List.countP_eq_length.1 heq i (List.mem_range.2 hi)
      refine ⟨?_, fin listed a w' e' hsz hr hR hx ht hall⟩
      unfold Region.ready
      rw [List.filter_eq_nil_iff]
      intro i hi
      have hi' : i < l.length := by simpa using hi
      rw [hall i hi']
      simp
    | succ fuel ih =>
      intro listed a w' e' hsz hcnt hr hR hx hcl ht
      refine ⟨fun hre => fin listed a w' e' hsz hr hR hx ht (all_listed hsz hback hre), fun i hi => ?_⟩
      obtain ⟨hiu, oi, hoi, hall⟩ := mem_ready.1 hi
      have hoi' : l[i]? = some oi := by simpa using hoi
      have hil : i < l.length := (List.getElem?_eq_some_iff.1 hoi').1
      have hiu2 : listed.getD i false = false := by rw [← getD_tf (by omega)]; exact hiu
      have hall' : ∀ ed ∈ oi.after.toList, Region.binds .any ed = true → listed.getD ed.on false = true := fun ed hed hb => hall ed (by simpa using hed) hb
      have hpre : ∀ x ∈ KN, x.1 ∈ rds l oi → x.2 (e' x.1) w' := by
        intro x hxm hxr
        refine hx x hxm ?_
        rcases hor x hxm with h | ⟨_, o, ho, hdo⟩
        · exact .inl h
        · obtain ⟨j, hj⟩ := List.getElem?_of_mem ho
          obtain ⟨ed, hed, hb, hej⟩ := hpair i j oi o x.1 hoi' hj hdo (.inl hxr)
          exact .inr ⟨j, o, hj, hdo, by rw [← hej]; exact hall' ed hed hb⟩
      have hcount : (List.range l.length).countP (fun k => listed.getD k true) + 1 ≤ (List.range l.length).countP (fun k => (listed.setIfInBounds i true).getD k true) := by
        have key : ∀ (r : List Nat), r.Nodup → i ∈ r → r.countP (fun k => listed.getD k true) + 1 ≤ r.countP (fun k => (listed.setIfInBounds i true).getD k true) := by
          intro r
          induction r with
          | nil => intro _ h; cases h
          | cons k r ihr =>
            intro hn hmem
            simp only [List.nodup_cons] at hn
            rw [List.countP_cons, List.countP_cons]
            by_cases hki : k = i
            · subst hki
              have e1 : listed.getD k true = false := hiu
              have e2 : (listed.setIfInBounds k true).getD k true = true := getD_set_eq (by omega)
              rw [e1, e2]
              have : r.countP (fun k => listed.getD k true) ≤ r.countP (fun k' => (listed.setIfInBounds k true).getD k' true) := by
                refine List.countP_mono_left fun k' hk' => ?_
                intro h
                by_cases hkk : k' = k
                · subst hkk; exact absurd hk' hn.1
                · rw [getD_set_ne hkk]; exact h
              rw [if_neg (by decide), if_pos rfl]; omega
            · have e1 : (listed.setIfInBounds i true).getD k true = listed.getD k true := getD_set_ne hki
              have := ihr hn.2 (by rcases List.mem_cons.1 hmem with h | h; exact absurd h.symm hki; exact h)
              rw [e1]; omega
        exact key _ List.nodup_range (List.mem_range.2 hil)
      have hcl2 : ∀ k o, l[k]? = some o → (listed.setIfInBounds i true).getD k false = true → ∀ ed ∈ o.after.toList, Region.binds .any ed = true → (listed.setIfInBounds i true).getD ed.on false = true := by
        intro k o hk hkl ed hed hb
        by_cases hei : ed.on = i
        · rw [hei]; exact getD_set_eq (by omega)
        · rw [getD_set_ne hei]
          by_cases hki : k = i
          · subst hki
            rw [hoi'] at hk
            cases hk
            exact hall' ed hed hb
          · rw [getD_set_ne hki] at hkl
            exact hcl k o hk hkl ed hed hb
      obtain ⟨t, htl, hWt, hts⟩ := ht
      rcases hstep i oi hoi' with ⟨d, φ, hd, hmem, hs⟩ | ⟨t', hd, ht', hs⟩
      · have hdn := hdst oi (List.mem_of_getElem? hoi')
        have hdn : Nat.blt d n = true := by simpa [hd] using hdn
        have hsg := hs t e' w' hR hWt hpre _ n a hr
        have next : ∀ v w2, φ v w2 ∧ Ext w' w2 → wpAny P .any l.toArray (lift D n Q) fuel (listed.setIfInBounds i true) (a.put oi.dst v) w2 := by
          rintro v w2 ⟨hφ, hE⟩
          have hR2 := hext _ _ hE
          rw [hd]
          refine ih _ _ _ (upd e' d v) (by simpa using hsz) (by omega) (hr.put hdn v) (htrans _ _ _ hR hR2) ?_ hcl2 ?_
          · intro x hxm hcond
            by_cases hxd : x.1 = d
            · have := hinj x hxm (d, φ) hmem hxd
              subst this
              simp only [upd]
              rw [show Nat.beq d d = true from Nat.beq_refl d]
              exact hφ
            · have hnb : Nat.beq x.1 d = false := beq_false hxd
              simp only [upd, hnb]
              refine hmonoK x hxm _ _ _ hR2 (hx x hxm ?_)
              rcases hcond with h | ⟨j, o, hj, hdo, hl⟩
              · exact .inl h
              · refine .inr ⟨j, o, hj, hdo, ?_⟩
                have hji : j ≠ i := by
                  intro hji
                  subst hji
                  rw [hj] at hoi'
                  cases hoi'
                  rw [hdo] at hd
                  simp only [Option.some.injEq] at hd
                  exact hxd hd
                rw [getD_set_ne hji] at hl; exact hl
          · refine ⟨t, htl, ?_, fun j k hk => ?_⟩
            · by_cases hdz : z = d
              · have ht0 : t = 0 := by
                  rcases Nat.eq_zero_or_pos t with h | h
                  · exact h
                  · exfalso
                    have hlen : 0 < st.length := by omega
                    have hs0 : st[0]? = some st[0] := List.getElem?_eq_getElem hlen
                    have h1 := (hts 0 _ hs0).2 h
                    have h2 := hstl 0 _ hs0
                    obtain ⟨ed, hed, hb, hej⟩ := hpair _ i _ oi d (List.getElem?_eq_getElem h2) hoi' hd (.inr ⟨hstn 0 _ _ hs0 (List.getElem?_eq_getElem h2), hdz.symm⟩)
                    have h3 := hcl _ _ (List.getElem?_eq_getElem h2) h1 ed hed hb
                    rw [hej, hiu2] at h3
                    cases h3
                subst ht0
                exact hW0 _ _ _ (hWE _ _ _ _ hWt hE)
              · have hnb : Nat.beq z d = false := beq_false hdz
                simp only [upd, hnb]
                exact hWE _ _ _ _ hWt hE
            · have hki : k ≠ i := by
                intro hki
                subst hki
                have := hstn j k oi hk hoi'
                rw [hd] at this
                cases this
              rw [getD_set_ne hki]
              exact hts j k hk
        unfold wpOp
        rw [hoi]
        show (if Region.wanted oi (yielded l.toArray a.tmps) = true then _ else _)
        split
        · rename_i hw
          rw [if_pos hw] at hsg
          exact .inl (OP.wp hr.ev (hsg.mono next))
        · rename_i hw
          rw [if_neg hw] at hsg
          exact next undef w' hsg
      · rw [Nat.zero_add] at ht'
        have htt : t' = t := by
          have h1 : ¬ t' < t := fun h => by
            have := (hts t' i ht').2 h
            rw [hiu2] at this; cases this
          rcases Nat.lt_or_ge t t' with h | h
          · exfalso
            obtain ⟨q, rfl⟩ : ∃ q, t' = q + 1 := ⟨t' - 1, by omega⟩
            have hq : q < st.length := by have := (List.getElem?_eq_some_iff.1 ht').1; omega
            obtain ⟨ed, hed, hb, hej⟩ := hnext q st[q] i oi (List.getElem?_eq_getElem hq) ht' hoi'
            have h2 := hall' ed hed hb
            rw [hej] at h2
            have := (hts q _ (List.getElem?_eq_getElem hq)).1 h2
            omega
          · omega
        subst htt
        have hsg := hs e' w' hR hWt hpre _ n a hr
        have next : ∀ v w2, Wt (t' + 1) (e' z) w2 ∧ R w' w2 → wpAny P .any l.toArray (lift D n Q) fuel (listed.setIfInBounds i true) (a.put oi.dst v) w2 := by
          rintro v w2 ⟨hW2, hR2⟩
          rw [hd]
          refine ih _ _ _ e' (by simpa using hsz) (by omega) hr (htrans _ _ _ hR hR2) ?_ hcl2 ?_
          · intro x hxm hcond
            refine hmonoK x hxm _ _ _ hR2 (hx x hxm ?_)
            rcases hcond with h | ⟨j, o, hj, hdo, hl⟩
            · exact .inl h
            · refine .inr ⟨j, o, hj, hdo, ?_⟩
              have hji : j ≠ i := by
                intro hji
                subst hji
                rw [hj] at hoi'
                cases hoi'
                rw [hdo] at hd
                cases hd
              rw [getD_set_ne hji] at hl; exact hl
          · refine ⟨t' + 1, (List.getElem?_eq_some_iff.1 ht').1, hW2, fun j k hk => ?_⟩
            by_cases hki : k = i
            · subst hki
              have := hstinj j t' k hk ht'
              subst this
              exact ⟨fun _ => by omega, fun _ => getD_set_eq (by omega)⟩
            · rw [getD_set_ne hki, hts j k hk]
              have : j ≠ t' := by
                intro h
                subst h
                rw [hk] at ht'
                cases ht'
                exact hki rfl
              omega
        unfold wpOp
        rw [hoi]
        show (if Region.wanted oi (yielded l.toArray a.tmps) = true then _ else _)
        split
        · rename_i hw
          rw [if_pos hw] at hsg
          exact .inl (OP.wp hr.ev (hsg.mono next))
        · rename_i hw
          rw [if_neg hw] at hsg
          exact next undef w' hsg
  refine main _ _ a w.drew e (by simp) (by simp) ha (hrefl _) (fun x hxm hc => ?_) (fun k o hk hl => ?_) ⟨0, Nat.zero_le _, hW, fun j i hj => ⟨fun hl => ?_, fun h => absurd h (Nat.not_lt_zero _)⟩⟩
  · rcases hc with h | ⟨j, o, hj, hdo, hl⟩
    · exact h0.mem x h
    · rw [Array.getD_eq_getD_getElem?, Array.getElem?_replicate] at hl
      split at hl <;> simp at hl
  · rw [Array.getD_eq_getD_getElem?, Array.getElem?_replicate] at hl
    split at hl <;> simp at hl
  · rw [Array.getD_eq_getD_getElem?, Array.getElem?_replicate] at hl
    split at hl <;> simp at hl
end Go.Vc

set_option linter.unusedSimpArgs false
set_option linter.unusedVariables false
set_option maxRecDepth 100000
namespace Go.Proofs.YthlbhnefldaoiaaDoor
open Go Go.Vc Go.RowKit Go.Proofs

/-- old blocks stay, new ones keep their shape -/
def ShpR (D : Nat) (a b : World) : Prop := Only (fun k => D ≤ k) a b ∧ ∀ (k : Nat) (cs : Array Value) (T : TypeId), a.heap[k]? = some (.cells cs T (0, 0)) → ∃ cs' : Array Value, b.heap[k]? = some (.cells cs' T (0, 0)) ∧ cs'.size = cs.size
theorem ShpR.refl (D : Nat) (w : World) : ShpR D w w := ⟨Only.refl _ w, fun k cs T h => ⟨cs, h, rfl⟩⟩
theorem ShpR.trans (D : Nat) (a b c : World) (h : ShpR D a b) (k : ShpR D b c) : ShpR D a c := ⟨h.1.trans k.1, fun j cs T hj => by
  obtain ⟨c1, h1, h2⟩ := h.2 j cs T hj
  obtain ⟨c2, h3, h4⟩ := k.2 j c1 T h1
  exact ⟨c2, h3, h4.trans h2⟩⟩
theorem ShpR.ext (D : Nat) (a b : World) (h : Ext a b) : ShpR D a b := ⟨h.mono (fun _ _ h => h.elim), fun k cs T hk => ⟨cs, h.blk hk (fun h => h), rfl⟩⟩
theorem ShpR.put {D : Nat} {a b : World} {q : Nat} {cs cs' : Array Value} {T : TypeId} (hq : D ≤ q) (ho : Only (fun k => k = q) a b) (h1 : a.heap[q]? = some (.cells cs T (0, 0))) (h2 : b.heap[q]? = some (.cells cs' T (0, 0))) (hs : cs'.size = cs.size) : ShpR D a b :=
  ⟨ho.mono (fun k _ he => by subst he; exact hq), fun k c1 T1 hk => by
    by_cases he : k = q
    · subst he
      rw [h1] at hk
      cases hk
      exact ⟨cs', h2, hs⟩
    · exact ⟨c1, ho.blk hk he, rfl⟩⟩
def ints (l : List Nat) : List Value := l.map fun n : Nat => Value.int .i64 (n : Int)
/-- what is known of the cell that the form is put into -/
def FmW (D : Nat) (F : List UInt8 × List UInt8 × Bool) (t : Nat) (v : Value) (w : World) : Prop := match t with | 0 => True | _ + 1 => ∃ b, v = .pointer (some ⟨b, 0, none⟩) ∧ D ≤ b ∧ w.heap[b]? = some (.cells #[st F.1, st F.2.1] 82 (0, 0))
theorem FmW.ext {D : Nat} {F : List UInt8 × List UInt8 × Bool} (t : Nat) (v : Value) (a b : World) (h : FmW D F t v a) (ho : Ext a b) : FmW D F t v b := by
  cases t with
  | zero => trivial
  | succ t => obtain ⟨q, h1, h2, h3⟩ := h; exact ⟨q, h1, h2, ho.blk h3 (fun h => h)⟩
def FmP (D : Nat) (v : Value) (w : World) : Prop := ∃ b, v = .pointer (some ⟨b, 0, none⟩) ∧ D ≤ b ∧ ∃ cs : Array Value, w.heap[b]? = some (.cells cs 82 (0, 0)) ∧ cs.size = 2
theorem FmP.mono {D : Nat} : Mono (ShpR D) (FmP D) := fun v a b hR h => by
  obtain ⟨q, h1, h2, cs, h3, h4⟩ := h
  obtain ⟨c2, h5, h6⟩ := hR.2 q cs _ h3
  exact ⟨q, h1, h2, c2, h5, h6.trans h4⟩

end Go.Proofs.YthlbhnefldaoiaaDoor

set_option linter.unusedSimpArgs false
set_option linter.unusedVariables false
set_option maxRecDepth 100000
namespace Go.Proofs.YthlbhnefldaoiaaDoor
open Go Go.Vc Go.RowKit Go.Proofs

/-- where a reader stands, in its cells -/
def StP (n : Nat) (s : Rs) (a e q : Nat) : Prop := match s with | .ok k => a = k ∧ e = 0 ∧ q = 0 ∧ k ≤ n | .er e' q' => e = e' ∧ q = q' ∧ e' ≠ 0
structure RdM (w : World) (ty : TypeId) (b : Nat) (ta : Option Addr) (tc : Nat) (T : List UInt8) (s : Rs) : Prop where
  cell : ∃ a e q : Nat, w.heap[b]? = some (.cells #[.slice ta T.length tc, .int .i64 (a : Int), .int .i64 (e : Int), .int .i64 (q : Int)] ty (0, 0)) ∧ StP T.length s a e q
  txt : By w (.slice ta T.length tc) T
theorem RdM.ext {w w' : World} {ty : TypeId} {b : Nat} {ta : Option Addr} {tc : Nat} {T : List UInt8} {s : Rs} (h : RdM w ty b ta tc T s) (ho : Ext w w') : RdM w' ty b ta tc T s := by
  obtain ⟨a, e, q, h1, h2⟩ := h.cell
  exact ⟨⟨a, e, q, ho.blk h1 (fun h => h), h2⟩, h.txt.ext ho⟩
theorem Sl.only0 {F : Nat → Prop} {w w' : World} {s : Nat} {v : Value} {n : Nat} {xs : List Value} (h : Sl w s v n xs) (ho : Only F w w') (hn : 0 < n → ∀ b, v.ownBlock = some b → ¬ F b) : Sl w' s v n xs := by
  rcases Nat.eq_zero_or_pos n with rfl | h0
  · obtain ⟨a, c, hv⟩ := h.isSlice
    exact ⟨h.len, .inl ⟨rfl, a, c, hv⟩⟩
  · exact h.only ho (hn h0)
def FarB (b : Nat) (ta : Option Addr) (T : List UInt8) : Prop := 0 < T.length → ∀ q, ta = some q → q.block ≠ b
theorem RdM.put {w w' : World} {ty : TypeId} {b : Nat} {ta : Option Addr} {tc : Nat} {T : List UInt8} {s s' : Rs} (h : RdM w ty b ta tc T s) (hf : FarB b ta T) (ho : Only (fun k => k = b) w w') {a e q : Nat} (hC : w'.heap[b]? = some (.cells #[.slice ta T.length tc, .int .i64 (a : Int), .int .i64 (e : Int), .int .i64 (q : Int)] ty (0, 0))) (hs : StP T.length s' a e q) : RdM w' ty b ta tc T s' :=
  ⟨⟨a, e, q, hC, hs⟩, Sl.only0 h.txt ho (fun h0 k hk he => by
    cases ta with
    | none => simp [Value.ownBlock] at hk
    | some x => simp only [Value.ownBlock, Option.some.injEq] at hk; exact hf h0 x rfl (hk.trans he))⟩
theorem by_drop {w : World} {ta : Option Addr} {tc : Nat} {T : List UInt8} {k : Nat} (h : By w (.slice ta T.length tc) T) (hk : k ≤ T.length) : By w (sliced ta k T.length tc 1) (T.drop k) := by
  have h1 := h.sliced k T.length hk (Nat.le_refl _)
  have e1 : (((T.map bv).drop (k * 1)).take ((T.length - k) * 1)) = (T.drop k).map bv := by
    rw [Nat.mul_one, Nat.mul_one, ← List.map_drop, List.take_of_length_le (by simp)]
  rw [e1] at h1
  show Sl w 1 _ (T.drop k).length _
  rw [List.length_drop]
  exact h1
theorem slice_cap {w : World} {s n c : Nat} {ta : Option Addr} {xs : List Value} (h : Sl w s (.slice ta n c) n xs) : n ≤ c := by
  rcases h.val with ⟨rfl, _⟩ | ⟨b, off, c', hv, hnc, _⟩
  · omega
  · simp only [Value.slice.injEq] at hv; omega
theorem numS_st {T : List UInt8} {k most e : Nat} : numS T (.ok k) most e = if (vget 0 0 (T.drop k)).2.2 ≠ 0 then (0, .er (vget 0 0 (T.drop k)).2.2 (k + (vget 0 0 (T.drop k)).2.1)) else if most < (vget 0 0 (T.drop k)).1 then (0, .er e k) else ((vget 0 0 (T.drop k)).1, .ok (k + (vget 0 0 (T.drop k)).2.1)) := rfl
def wr (n : Nat) : Int := IntKind.i64.wrap (n : Int)
theorem wr_eq {n : Nat} (h : n < 9223372036854775808) : wr n = (n : Int) := wrap64' _ (by omega)
set_option maxHeartbeats 2000000 in
theorem number_spec (b : Nat) (ta : Option Addr) (tc : Nat) (T : List UInt8) (s : Rs) (most er : Nat) (w0 : World) (h : RdM w0 70 b ta tc T s) (hf : FarB b ta T) (hT : T.length ≤ 4611686018427387904) (her : er ≠ 0) : Ca Tryd.prog 30 #[.pointer (some ⟨b, 0, none⟩), .int .u64 (most : Int), .int .i64 (er : Int)] w0 (fun r w' => r = .int .i64 (wr (numS T s most er).1) ∧ RdM w' 70 b ta tc T (numS T s most er).2 ∧ Only (fun k => k = b) w0 w') := by
  obtain ⟨a0, e0, q0, hC, hst⟩ := h.cell
  have htx := h.txt
  refine Ca.of Tryd.func30 Tryd.ntmps30 rfl rfl ?_
  refine W.seq ?_
  refine W.region ?_
  refine WL.c rfl (o_ash (show _ = Value.int _ _ from rfl) ?_)
  refine WL.nil ?_
  refine W.seq ?_
  refine W.seq ?_
  rcases s with k | ⟨se, sq⟩
  · skip
    obtain ⟨rfl, rfl, rfl, hk⟩ := hst
    have hby := by_drop htx hk
    have hul := vget_le (T.drop a0)
    rw [List.length_drop] at hul
    have hcap := slice_cap htx
    obtain ⟨n, hn⟩ : ∃ n, n = (vget 0 0 (T.drop a0)).1 := ⟨_, rfl⟩
    obtain ⟨u, hu⟩ : ∃ u, u = (vget 0 0 (T.drop a0)).2.1 := ⟨_, rfl⟩
    obtain ⟨f, hf0⟩ : ∃ f, f = (vget 0 0 (T.drop a0)).2.2 := ⟨_, rfl⟩
    have hN := numS_st (T := T) (k := a0) (most := most) (e := er)
    rw [← hn, ← hu, ← hf0] at hN
    rw [← hu] at hul
    refine W.region ?_
    refine WL.c rfl (o_mvh (by first | exact (show _ = Value.pointer _ from rfl) | exact rfl) ?_)
    refine WL.c rfl (o_nil rfl ?_)
    refine WL.c rfl (o_fa 2 TI70 rfl TI32 rfl rfl ?_)
    refine WL.c rfl (o_fa 0 TI32 rfl TI30 rfl rfl ?_)
    refine WL.c rfl (o_ld TI30 rfl rfl (cell_of hC rfl) ?_)
    refine WL.c rfl (o_ne rfl rfl ?_)
    refine WL.nil ?_
    refine W.condF' rfl (by simp) ?_
    refine W.skip ?_
    refine W.seq ?_
    refine W.quiet rfl (by kernel_rfl) ?_
    refine WQ.c rfl ((QO.o rfl fun _ => o_mvh (by first | exact (show _ = Value.pointer _ from rfl) | exact rfl) ⟨rfl, rfl⟩)) ?_
    refine WQ.c rfl ((QO.r fun _ => r_nil rfl)) ?_
    refine WQ.c rfl ((QO.o rfl fun _ => o_fa 0 TI70 rfl TI34 rfl rfl ⟨rfl, rfl⟩)) ?_
    refine WQ.c rfl ((QO.o rfl fun _ => o_ld TI34 rfl rfl (cell_of ((Only.drewN _ _).blk hC (fun h => h)) rfl) ⟨rfl, rfl⟩)) ?_
    refine WQ.c rfl ((QO.o rfl fun _ => o_mvh (by first | exact (show _ = Value.pointer _ from rfl) | exact rfl) ⟨rfl, rfl⟩)) ?_
    refine WQ.c rfl ((QO.r fun _ => r_nil rfl)) ?_
    refine WQ.c rfl ((QO.o rfl fun _ => o_fa 1 TI70 rfl TI3 rfl rfl ⟨rfl, rfl⟩)) ?_
    refine WQ.c rfl ((QO.o rfl fun _ => o_ld TI3 rfl rfl (cell_of ((Only.drewN _ _).blk hC (fun h => h)) rfl) ⟨rfl, rfl⟩)) ?_
    refine WQ.c rfl ((QO.o rfl fun _ => o_slv TI34 TI5 (show _ = Value.slice ta T.length tc from rfl) (Lo.s (l := a0) rfl) Hi.n hk hcap ⟨rfl, rfl⟩)) ?_
    refine WQ.c rfl (QO.call Tryd.call57 (lc rfl ln) (fun _ => Ca.same (get_spec (T.drop a0) _ _ (hby.ext (Only.drewN _ _)) (by rw [maxLen_eq, List.length_drop]; omega)))) ?_
    refine WQ.c rfl ((QO.o rfl fun _ => o_mvh (by first | exact (show _ = Value.tuple _ from rfl) | exact rfl) ⟨rfl, rfl⟩)) ?_
    refine WQ.c rfl ((QO.o rfl fun _ => o_ext rfl rfl ⟨rfl, rfl⟩)) ?_
    refine WQ.c rfl ((QO.o rfl fun _ => o_ext rfl rfl ⟨rfl, rfl⟩)) ?_
    refine WQ.c rfl ((QO.o rfl fun _ => o_ext rfl rfl ⟨rfl, rfl⟩)) ?_
    refine WQ.c rfl ((QO.o rfl fun _ => o_ash (show _ = Value.int _ _ from rfl) ⟨rfl, rfl⟩)) ?_
    refine WQ.c rfl ((QO.o rfl fun _ => o_ash (show _ = Value.int _ _ from rfl) ⟨rfl, rfl⟩)) ?_
    refine WQ.c rfl ((QO.o rfl fun _ => o_ash (show _ = Value.int _ _ from rfl) ⟨rfl, rfl⟩)) ?_
    refine WQ.nil ?_
    intro nq
    rw [← hn, ← hu, ← hf0]
    have hxq := Only.drewN w0 nq
    replace hC := hxq.blk hC (fun h => h)
    have h2 := h.ext hxq
    refine W.seq ?_
    refine W.block ?_
    refine W.seq ?_
    refine W.region ?_
    refine WL.c rfl (o_mvh (show _ = Value.int _ _ from rfl) ?_)
    refine WL.c rfl (o_ne rfl rfl ?_)
    refine WL.c rfl (o_ash (show _ = Value.bool _ from rfl) ?_)
    refine WL.nil ?_
    refine W.cond rfl (fun c40 => ?_) (fun c40 => ?_)
    · try simp only [decide_eq_true_eq, decide_eq_false_iff_not, Bool.not_eq_true', Bool.not_eq_false', Bool.and_eq_true, Bool.or_eq_true, Bool.and_eq_false_iff, Bool.or_eq_false_iff] at c40
      refine W.region ?_
      refine WL.c rfl (o_mvh (by first | exact (show _ = Value.pointer _ from rfl) | exact rfl) ?_)
      refine WL.c rfl (o_mvh (show _ = Value.int _ _ from rfl) ?_)
      refine WL.c rfl (o_mvh (by first | exact (show _ = Value.pointer _ from rfl) | exact rfl) ?_)
      refine WL.c rfl (o_nil rfl ?_)
      refine WL.c rfl (o_fa 1 TI70 rfl TI3 rfl rfl ?_)
      refine WL.c rfl (o_ld TI3 rfl rfl (cell_of hC rfl) ?_)
      refine WL.c rfl (o_mvh (show _ = Value.int _ _ from rfl) ?_)
      refine WL.c rfl (o_addi rfl rfl (by omega) ?_)
      refine WL.c rfl (o_bldC (cs := [_, _]) TI32 (Sizes.cons TI30 (Sizes.cons TI3 Sizes.nil)) rfl (lcp (show _ = Value.int _ _ from rfl) (lcp (show _ = Value.int _ _ from rfl) lnp)) rfl rfl ?_)
      refine WL.c rfl (o_nil rfl ?_)
      refine WL.c rfl (o_fa 2 TI70 rfl TI32 rfl rfl ?_)
      refine WL.u (o_stAo (cs := #[.slice ta T.length tc, .int .i64 (a0 : Int), .int .i64 0, .int .i64 0]) TI32 rfl (show _ = Value.agg #[.int .i64 (f : Int), .int .i64 ((a0 + u : Nat) : Int)] from rfl) rfl rfl hC (by simp) ?_)
      intro w53 hB53 ho53 hs53
      have hne : f ≠ 0 := by omega
      rw [if_pos hne] at hN
      have h3 : RdM w53 70 b ta tc T (.er f (a0 + u)) := h2.put hf ho53 (a := a0) hB53 ⟨rfl, rfl, hne⟩
      have hO : Only (fun k => k = b) w0 w53 := (hxq.mono (fun _ _ h => h.elim)).trans ho53
      refine WL.nil ?_
      refine W.seq ?_
      refine W.region ?_
      refine WL.c rfl (o_ash (show _ = Value.int _ _ from rfl) ?_)
      refine WL.nil ?_
      refine W.ret ?_
      refine ret1v rfl (show _ = Value.int _ _ from rfl) ?_
      rw [hN]
      exact ⟨rfl, h3, hO⟩
    · try simp only [decide_eq_true_eq, decide_eq_false_iff_not, Bool.not_eq_true', Bool.not_eq_false', Bool.and_eq_true, Bool.or_eq_true, Bool.and_eq_false_iff, Bool.or_eq_false_iff] at c40
      refine W.seq ?_
      refine W.region ?_
      refine WL.c rfl (o_mvh (show _ = Value.int _ _ from rfl) ?_)
      refine WL.c rfl (o_mvh (show _ = Value.int _ _ from rfl) ?_)
      refine WL.c rfl (o_gt rfl rfl ?_)
      refine WL.c rfl (o_ash (show _ = Value.bool _ from rfl) ?_)
      refine WL.nil ?_
      refine W.cond rfl (fun c54 => ?_) (fun c54 => ?_)
      · try simp only [decide_eq_true_eq, decide_eq_false_iff_not, Bool.not_eq_true', Bool.not_eq_false', Bool.and_eq_true, Bool.or_eq_true, Bool.and_eq_false_iff, Bool.or_eq_false_iff] at c54
        refine W.region ?_
        refine WL.c rfl (o_mvh (by first | exact (show _ = Value.pointer _ from rfl) | exact rfl) ?_)
        refine WL.c rfl (o_mvh (show _ = Value.int _ _ from rfl) ?_)
        refine WL.c rfl (o_mvh (by first | exact (show _ = Value.pointer _ from rfl) | exact rfl) ?_)
        refine WL.c rfl (o_nil rfl ?_)
        refine WL.c rfl (o_fa 1 TI70 rfl TI3 rfl rfl ?_)
        refine WL.c rfl (o_ld TI3 rfl rfl (cell_of hC rfl) ?_)
        refine WL.c rfl (o_bldC (cs := [_, _]) TI32 (Sizes.cons TI30 (Sizes.cons TI3 Sizes.nil)) rfl (lcp (show _ = Value.int _ _ from rfl) (lcp (show _ = Value.int _ _ from rfl) lnp)) rfl rfl ?_)
        refine WL.c rfl (o_nil rfl ?_)
        refine WL.c rfl (o_fa 2 TI70 rfl TI32 rfl rfl ?_)
        refine WL.u (o_stAo (cs := #[.slice ta T.length tc, .int .i64 (a0 : Int), .int .i64 0, .int .i64 0]) TI32 rfl (show _ = Value.agg #[.int .i64 (er : Int), .int .i64 (a0 : Int)] from rfl) rfl rfl hC (by simp) ?_)
        intro w66 hB66 ho66 hs66
        rw [if_neg (by omega), if_pos (by omega)] at hN
        have h3 : RdM w66 70 b ta tc T (.er er a0) := h2.put hf ho66 (a := a0) hB66 ⟨rfl, rfl, her⟩
        have hO : Only (fun k => k = b) w0 w66 := (hxq.mono (fun _ _ h => h.elim)).trans ho66
        refine WL.nil ?_
        refine W.seq ?_
        refine W.region ?_
        refine WL.c rfl (o_ash (show _ = Value.int _ _ from rfl) ?_)
        refine WL.nil ?_
        refine W.ret ?_
        refine ret1v rfl (show _ = Value.int _ _ from rfl) ?_
        rw [hN]
        exact ⟨rfl, h3, hO⟩
      · try simp only [decide_eq_true_eq, decide_eq_false_iff_not, Bool.not_eq_true', Bool.not_eq_false', Bool.and_eq_true, Bool.or_eq_true, Bool.and_eq_false_iff, Bool.or_eq_false_iff] at c54
        refine W.seq ?_
        refine W.region ?_
        refine WL.c rfl (o_mvh (by first | exact (show _ = Value.pointer _ from rfl) | exact rfl) ?_)
        refine WL.c rfl (o_nil rfl ?_)
        refine WL.c rfl (o_fa 1 TI70 rfl TI3 rfl rfl ?_)
        refine WL.c rfl (o_ld TI3 rfl rfl (cell_of hC rfl) ?_)
        refine WL.c rfl (o_mvh (show _ = Value.int _ _ from rfl) ?_)
        refine WL.c rfl (o_addi rfl rfl (by omega) ?_)
        refine WL.c rfl (o_nil rfl ?_)
        refine WL.c rfl (o_fa 1 TI70 rfl TI3 rfl rfl ?_)
        refine WL.u (o_stB TI3 rfl (show _ = Value.int .i64 ((a0 + u : Nat) : Int) from rfl) rfl hC (by simp) ?_)
        intro w37 hB37 ho37 hs37
        rw [if_neg (by omega), if_neg (by omega)] at hN
        have h3 : RdM w37 70 b ta tc T (.ok (a0 + u)) := h2.put hf ho37 hB37 ⟨rfl, rfl, rfl, by omega⟩
        have hO : Only (fun k => k = b) w0 w37 := (hxq.mono (fun _ _ h => h.elim)).trans ho37
        refine WL.nil ?_
        refine W.seq ?_
        refine W.region ?_
        refine WL.c rfl (o_mvh (show _ = Value.int _ _ from rfl) ?_)
        refine WL.c rfl (o_cvI TI58 TI3 rfl ?_)
        refine WL.c rfl (o_ash (show _ = Value.int _ _ from rfl) ?_)
        refine WL.nil ?_
        refine W.ret ?_
        refine ret1v rfl (show _ = Value.int _ _ from rfl) ?_
        rw [hN]
        exact ⟨rfl, h3, hO⟩
  · skip
    obtain ⟨rfl, rfl, hne⟩ := hst
    refine W.region ?_
    refine WL.c rfl (o_mvh (by first | exact (show _ = Value.pointer _ from rfl) | exact rfl) ?_)
    refine WL.c rfl (o_nil rfl ?_)
    refine WL.c rfl (o_fa 2 TI70 rfl TI32 rfl rfl ?_)
    refine WL.c rfl (o_fa 0 TI32 rfl TI30 rfl rfl ?_)
    refine WL.c rfl (o_ld TI30 rfl rfl (cell_of hC rfl) ?_)
    refine WL.c rfl (o_ne rfl rfl ?_)
    refine WL.nil ?_
    refine W.condT' rfl (by simp; omega) ?_
    refine W.seq ?_
    refine W.region ?_
    refine WL.c rfl (o_ash (show _ = Value.int _ _ from rfl) ?_)
    refine WL.nil ?_
    refine W.ret ?_
    refine ret1v rfl (show _ = Value.int _ _ from rfl) ?_
    exact ⟨rfl, h, Only.refl _ _⟩
end Go.Proofs.YthlbhnefldaoiaaDoor

set_option linter.unusedSimpArgs false
set_option linter.unusedVariables false
set_option maxRecDepth 100000
namespace Go.Proofs.YthlbhnefldaoiaaDoor
open Go Go.Vc Go.RowKit Go.Proofs

def setOp (x : Ins) (t : Nat) (v : Int) : Ins := if t = 0 then ⟨x.op, v, x.b, x.c⟩ else if t = 1 then ⟨x.op, x.a, v, x.c⟩ else ⟨x.op, x.a, x.b, v⟩
theorem insV_set {x : Ins} {t : Nat} (h : t < 3) (v : Int) : (insV x).toArray.setIfInBounds (1 + t) (.int .i64 v) = (insV (setOp x t v)).toArray := by
  have : t = 0 ∨ t = 1 ∨ t = 2 := by omega
  rcases this with rfl | rfl | rfl <;> rfl
def stepO (T : List UInt8) (r : Ins × Rs) (t : Nat) : Ins × Rs := (setOp r.1 t (((numS T r.2 2147483648 3).1 : Int) - 1), (numS T r.2 2147483648 3).2)
def foldO (T : List UInt8) (S : List Nat) (op : Int) (s : Rs) : Ins × Rs := S.foldl (stepO T) (⟨op, 0, 0, 0⟩, s)
theorem fold_ops (T : List UInt8) (l0 l1 l2 : UInt8) (op : Int) (s : Rs) : foldO T (selI [l0, l1, l2]) op s = (⟨op, (opS T l0 s).1, (opS T l1 (opS T l0 s).2).1, (opS T l2 (opS T l1 (opS T l0 s).2).2).1⟩, (opS T l2 (opS T l1 (opS T l0 s).2).2).2) := by
  show foldO T (selK [l0, l1, l2] (0 + 1 + 1 + 1)) op s = _
  rw [selK_succ, selK_succ, selK_succ]
  simp only [List.getD_cons_zero, List.getD_cons_succ, Nat.zero_add, Nat.reduceAdd]
  unfold opS
  by_cases h0 : l0 = 32 <;> by_cases h1 : l1 = 32 <;> by_cases h2 : l2 = 32 <;> simp [selK, foldO, stepO, setOp, h0, h1, h2]
theorem fold_step (T : List UInt8) {S : List Nat} {j : Nat} (h : j < S.length) (op : Int) (s : Rs) : foldO T (S.take (j + 1)) op s = stepO T (foldO T (S.take j) op s) S[j] := by
  unfold foldO
  rw [← List.take_append_getElem h, List.foldl_append]; rfl
theorem numS_le (T : List UInt8) (s : Rs) (most e : Nat) : (numS T s most e).1 ≤ most := by
  cases s with
  | er a b => exact Nat.zero_le _
  | ok k =>
    rw [numS_st]
    split
    · exact Nat.zero_le _
    · split
      · exact Nat.zero_le _
      · show (vget 0 0 (T.drop k)).1 ≤ most; omega
theorem insS_err {enc : Bool} {T : List UInt8} {k n e q : Nat} (h : numS T (.ok k) 255 140 = (n, .er e q)) : insS enc T k = (in0, .er e q) := by unfold insS; rw [h]
theorem insS_none {enc : Bool} {T : List UInt8} {k n k1 : Nat} (h : numS T (.ok k) 255 140 = (n, .ok k1)) (hf : fmOf enc n = none) : insS enc T k = (in0, .er 140 k) := by unfold insS; rw [h]; simp only [hf]
theorem insS_some {enc : Bool} {T : List UInt8} {k n k1 : Nat} {nm : List UInt8} {l0 l1 l2 : UInt8} (h : numS T (.ok k) 255 140 = (n, .ok k1)) (hf : fmOf enc n = some (nm, [l0, l1, l2])) : insS enc T k = foldO T (selI [l0, l1, l2]) n (.ok k1) := by
  rw [fold_ops]
  unfold insS
  rw [h]
  simp only [hf]
  rfl
theorem three_of {enc : Bool} {op : Int} {f : List UInt8 × List UInt8} (h : fmOf enc op = some f) : ∃ nm l0 l1 l2, f = (nm, [l0, l1, l2]) := by
  obtain ⟨h1, h2⟩ := fmOf_three h
  obtain ⟨nm, ls⟩ := f
  match ls, h1 with
  | [l0, l1, l2], _ => exact ⟨nm, l0, l1, l2, rfl⟩
/-- the three ways of reading an instruction -/
theorem ins_cases (enc : Bool) (T : List UInt8) (k : Nat) {n1 : Nat} {s1 : Rs} (h : numS T (.ok k) 255 140 = (n1, s1)) :
    (∃ e q, s1 = .er e q ∧ insS enc T k = (in0, .er e q)) ∨ (∃ k1, s1 = .ok k1 ∧ fmOf enc n1 = none ∧ insS enc T k = (in0, .er 140 k)) ∨
    ∃ k1 nm l0 l1 l2, s1 = .ok k1 ∧ fmOf enc n1 = some (nm, [l0, l1, l2]) ∧ insS enc T k = foldO T (selI [l0, l1, l2]) n1 (.ok k1) := by
  cases s1 with
  | er e q => exact .inl ⟨e, q, rfl, insS_err h⟩
  | ok k1 =>
    cases hf : fmOf enc n1 with
    | none => exact .inr (.inl ⟨k1, rfl, rfl, insS_none h hf⟩)
    | some f =>
      obtain ⟨nm, l0, l1, l2, rfl⟩ := three_of hf
      exact .inr (.inr ⟨k1, nm, l0, l1, l2, rfl, rfl, insS_some h hf⟩)
def TxtLt (T : List UInt8) (ta : Option Addr) (H : Nat) : Prop := 0 < T.length → ∀ q, ta = some q → q.block < H
theorem RdM.tlt {w : World} {ty : TypeId} {b : Nat} {ta : Option Addr} {tc : Nat} {T : List UInt8} {s : Rs} (h : RdM w ty b ta tc T s) : TxtLt T ta w.heap.size := fun h0 q hq => by
  subst hq
  exact h.txt.lt (by omega) rfl
theorem RdM.new {w w' : World} {ty : TypeId} {b c H : Nat} {ta : Option Addr} {tc : Nat} {T : List UInt8} {s : Rs} (h : RdM w ty b ta tc T s) (ho : Only (fun k => k = c) w w') (hc : b ≠ c) (ht : TxtLt T ta H) (hH : H ≤ c) : RdM w' ty b ta tc T s := by
  obtain ⟨a, e, q, h1, h2⟩ := h.cell
  refine ⟨⟨a, e, q, ho.blk h1 hc, h2⟩, Sl.only0 h.txt ho (fun h0 k hk he => ?_)⟩
  cases ta with
  | none => simp [Value.ownBlock] at hk
  | some x =>
    simp only [Value.ownBlock, Option.some.injEq] at hk
    have := ht h0 x rfl
    omega
theorem RdM.lt {w : World} {ty : TypeId} {b : Nat} {ta : Option Addr} {tc : Nat} {T : List UInt8} {s : Rs} (h : RdM w ty b ta tc T s) : b < w.heap.size := by
  obtain ⟨a, e, q, h1, -⟩ := h.cell
  exact (Array.getElem?_eq_some_iff.1 h1).1

set_option maxHeartbeats 8000000 in
theorem instr_spec (b : Nat) (ta : Option Addr) (tc : Nat) (T : List UInt8) (k : Nat) (w0 : World) (h : RdM w0 70 b ta tc T (.ok k)) (hf : FarB b ta T) (hT : T.length ≤ 4611686018427387904) (p : Pg) (cv ev_ : Value) : Ca Tryd.prog 31 #[.pointer (some ⟨b, 0, none⟩), .agg (pgV p cv ev_).toArray] w0 (fun r w' => ∃ x, r = .agg (insV x).toArray ∧ RdM w' 70 b ta tc T (insS p.enc T k).2 ∧ ((insS p.enc T k).2.good = true → x = (insS p.enc T k).1) ∧ Only (fun j => j = b) w0 w') := by
  have hbl := h.lt
  have htl := h.tlt
  have hO : Only (fun j => j = b) w0 w0 := Only.refl _ _
  refine Ca.of Tryd.func31 Tryd.ntmps31 rfl rfl ?_
  refine W.seq ?_
  refine W.region ?_
  refine WL.c rfl (o_boxB rfl ?_)
  intro w3 hC3 hx3 hs3
  obtain ⟨b3, hb3⟩ : ∃ b, b = w0.heap.size := ⟨_, rfl⟩
  rw [← hb3] at hC3 ⊢
  replace hC3 : w3.heap[b3]? = some (.cells (pgV p cv ev_).toArray 26 (0, 0)) := hC3
  have hb3 : b < b3 := by omega
  replace h := h.ext hx3
  replace hO := hO.ext hx3
  refine WL.c rfl (o_alB TI28 ?_)
  intro w4 hC4 hx4 hs4
  obtain ⟨b4, hb4⟩ : ∃ b, b = w3.heap.size := ⟨_, rfl⟩
  rw [← hb4] at hC4 ⊢
  replace hC4 : w4.heap[b4]? = some (.cells ([.int .i64 0, .int .i64 0, .int .i64 0, .int .i64 0]).toArray 28 (0, 0)) := hC4
  have hb4 : b < b4 := by have := h.lt; omega
  have hb4g : w0.heap.size ≤ b4 := by have := hO.size; omega
  replace h := h.ext hx4
  replace hC3 := hx4.blk hC3 (fun h => h)
  replace hO := hO.ext hx4
  refine WL.nil ?_
  refine W.seq ?_
  obtain ⟨a1, e1, q1, hCb, ha1, he1, hq1, hkl⟩ := h.cell
  refine W.region ?_
  refine WL.c rfl (o_mvh (by first | exact (show _ = Value.pointer _ from rfl) | exact rfl) ?_)
  refine WL.c rfl (o_nil rfl ?_)
  refine WL.c rfl (o_fa 1 TI70 rfl TI3 rfl rfl ?_)
  refine WL.c rfl (o_ld TI3 rfl rfl (show _ = some (Value.int .i64 (k : Int)) from by rw [← ha1]; exact cell_of hCb rfl) ?_)
  refine WL.c rfl (o_ash (show _ = Value.int _ _ from rfl) ?_)
  refine WL.nil ?_
  refine W.seq ?_
  refine W.region ?_
  refine WL.c rfl (o_mvh (by first | exact (show _ = Value.pointer _ from rfl) | exact rfl) ?_)
  refine WL.c rfl (o_call Tryd.call30 (lc rfl (lc rfl (lc rfl ln))) ((number_spec b ta tc T (.ok k) 255 140 _ h hf hT (by decide)).mono ?_))
  rintro v16 w16 ⟨rfl, h2, ho16⟩
  have hle1 := numS_le T (.ok k) 255 140
  obtain ⟨n1, hn1⟩ : ∃ n, n = (numS T (.ok k) 255 140).1 := ⟨_, rfl⟩
  obtain ⟨s1, hs1⟩ : ∃ s, s = (numS T (.ok k) 255 140).2 := ⟨_, rfl⟩
  have hN : numS T (.ok k) 255 140 = (n1, s1) := Prod.ext hn1.symm hs1.symm
  rw [← hn1] at hle1 ⊢
  rw [← hs1] at h2
  rw [wr_eq (by omega)]
  clear h
  replace hC3 := ho16.blk hC3 (by omega)
  replace hC4 := ho16.blk hC4 (by omega)
  replace hO := hO.trans ho16
  refine WL.c rfl (o_bldC (cs := [_, (.int .i64 0), (.int .i64 0), (.int .i64 0)]) TI28 (Sizes.cons TI3 (Sizes.cons TI3 (Sizes.cons TI3 (Sizes.cons TI3 Sizes.nil)))) rfl (lcp (show _ = Value.int _ _ from rfl) lnp) rfl rfl ?_)
  refine WL.c rfl (o_alB TI28 ?_)
  intro wa hCa hxa hsa
  refine WL.u (o_stA TI28 rfl (show _ = Value.agg (insV (⟨(n1 : Int), 0, 0, 0⟩ : Ins)).toArray from rfl) rfl rfl hCa rfl ?_)
  intro wb6 hC6 hob hsb
  have hxb := Ext.own hxa (Nat.le_refl _) hob
  obtain ⟨b6, hb6⟩ : ∃ b, b = w16.heap.size := ⟨_, rfl⟩
  rw [← hb6] at hC6 ⊢
  clear hCa hxa hsa hob hsb
  have hb6 : b < b6 := by have := h2.lt; omega
  have hb46 : b4 < b6 := by have := (Array.getElem?_eq_some_iff.1 hC4).1; omega
  replace h2 := h2.ext hxb
  replace hC3 := hxb.blk hC3 (fun h => h)
  replace hC4 := hxb.blk hC4 (fun h => h)
  replace hO := hO.ext hxb
  clear hxb
  refine WL.nil ?_
  refine W.seq ?_
  refine W.region ?_
  refine WL.c rfl (o_ldA TI26 rfl rfl (show Cells _ b3 0 (pgV p cv ev_) from Cells.of hC3 0 _ (by simp)) rfl ?_)
  refine WL.c rfl (o_fa 0 TI28 rfl TI3 rfl rfl ?_)
  refine WL.c rfl (o_ld TI3 rfl rfl (cell_of hC6 rfl) ?_)
  refine WL.c rfl (o_call Tryd.call28 (lc rfl (lc rfl ln)) ((of_spec0 p cv ev_ (n1 : Int) _).mono ?_))
  rintro v22 w22 ⟨rfl, hx22⟩
  obtain ⟨F, hF⟩ : ∃ F, F = fmP p.enc (n1 : Int) := ⟨_, rfl⟩
  rw [← hF]
  replace h2 := h2.ext hx22
  replace hC4 := hx22.blk hC4 (fun h => h)
  replace hC6 := hx22.blk hC6 (fun h => h)
  replace hO := hO.ext hx22
  refine WL.c rfl (o_mvh (by first | exact (show _ = Value.tuple _ from rfl) | exact rfl) ?_)
  refine WL.c rfl (o_ext rfl rfl ?_)
  refine WL.c rfl (o_ext rfl rfl ?_)
  refine WL.c rfl (o_alB TI61 ?_)
  intro wa hCa hxa hsa
  refine WL.u (o_stA TI61 rfl (show _ = Value.agg ([st F.1, st F.2.1]).toArray from rfl) rfl rfl hCa rfl ?_)
  intro wb7 hC7 hob hsb
  have hxb := Ext.own hxa (Nat.le_refl _) hob
  obtain ⟨b7, hb7⟩ : ∃ b, b = w22.heap.size := ⟨_, rfl⟩
  rw [← hb7] at hC7 ⊢
  clear hCa hxa hsa hob hsb
  have hb7 : b < b7 := by have := h2.lt; omega
  replace h2 := h2.ext hxb
  replace hC4 := hxb.blk hC4 (fun h => h)
  replace hC6 := hxb.blk hC6 (fun h => h)
  replace hO := hO.ext hxb
  clear hxb
  refine WL.c rfl (o_ash (show _ = Value.bool _ from rfl) ?_)
  refine WL.nil ?_
  refine W.seq ?_
  refine W.seq ?_
  rcases ins_cases p.enc T k hN with ⟨ee, eq_, rfl, hI⟩ | ⟨k1, rfl, hfm, hI⟩ | ⟨k1, nm, l0, l1, l2, rfl, hfm, hI⟩
  · skip
    obtain ⟨a2, e2, q2, hCb2, he2, hq2, hne2⟩ := h2.cell
    subst he2
    refine W.region ?_
    refine WL.c rfl (o_mvh (by first | exact (show _ = Value.pointer _ from rfl) | exact rfl) ?_)
    refine WL.c rfl (o_nil rfl ?_)
    refine WL.c rfl (o_fa 2 TI70 rfl TI32 rfl rfl ?_)
    refine WL.c rfl (o_fa 0 TI32 rfl TI30 rfl rfl ?_)
    refine WL.c rfl (o_ld TI30 rfl rfl (cell_of hCb2 rfl) ?_)
    refine WL.c rfl (o_eq rfl rfl ?_)
    refine WL.c rfl (o_mvh (show _ = Value.bool _ from rfl) ?_)
    refine WL.s rfl (by simp; omega) rfl ?_
    refine WL.s rfl (by simp; omega) rfl ?_
    refine WL.c rfl (o_pickF rfl (by simp; omega) ?_)
    refine WL.nil ?_
    refine W.condF' rfl (rfl) ?_
    refine W.skip ?_
    refine W.seq ?_
    refine W.seq ?_
    refine W.region ?_
    refine WL.c rfl (o_mvh (by first | exact (show _ = Value.pointer _ from rfl) | exact rfl) ?_)
    refine WL.c rfl (o_nil rfl ?_)
    refine WL.c rfl (o_fa 2 TI70 rfl TI32 rfl rfl ?_)
    refine WL.c rfl (o_fa 0 TI32 rfl TI30 rfl rfl ?_)
    refine WL.c rfl (o_ld TI30 rfl rfl (cell_of hCb2 rfl) ?_)
    refine WL.c rfl (o_ne rfl rfl ?_)
    refine WL.nil ?_
    refine W.condT' rfl (by simp; omega) ?_
    refine W.seq ?_
    refine W.region ?_
    refine WL.c rfl (o_bldC (cs := [(.int .i64 0), (.int .i64 0), (.int .i64 0), (.int .i64 0)]) TI28 (Sizes.cons TI3 (Sizes.cons TI3 (Sizes.cons TI3 (Sizes.cons TI3 Sizes.nil)))) rfl lnp rfl rfl ?_)
    refine WL.u (o_stA TI28 rfl (show _ = Value.agg (insV in0).toArray from rfl) rfl rfl (by assumption) rfl ?_)
    intro w4b hB4 ho4 hs4
    replace h2 := h2.new ho4 (by omega) htl hb4g
    replace hO := hO.trans' ho4 (fun _ h => h) (fun q hq he => by omega)
    refine WL.nil ?_
    refine W.ret ?_
    refine retC rfl TI28 rfl rfl (cells_all (by assumption)) rfl ?_
    refine ⟨in0, rfl, ?_, fun hg => ?_, hO⟩
    · rw [hI]; exact h2
    · rw [hI] at hg; cases hg
  · skip
    obtain ⟨a2, e2, q2, hCb2, ha2, he2, hq2, hkl2⟩ := h2.cell
    subst he2 hq2
    have hF2 := hF.trans (fmP_none hfm)
    clear hF
    subst hF2
    refine W.region ?_
    refine WL.c rfl (o_mvh (by first | exact (show _ = Value.pointer _ from rfl) | exact rfl) ?_)
    refine WL.c rfl (o_nil rfl ?_)
    refine WL.c rfl (o_fa 2 TI70 rfl TI32 rfl rfl ?_)
    refine WL.c rfl (o_fa 0 TI32 rfl TI30 rfl rfl ?_)
    refine WL.c rfl (o_ld TI30 rfl rfl (cell_of hCb2 rfl) ?_)
    refine WL.c rfl (o_eq rfl rfl ?_)
    refine WL.c rfl (o_mvh (show _ = Value.bool _ from rfl) ?_)
    refine WL.g rfl (by simp) rfl (o_mvh (show _ = Value.bool _ from rfl) ?_)
    refine WL.g rfl (by simp) rfl (o_not' rfl ?_)
    refine WL.c rfl (o_pickA rfl rfl ?_)
    refine WL.nil ?_
    refine W.condT' rfl (rfl) ?_
    refine W.region ?_
    refine WL.c rfl (o_mvh (by first | exact (show _ = Value.pointer _ from rfl) | exact rfl) ?_)
    refine WL.c rfl (o_mvh (show _ = Value.int _ _ from rfl) ?_)
    refine WL.c rfl (o_bldC (cs := [(.int .i64 140), _]) TI32 (Sizes.cons TI30 (Sizes.cons TI3 Sizes.nil)) rfl (lcp (show _ = Value.int _ _ from rfl) (lcp (show _ = Value.int _ _ from rfl) lnp)) rfl rfl ?_)
    refine WL.c rfl (o_nil rfl ?_)
    refine WL.c rfl (o_fa 2 TI70 rfl TI32 rfl rfl ?_)
    refine WL.u (o_stAo (cs := #[.slice ta T.length tc, .int .i64 (a2 : Int), .int .i64 ((0 : Nat) : Int), .int .i64 ((0 : Nat) : Int)]) TI32 rfl (show _ = Value.agg #[.int .i64 140, .int .i64 (k : Int)] from rfl) rfl rfl hCb2 (by simp) ?_)
    intro w39 hB39 ho39 hs39
    have h3 : RdM w39 70 b ta tc T (.er 140 k) := h2.put hf ho39 (a := a2) hB39 ⟨rfl, rfl, by decide⟩
    clear h2
    have h2 := h3
    clear h3
    replace hC4 := ho39.blk hC4 (by omega)
    replace hO := hO.trans ho39
    replace hCb2 := hB39
    refine WL.nil ?_
    refine W.seq ?_
    refine W.seq ?_
    refine W.region ?_
    refine WL.c rfl (o_mvh (by first | exact (show _ = Value.pointer _ from rfl) | exact rfl) ?_)
    refine WL.c rfl (o_nil rfl ?_)
    refine WL.c rfl (o_fa 2 TI70 rfl TI32 rfl rfl ?_)
    refine WL.c rfl (o_fa 0 TI32 rfl TI30 rfl rfl ?_)
    refine WL.c rfl (o_ld TI30 rfl rfl (cell_of hCb2 rfl) ?_)
    refine WL.c rfl (o_ne rfl rfl ?_)
    refine WL.nil ?_
    refine W.condT' rfl (rfl) ?_
    refine W.seq ?_
    refine W.region ?_
    refine WL.c rfl (o_bldC (cs := [(.int .i64 0), (.int .i64 0), (.int .i64 0), (.int .i64 0)]) TI28 (Sizes.cons TI3 (Sizes.cons TI3 (Sizes.cons TI3 (Sizes.cons TI3 Sizes.nil)))) rfl lnp rfl rfl ?_)
    refine WL.u (o_stA TI28 rfl (show _ = Value.agg (insV in0).toArray from rfl) rfl rfl (by assumption) rfl ?_)
    intro w4b hB4 ho4 hs4
    replace h2 := h2.new ho4 (by omega) htl hb4g
    replace hO := hO.trans' ho4 (fun _ h => h) (fun q hq he => by omega)
    refine WL.nil ?_
    refine W.ret ?_
    refine retC rfl TI28 rfl rfl (cells_all (by assumption)) rfl ?_
    refine ⟨in0, rfl, ?_, fun hg => ?_, hO⟩
    · rw [hI]; exact h2
    · rw [hI] at hg; cases hg
  · skip
    obtain ⟨a2, e2, q2, hCb2, ha2, he2, hq2, hkl2⟩ := h2.cell
    subst he2
    have hF2 := hF.trans (fmP_some hfm)
    clear hF
    subst hF2
    refine W.region ?_
    refine WL.c rfl (o_mvh (by first | exact (show _ = Value.pointer _ from rfl) | exact rfl) ?_)
    refine WL.c rfl (o_nil rfl ?_)
    refine WL.c rfl (o_fa 2 TI70 rfl TI32 rfl rfl ?_)
    refine WL.c rfl (o_fa 0 TI32 rfl TI30 rfl rfl ?_)
    refine WL.c rfl (o_ld TI30 rfl rfl (cell_of hCb2 rfl) ?_)
    refine WL.c rfl (o_eq rfl rfl ?_)
    refine WL.c rfl (o_mvh (show _ = Value.bool _ from rfl) ?_)
    refine WL.g rfl (by simp) rfl (o_mvh (show _ = Value.bool _ from rfl) ?_)
    refine WL.g rfl (by simp) rfl (o_not' rfl ?_)
    refine WL.c rfl (o_pickA rfl rfl ?_)
    refine WL.nil ?_
    refine W.condF' rfl (rfl) ?_
    refine W.skip ?_
    refine W.seq ?_
    refine W.seq ?_
    refine W.region ?_
    refine WL.c rfl (o_mvh (by first | exact (show _ = Value.pointer _ from rfl) | exact rfl) ?_)
    refine WL.c rfl (o_nil rfl ?_)
    refine WL.c rfl (o_fa 2 TI70 rfl TI32 rfl rfl ?_)
    refine WL.c rfl (o_fa 0 TI32 rfl TI30 rfl rfl ?_)
    refine WL.c rfl (o_ld TI30 rfl rfl (cell_of hCb2 rfl) ?_)
    refine WL.c rfl (o_ne rfl rfl ?_)
    refine WL.nil ?_
    refine W.condF' rfl (by simp) ?_
    refine W.skip ?_
    refine W.seq ?_
    refine W.seq ?_
    refine W.region ?_
    refine WL.c rfl (o_ldA TI61 rfl rfl (show Cells _ b7 0 [st nm, st [tl l0, tl l1, tl l2]] from Cells.of hC7 0 _ (by simp)) rfl ?_)
    refine WL.c rfl (o_call Tryd.call29 (lc rfl (lc rfl ln)) ((operands_spec b6 nm [tl l0, tl l1, tl l2] _ rfl).mono ?_))
    rintro v48 w48 ⟨hr48, hx48⟩
    rw [selI_tl] at hr48
    obtain ⟨S, hS⟩ : ∃ S, S = selI [l0, l1, l2] := ⟨_, rfl⟩
    have hSl := selK_le [l0, l1, l2] 3
    rw [← hS] at hr48 hI
    replace hSl : S.length ≤ 3 := by rw [hS]; exact hSl
    have hS3 : ∀ t ∈ S, t < 3 := fun t ht => selK_lt (hS ▸ ht)
    obtain ⟨B48, hB48⟩ : ∃ B, B = wb7.heap.size := ⟨_, rfl⟩
    rw [← hB48] at hr48
    replace h2 := h2.ext hx48
    replace hC4 := hx48.blk hC4 (fun h => h)
    replace hC6 := hx48.blk hC6 (fun h => h)
    replace hO := hO.ext hx48
    refine WL.c rfl (o_lenR TI64 rfl (Sl.own (show World.ownsRow _ _ _ _ _ (S.map (ptrJ b6)).length (S.map (ptrJ b6)) from by rw [List.length_map]; exact hr48)) ?_)
    refine WL.c rfl (o_mvh (show _ = Value.int _ _ from rfl) ?_)
    refine WL.nil ?_
    refine W.block ?_
    refine W.loop (fun e w => ∃ (j : Nat) (x : Ins) (s : Rs), j ≤ S.length ∧ e 0 = .pointer (some ⟨b, 0, none⟩) ∧ e 4 = .pointer (some ⟨b4, 0, none⟩) ∧ e 6 = .pointer (some ⟨b6, 0, none⟩) ∧ e 48 = v48 ∧ e 49 = .int .i64 (S.length : Int) ∧ e 50 = .int .i64 (j : Int) ∧ foldO T (S.take j) n1 (.ok k1) = (x, s) ∧ RdM w 70 b ta tc T s ∧ w.ownsRow B48 67 1 v48 S.length (S.map (ptrJ b6)) ∧ w.heap[b6]? = some (.cells (insV x).toArray 28 (0, 0)) ∧ w.heap[b4]? = some (.cells ([.int .i64 0, .int .i64 0, .int .i64 0, .int .i64 0]).toArray 28 (0, 0)) ∧ Only (fun j => j = b) w0 w) (fun e w => S.length - (intOf (e 50)).toNat) ?_ ?_
    · exact ⟨0, _, _, Nat.zero_le _, rfl, rfl, rfl, rfl, by first | rfl | (show Value.int _ _ = Value.int _ _; simp), rfl, rfl, h2, hr48, hC6, hC4, hO⟩
    rintro e w ⟨j, x, s, hj, h0, h4, h6, h48, h49, h50, hfo, h2, hr48, hC6, hC4, hO⟩
    have hm50 := h50
    refine W.seq ?_
    refine W.region ?_
    refine WL.c rfl (o_lt h50 h49 ?_)
    refine WL.nil ?_
    refine W.seq ?_
    refine W.cond rfl (fun c51 => ?_) (fun c51 => ?_)
    · try simp only [decide_eq_true_eq, decide_eq_false_iff_not, Bool.not_eq_true', Bool.not_eq_false', Bool.and_eq_true, Bool.or_eq_true, Bool.and_eq_false_iff, Bool.or_eq_false_iff] at c51
      have hj1 : j < S.length := by omega
      have ht3 := hS3 S[j] (List.getElem_mem _)
      refine W.skip ?_
      refine W.seq ?_
      refine W.block ?_
      refine W.seq ?_
      refine W.region ?_
      refine WL.c rfl (o_ix1 TI64 TI67 h48 h50 (Sl.own hr48) (by omega) ?_)
      intro b52 o52 hc52 hb52
      refine WL.c rfl (o_ld TI67 rfl rfl (show _ = some (ptrJ b6 S[j]) from hc52.trans (by simp [hj1])) ?_)
      refine WL.c rfl (o_ash (by first | exact (show _ = Value.pointer _ from rfl) | exact rfl) ?_)
      refine WL.nil ?_
      refine W.region ?_
      refine WL.c rfl (o_mvh (by first | exact (show _ = Value.pointer _ from rfl) | exact rfl) ?_)
      refine WL.c rfl (o_mvh h0 ?_)
      refine WL.c rfl (o_call Tryd.call30 (lc rfl (lc rfl (lc rfl ln))) ((number_spec b ta tc T s 2147483648 3 _ h2 hf hT (by decide)).mono ?_))
      rintro v56 w56 ⟨rfl, h3, ho56⟩
      have hle2 := numS_le T s 2147483648 3
      obtain ⟨a0_, e0_, q0_, hCbq, -⟩ := h2.cell
      rw [wr_eq (by omega)]
      clear h2
      have h2 := h3
      clear h3
      replace hr48 := own_only hr48 ho56 (fun q hq he => by subst he; exact own_off hr48 hCbq (by decide) hq)
      replace hC6 := ho56.blk hC6 (by omega)
      replace hC4 := ho56.blk hC4 (by omega)
      replace hO := hO.trans ho56
      refine WL.c rfl (o_subi rfl rfl (by omega) ?_)
      refine WL.c rfl (o_nil (show _ = Value.pointer (some ⟨b6, 1 + S[j], none⟩) from rfl) ?_)
      refine WL.u (o_stB TI3 rfl (show _ = Value.int .i64 (((numS T s 2147483648 3).1 : Int) - 1) from rfl) rfl hC6 (by simp [insV]; omega) ?_)
      intro w58 hB58 ho58 hs58
      rw [insV_set ht3] at hB58
      have hbq := h2.lt
      replace h2 := h2.new ho58 (by omega) htl (by omega)
      replace hr48 := own_only hr48 ho58 (fun q hq he => by subst he; exact own_off hr48 hC6 (by decide) hq)
      replace hC4 := ho58.blk hC4 (by omega)
      replace hO := hO.trans' ho58 (fun _ h => h) (fun q hq he => by omega)
      clear hC6
      have hC6 := hB58
      refine WL.nil ?_
      refine W.region ?_
      refine WL.c rfl (o_addi h50 rfl (by omega) ?_)
      refine WL.c rfl (o_mvh (show _ = Value.int _ _ from rfl) ?_)
      refine WL.nil ?_
      refine ⟨⟨j + 1, _, _, by omega, h0, h4, h6, h48, h49, rfl, by rw [fold_step T hj1, hfo]; rfl, h2, hr48, hC6, hC4, hO⟩, ?_⟩
      show S.length - ((j : Int) + 1).toNat < _
      rw [hm50]; simp [intOf]; omega
    · try simp only [decide_eq_true_eq, decide_eq_false_iff_not, Bool.not_eq_true', Bool.not_eq_false', Bool.and_eq_true, Bool.or_eq_true, Bool.and_eq_false_iff, Bool.or_eq_false_iff] at c51
      obtain rfl : j = S.length := by omega
      rw [List.take_length] at hfo
      refine W.exit ?_
      refine W.seq ?_
      refine W.region ?_
      refine WL.c rfl (o_ldA TI28 rfl h6 (show Cells _ b6 0 (insV x) from Cells.of hC6 0 _ (by simp)) rfl ?_)
      refine WL.u (o_stA TI28 h4 (show _ = Value.agg (insV x).toArray from rfl) rfl rfl (by assumption) rfl ?_)
      intro w4b hB4 ho4 hs4
      replace h2 := h2.new ho4 (by omega) htl hb4g
      replace hO := hO.trans' ho4 (fun _ h => h) (fun q hq he => by omega)
      refine WL.nil ?_
      refine W.ret ?_
      refine retC rfl TI28 rfl h4 (cells_all (by assumption)) rfl ?_
      refine ⟨x, rfl, ?_, fun hg => ?_, hO⟩
      · rw [hI, hfo]; exact h2
      · rw [hI, hfo]
end Go.Proofs.YthlbhnefldaoiaaDoor
