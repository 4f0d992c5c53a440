/-
  Walks and lemmas. Written by program out of specs of mine.
-/
import Derived.WalkKit
import Derived.WalkSpells
import Derived.WalkLawsBesides
import Derived.Deep.Quiet
import Derived.StillTail
import Derived.StringKeys
import Derived.Laws.StructEq
import Derived.Laws.Externs
import Derived.Laws.Tables
import Derived.Scope
import Derived.Laws.AppendOwn
import Derived.Maps.AppendAt
import Derived.Recover
import Derived.Test.YtgmjfcekeglhjaaDoorProg
import Derived.Maps.OwnSet
import Derived.Shelf.Strconv.Itoa0
import Derived.Shelf.Strconv.Itoa1
import Derived.Shelf.LaysM
import Derived.Shelf.Strconv.Itoa2
import Derived.Lib.ItoaMem
import Derived.Lib.ItoaLen
import Derived.DeepKeys3
import Derived.SizedLaws
import Derived.ChangeArms
import Derived.ChangeSlices
import Derived.Lib.ConvBytes
import Derived.Test.YtgmjfcekeglhjaaDoorRows
import Derived.ProofKit
import Derived.OpenShut
import Derived.ShutString
import Derived.ChangeOld
import Derived.Below
import Derived.JoinedCond
import Derived.SliceStrings
import Derived.Test.YtgmjfcekeglhjaaDoorCards
import Derived.Test.YtgmjfcekeglhjaaDoorTie
import Derived.Deep.DeepHandedRow
import Derived.Lib.LaidTab
import Derived.Test.YtgmjfcekeglhjaaDoorKe4
set_option linter.unusedSimpArgs false
set_option linter.unusedVariables false
set_option maxRecDepth 100000
set_option linter.unusedSimpArgs false
set_option linter.unusedVariables false
set_option maxRecDepth 100000
namespace Go.Proofs.YtgmjfcekeglhjaaDoor
open Go Go.Vc Go.RowKit Go.Proofs

structure RdR (w : World) (B g : Nat) (T : List UInt8) (j : Nat) (nv : Value) (N : List Nd) (bad : Bool) : Prop where
  cell : w.heap[g]? = some (.cells #[st T, .int .i64 (j : Int), nv, .bool bad] 134 (0, 0))
  nod : w.ownsRow B 69 3 nv N.length (nds N)
  hb : B ≤ g
theorem RdR.offn {w : World} {B g j : Nat} {T : List UInt8} {nv : Value} {N : List Nd} {bad : Bool} (h : RdR w B g T j nv N bad) : ¬ nv.ownBlock = some g := own_off h.nod h.cell (by decide)
theorem RdR.ext {w w' : World} {B g j : Nat} {T : List UInt8} {nv : Value} {N : List Nd} {bad : Bool} (h : RdR w B g T j nv N bad) (ho : Ext w w') : RdR w' B g T j nv N bad := ⟨ho.blk h.cell (fun h => h), own_ext h.nod ho, h.hb⟩
theorem RdR.move {w w' : World} {B g j j2 : Nat} {T : List UInt8} {nv : Value} {N : List Nd} {bad bad2 : Bool} (h : RdR w B g T j nv N bad) (hc : w'.heap[g]? = some (.cells #[st T, .int .i64 (j2 : Int), nv, .bool bad2] 134 (0, 0))) (ho : Only (fun k => k = g) w w') : RdR w' B g T j2 nv N bad2 :=
  ⟨hc, own_only h.nod ho (fun k hk he => by subst he; exact h.offn hk), h.hb⟩
theorem RdR.sz {w : World} {B g j : Nat} {T : List UInt8} {nv : Value} {N : List Nd} {bad : Bool} (h : RdR w B g T j nv N bad) : B ≤ w.heap.size := by
  have := (Array.getElem?_eq_some_iff.1 h.cell).1
  have := h.hb
  omega
/-- where a number stops, and what it has come to -/
def numR (m : Nat) : Nat → Nat → List UInt8 → Nat × Nat
  | n, k, [] => (n, k)
  | n, k, c :: l => if isD c = true then (if (0 < k ∧ n = 0) ∨ (m - dg c) / 10 < n then (n, k) else numR m (10 * n + dg c) (k + 1) l) else (n, k)
theorem numR_le (m : Nat) : ∀ (l : List UInt8) (n k : Nat), k ≤ (numR m n k l).2 ∧ (numR m n k l).2 ≤ k + l.length
  | [], n, k => ⟨Nat.le_refl _, Nat.le_refl _⟩
  | c :: l, n, k => by
    have := numR_le m l (10 * n + dg c) (k + 1)
    rw [numR, List.length_cons]
    split
    · split
      · exact ⟨Nat.le_refl _, by show k ≤ _; omega⟩
      · omega
    · exact ⟨Nat.le_refl _, by show k ≤ _; omega⟩
theorem numR_cases (m : Nat) {T : List UInt8} {j n k : Nat} (hj : j + k ≤ T.length) :
    (T.length ≤ j + k ∧ numR m n k (T.drop (j + k)) = (n, k)) ∨ (∃ h : j + k < T.length, T[j + k].toNat < 48 ∧ numR m n k (T.drop (j + k)) = (n, k)) ∨
    (∃ h : j + k < T.length, 48 ≤ T[j + k].toNat ∧ 57 < T[j + k].toNat ∧ numR m n k (T.drop (j + k)) = (n, k)) ∨
    ∃ h : j + k < T.length, 48 ≤ T[j + k].toNat ∧ T[j + k].toNat ≤ 57 ∧ dg T[j + k] < 10 ∧ numR m n k (T.drop (j + k)) = if (0 < k ∧ n = 0) ∨ (m - dg T[j + k]) / 10 < n then (n, k) else numR m (10 * n + dg T[j + k]) (k + 1) (T.drop (j + (k + 1))) := by
  by_cases h : j + k < T.length
  · rw [← List.getElem_cons_drop h, numR]
    by_cases h1 : T[j + k].toNat < 48
    · exact .inr (.inl ⟨h, h1, by rw [if_neg (by simp [isD]; omega)]⟩)
    by_cases h2 : 57 < T[j + k].toNat
    · exact .inr (.inr (.inl ⟨h, by omega, h2, by rw [if_neg (by simp [isD]; omega)]⟩))
    · have hd : isD T[j + k] = true := by simp [isD]; omega
      exact .inr (.inr (.inr ⟨h, by omega, by omega, (isD_lt hd).1, by rw [if_pos hd]; rfl⟩))
  · refine .inl ⟨by omega, ?_⟩
    rw [List.drop_eq_nil_of_le (by omega), numR]

set_option maxHeartbeats 2000000 in
theorem rword_spec (B g : Nat) (T : List UInt8) (j : Nat) (nv : Value) (N : List Nd) (ws : List UInt8) (w0 : World) (h : RdR w0 B g T j nv N false) (hj : j ≤ T.length) (hT : T.length ≤ 1048576) (hW : ws.length ≤ 1000) : Ca Tryd.prog 71 #[.pointer (some ⟨g, 0, none⟩), st ws] w0 (fun _ w' => RdR w' B g T (j + (wordC ws (T.drop j)).1) nv N (!(wordC ws (T.drop j)).2) ∧ Only (fun k => k = g) w0 w') := by
  have ho : Only (fun k => k = g) w0 w0 := Only.refl _ _
  refine Ca.of Tryd.func71 Tryd.ntmps71 rfl rfl ?_
  refine W.seq ?_
  refine W.region ?_
  refine WL.c rfl (o_ash (show _ = Value.int _ _ from rfl) ?_)
  refine WL.nil ?_
  refine W.block ?_
  refine W.loop (fun e w => ∃ i : Nat, i ≤ ws.length ∧ e 0 = .pointer (some ⟨g, 0, none⟩) ∧ e 1 = st ws ∧ e 4 = .int .i64 (i : Int) ∧ RdR w B g T (j + i) nv N false ∧ j + i ≤ T.length ∧ wordC ws (T.drop j) = (i + (wordC (ws.drop i) (T.drop (j + i))).1, (wordC (ws.drop i) (T.drop (j + i))).2) ∧ Only (fun k => k = g) w0 w) (fun e w => ws.length - (intOf (e 4)).toNat) ?_ ?_
  · exact ⟨0, Nat.zero_le _, rfl, rfl, rfl, h, hj, by simp, ho⟩
  rintro e w ⟨i, hi, h0, h1, h4, h, hji, hwc, ho⟩
  have hm4 := h4
  refine W.seq ?_
  refine W.seq ?_
  refine W.region ?_
  refine WL.c rfl (o_mvh h4 ?_)
  refine WL.c rfl (o_mvh h1 ?_)
  refine WL.c rfl (o_lenT TI9 rfl ?_)
  refine WL.c rfl (o_lt rfl rfl ?_)
  refine WL.c rfl (o_mvh (show _ = Value.bool _ from rfl) ?_)
  refine WL.sp 4 rfl (fun g9 => ?_) (fun g9 => ?_)
  · skip
    refine WL.g rfl (g9) rfl (o_mvh h0 ?_)
    refine WL.g rfl (g9) rfl (o_nil rfl ?_)
    refine WL.g rfl (g9) rfl (o_fa 3 TI134 rfl TI4 rfl rfl ?_)
    refine WL.g rfl (g9) rfl (o_ld TI4 rfl rfl (cell_of h.cell rfl) ?_)
    refine WL.g rfl (g9) rfl (o_not' rfl ?_)
    refine WL.c rfl (o_pickA rfl rfl ?_)
    refine WL.nil ?_
    refine W.cond rfl (fun c15 => ?_) (fun c15 => ?_)
    · try simp only [decide_eq_true_eq, decide_eq_false_iff_not, Bool.not_eq_true', Bool.not_eq_false', Bool.and_eq_true, Bool.or_eq_true, Bool.and_eq_false_iff, Bool.or_eq_false_iff] at c15
      have hi1 : i < ws.length := by first | omega | simp_all
      refine W.skip ?_
      refine W.seq ?_
      refine W.block ?_
      refine W.seq ?_
      refine W.seq ?_
      rcases word_cases hi1 hji with ⟨hA, hw2⟩ | ⟨hA, hne, hw2⟩ | ⟨hA, heq, hw2⟩
      · skip
        refine W.quiet rfl (by kernel_rfl) ?_
        refine WQ.c rfl ((QO.o rfl fun _ => o_mvh h0 ⟨rfl, rfl⟩)) ?_
        refine WQ.c rfl ((QO.r fun _ => r_nil rfl)) ?_
        refine WQ.c rfl ((QO.o rfl fun _ => o_fa 1 TI134 rfl TI3 rfl rfl ⟨rfl, rfl⟩)) ?_
        refine WQ.c rfl ((QO.o rfl fun _ => o_ld TI3 rfl rfl (cell_of h.cell rfl) ⟨rfl, rfl⟩)) ?_
        refine WQ.c rfl ((QO.o rfl fun _ => o_mvh h0 ⟨rfl, rfl⟩)) ?_
        refine WQ.c rfl ((QO.r fun _ => r_nil rfl)) ?_
        refine WQ.c rfl ((QO.o rfl fun _ => o_fa 0 TI134 rfl TI9 rfl rfl ⟨rfl, rfl⟩)) ?_
        refine WQ.c rfl ((QO.o rfl fun _ => o_ld TI9 rfl rfl (cell_of h.cell rfl) ⟨rfl, rfl⟩)) ?_
        refine WQ.c rfl ((QO.r fun _ => r_lenT TI9 rfl)) ?_
        refine WQ.c rfl ((QO.o rfl fun _ => o_ge rfl rfl ⟨rfl, rfl⟩)) ?_
        refine WQ.c rfl ((QO.o rfl fun _ => o_mvh (show _ = Value.bool _ from rfl) ⟨rfl, rfl⟩)) ?_
        refine WQ.s rfl (by simp; omega) rfl ?_
        refine WQ.s rfl (by simp; omega) rfl ?_
        refine WQ.s rfl (by simp; omega) rfl ?_
        refine WQ.s rfl (by simp; omega) rfl ?_
        refine WQ.s rfl (by simp; omega) rfl ?_
        refine WQ.s rfl (by simp; omega) rfl ?_
        refine WQ.s rfl (by simp; omega) rfl ?_
        refine WQ.s rfl (by simp; omega) rfl ?_
        refine WQ.s rfl (by simp; omega) rfl ?_
        refine WQ.s rfl (by simp; omega) rfl ?_
        refine WQ.s rfl (by simp; omega) rfl ?_
        refine WQ.s rfl (by simp; omega) rfl ?_
        refine WQ.s rfl (by simp; omega) rfl ?_
        refine WQ.c rfl ((QO.r fun _ => r_pickT rfl (by simp; omega))) ?_
        refine WQ.nil ?_
        intro nq
        have hq := Only.drewN w nq
        replace h := h.ext hq
        replace ho := ho.trans' hq (fun _ h => h) (fun _ _ h => h.elim)
        generalize World.drewN w nq = wq3 at *
        clear hq
        refine W.condT' rfl (rfl) ?_
        refine W.seq ?_
        refine W.region ?_
        refine WL.c rfl (o_mvh h0 ?_)
        refine WL.c rfl (o_nil rfl ?_)
        refine WL.c rfl (o_fa 3 TI134 rfl TI4 rfl rfl ?_)
        refine WL.u (o_stB TI4 rfl (show _ = Value.bool _ from rfl) rfl h.cell (show 3 < 4 by decide) ?_)
        intro w45 hB45 ho45 hs45
        replace h := h.move (j2 := j + i) (bad2 := true) hB45 ho45
        replace ho := ho.trans' ho45 (fun _ h => h) (fun _ _ h => h)
        clear hB45 ho45 hs45
        refine WL.nil ?_
        refine W.ret ?_
        refine ret0 rfl ?_
        exact ⟨by rw [hwc, hw2]; exact h, ho⟩
      · skip
        refine W.quiet rfl (by kernel_rfl) ?_
        refine WQ.c rfl ((QO.o rfl fun _ => o_mvh h0 ⟨rfl, rfl⟩)) ?_
        refine WQ.c rfl ((QO.r fun _ => r_nil rfl)) ?_
        refine WQ.c rfl ((QO.o rfl fun _ => o_fa 1 TI134 rfl TI3 rfl rfl ⟨rfl, rfl⟩)) ?_
        refine WQ.c rfl ((QO.o rfl fun _ => o_ld TI3 rfl rfl (cell_of h.cell rfl) ⟨rfl, rfl⟩)) ?_
        refine WQ.c rfl ((QO.o rfl fun _ => o_mvh h0 ⟨rfl, rfl⟩)) ?_
        refine WQ.c rfl ((QO.r fun _ => r_nil rfl)) ?_
        refine WQ.c rfl ((QO.o rfl fun _ => o_fa 0 TI134 rfl TI9 rfl rfl ⟨rfl, rfl⟩)) ?_
        refine WQ.c rfl ((QO.o rfl fun _ => o_ld TI9 rfl rfl (cell_of h.cell rfl) ⟨rfl, rfl⟩)) ?_
        refine WQ.c rfl ((QO.r fun _ => r_lenT TI9 rfl)) ?_
        refine WQ.c rfl ((QO.o rfl fun _ => o_ge rfl rfl ⟨rfl, rfl⟩)) ?_
        refine WQ.c rfl ((QO.o rfl fun _ => o_mvh (show _ = Value.bool _ from rfl) ⟨rfl, rfl⟩)) ?_
        refine WQ.g rfl (by simp; omega) rfl ((QO.o rfl fun _ => o_mvh h0 ⟨rfl, rfl⟩)) ?_
        refine WQ.g rfl (by simp; omega) rfl ((QO.r fun _ => r_nil rfl)) ?_
        refine WQ.g rfl (by simp; omega) rfl ((QO.o rfl fun _ => o_fa 0 TI134 rfl TI9 rfl rfl ⟨rfl, rfl⟩)) ?_
        refine WQ.g rfl (by simp; omega) rfl ((QO.o rfl fun _ => o_ld TI9 rfl rfl (cell_of h.cell rfl) ⟨rfl, rfl⟩)) ?_
        refine WQ.g rfl (by simp; omega) rfl ((QO.o rfl fun _ => o_mvh h0 ⟨rfl, rfl⟩)) ?_
        refine WQ.g rfl (by simp; omega) rfl ((QO.r fun _ => r_nil rfl)) ?_
        refine WQ.g rfl (by simp; omega) rfl ((QO.o rfl fun _ => o_fa 1 TI134 rfl TI3 rfl rfl ⟨rfl, rfl⟩)) ?_
        refine WQ.g rfl (by simp; omega) rfl ((QO.o rfl fun _ => o_ld TI3 rfl rfl (cell_of h.cell rfl) ⟨rfl, rfl⟩)) ?_
        refine WQ.g rfl (by simp; omega) rfl ((QO.o rfl fun _ => o_idT TI9 rfl rfl (by omega) ⟨rfl, rfl⟩)) ?_
        refine WQ.g rfl (by simp; omega) rfl ((QO.o rfl fun _ => o_mvh h1 ⟨rfl, rfl⟩)) ?_
        refine WQ.g rfl (by simp; omega) rfl ((QO.o rfl fun _ => o_mvh h4 ⟨rfl, rfl⟩)) ?_
        refine WQ.g rfl (by simp; omega) rfl ((QO.o rfl fun _ => o_idT TI9 rfl rfl (by omega) ⟨rfl, rfl⟩)) ?_
        refine WQ.g rfl (by simp; omega) rfl ((QO.o rfl fun _ => o_ne rfl rfl ⟨rfl, rfl⟩)) ?_
        refine WQ.c rfl ((QO.r fun _ => r_pickO rfl rfl)) ?_
        refine WQ.nil ?_
        intro nq
        have hq := Only.drewN w nq
        replace h := h.ext hq
        replace ho := ho.trans' hq (fun _ h => h) (fun _ _ h => h.elim)
        generalize World.drewN w nq = wq3 at *
        clear hq
        refine W.condT' rfl (by simp; exact .inr (fun he => hne (UInt8.toNat_inj.1 (by omega)))) ?_
        refine W.seq ?_
        refine W.region ?_
        refine WL.c rfl (o_mvh h0 ?_)
        refine WL.c rfl (o_nil rfl ?_)
        refine WL.c rfl (o_fa 3 TI134 rfl TI4 rfl rfl ?_)
        refine WL.u (o_stB TI4 rfl (show _ = Value.bool _ from rfl) rfl h.cell (show 3 < 4 by decide) ?_)
        intro w45 hB45 ho45 hs45
        replace h := h.move (j2 := j + i) (bad2 := true) hB45 ho45
        replace ho := ho.trans' ho45 (fun _ h => h) (fun _ _ h => h)
        clear hB45 ho45 hs45
        refine WL.nil ?_
        refine W.ret ?_
        refine ret0 rfl ?_
        exact ⟨by rw [hwc, hw2]; exact h, ho⟩
      · skip
        refine W.quiet rfl (by kernel_rfl) ?_
        refine WQ.c rfl ((QO.o rfl fun _ => o_mvh h0 ⟨rfl, rfl⟩)) ?_
        refine WQ.c rfl ((QO.r fun _ => r_nil rfl)) ?_
        refine WQ.c rfl ((QO.o rfl fun _ => o_fa 1 TI134 rfl TI3 rfl rfl ⟨rfl, rfl⟩)) ?_
        refine WQ.c rfl ((QO.o rfl fun _ => o_ld TI3 rfl rfl (cell_of h.cell rfl) ⟨rfl, rfl⟩)) ?_
        refine WQ.c rfl ((QO.o rfl fun _ => o_mvh h0 ⟨rfl, rfl⟩)) ?_
        refine WQ.c rfl ((QO.r fun _ => r_nil rfl)) ?_
        refine WQ.c rfl ((QO.o rfl fun _ => o_fa 0 TI134 rfl TI9 rfl rfl ⟨rfl, rfl⟩)) ?_
        refine WQ.c rfl ((QO.o rfl fun _ => o_ld TI9 rfl rfl (cell_of h.cell rfl) ⟨rfl, rfl⟩)) ?_
        refine WQ.c rfl ((QO.r fun _ => r_lenT TI9 rfl)) ?_
        refine WQ.c rfl ((QO.o rfl fun _ => o_ge rfl rfl ⟨rfl, rfl⟩)) ?_
        refine WQ.c rfl ((QO.o rfl fun _ => o_mvh (show _ = Value.bool _ from rfl) ⟨rfl, rfl⟩)) ?_
        refine WQ.g rfl (by simp; omega) rfl ((QO.o rfl fun _ => o_mvh h0 ⟨rfl, rfl⟩)) ?_
        refine WQ.g rfl (by simp; omega) rfl ((QO.r fun _ => r_nil rfl)) ?_
        refine WQ.g rfl (by simp; omega) rfl ((QO.o rfl fun _ => o_fa 0 TI134 rfl TI9 rfl rfl ⟨rfl, rfl⟩)) ?_
        refine WQ.g rfl (by simp; omega) rfl ((QO.o rfl fun _ => o_ld TI9 rfl rfl (cell_of h.cell rfl) ⟨rfl, rfl⟩)) ?_
        refine WQ.g rfl (by simp; omega) rfl ((QO.o rfl fun _ => o_mvh h0 ⟨rfl, rfl⟩)) ?_
        refine WQ.g rfl (by simp; omega) rfl ((QO.r fun _ => r_nil rfl)) ?_
        refine WQ.g rfl (by simp; omega) rfl ((QO.o rfl fun _ => o_fa 1 TI134 rfl TI3 rfl rfl ⟨rfl, rfl⟩)) ?_
        refine WQ.g rfl (by simp; omega) rfl ((QO.o rfl fun _ => o_ld TI3 rfl rfl (cell_of h.cell rfl) ⟨rfl, rfl⟩)) ?_
        refine WQ.g rfl (by simp; omega) rfl ((QO.o rfl fun _ => o_idT TI9 rfl rfl (by omega) ⟨rfl, rfl⟩)) ?_
        refine WQ.g rfl (by simp; omega) rfl ((QO.o rfl fun _ => o_mvh h1 ⟨rfl, rfl⟩)) ?_
        refine WQ.g rfl (by simp; omega) rfl ((QO.o rfl fun _ => o_mvh h4 ⟨rfl, rfl⟩)) ?_
        refine WQ.g rfl (by simp; omega) rfl ((QO.o rfl fun _ => o_idT TI9 rfl rfl (by omega) ⟨rfl, rfl⟩)) ?_
        refine WQ.g rfl (by simp; omega) rfl ((QO.o rfl fun _ => o_ne rfl rfl ⟨rfl, rfl⟩)) ?_
        refine WQ.c rfl ((QO.r fun _ => r_pickO rfl rfl)) ?_
        refine WQ.nil ?_
        intro nq
        have hq := Only.drewN w nq
        replace h := h.ext hq
        replace ho := ho.trans' hq (fun _ h => h) (fun _ _ h => h.elim)
        generalize World.drewN w nq = wq3 at *
        clear hq
        refine W.condF' rfl (by simp; exact ⟨by omega, by rw [heq]⟩) ?_
        refine W.skip ?_
        refine W.region ?_
        refine WL.c rfl (o_mvh h0 ?_)
        refine WL.c rfl (o_nil rfl ?_)
        refine WL.c rfl (o_fa 1 TI134 rfl TI3 rfl rfl ?_)
        refine WL.c rfl (o_ld TI3 rfl rfl (cell_of h.cell rfl) ?_)
        refine WL.c rfl (o_addi rfl rfl (by omega) ?_)
        refine WL.c rfl (o_nil rfl ?_)
        refine WL.c rfl (o_fa 1 TI134 rfl TI3 rfl rfl ?_)
        refine WL.u (o_stB TI3 rfl (show _ = Value.int _ _ from rfl) rfl h.cell (show 1 < 4 by decide) ?_)
        intro w52 hB52 ho52 hs52
        replace h := h.move (j2 := j + (i + 1)) (bad2 := false) hB52 ho52
        replace ho := ho.trans' ho52 (fun _ h => h) (fun _ _ h => h)
        clear hB52 ho52 hs52
        refine WL.nil ?_
        refine W.region ?_
        refine WL.c rfl (o_mvh h4 ?_)
        refine WL.c rfl (o_addi rfl rfl (by omega) ?_)
        refine WL.c rfl (o_ash (show _ = Value.int _ _ from rfl) ?_)
        refine WL.nil ?_
        refine ⟨⟨i + 1, by omega, h0, h1, rfl, h, by omega, ?_, ho⟩, ?_⟩
        · rw [hwc, hw2]; simp only [Prod.mk.injEq]; exact ⟨by omega, trivial⟩
        · show ws.length - ((i : Int) + 1).toNat < _
          rw [hm4]; simp [intOf]; omega
    · try simp only [decide_eq_true_eq, decide_eq_false_iff_not, Bool.not_eq_true', Bool.not_eq_false', Bool.and_eq_true, Bool.or_eq_true, Bool.and_eq_false_iff, Bool.or_eq_false_iff] at c15
      have hi1 : i = ws.length := by first | omega | (simp_all; done) | (simp_all; omega)
      refine W.exit ?_
      refine ret0 rfl ?_
      first
        | exact ⟨by rw [hwc, hw2]; exact h, ho⟩
        | exact ⟨by rw [hwc, hi1, List.drop_length]; rw [hi1] at h; exact h, ho⟩
  · skip
    refine WL.s rfl (g9) rfl ?_
    refine WL.s rfl (g9) rfl ?_
    refine WL.s rfl (g9) rfl ?_
    refine WL.s rfl (g9) rfl ?_
    refine WL.s rfl (g9) rfl ?_
    refine WL.c rfl (o_pickF rfl (g9) ?_)
    refine WL.nil ?_
    refine W.cond rfl (fun c15 => ?_) (fun c15 => ?_)
    · try simp only [decide_eq_true_eq, decide_eq_false_iff_not, Bool.not_eq_true', Bool.not_eq_false', Bool.and_eq_true, Bool.or_eq_true, Bool.and_eq_false_iff, Bool.or_eq_false_iff] at c15
      have hi1 : i < ws.length := by first | omega | simp_all
      refine W.skip ?_
      refine W.seq ?_
      refine W.block ?_
      refine W.seq ?_
      refine W.seq ?_
      rcases word_cases hi1 hji with ⟨hA, hw2⟩ | ⟨hA, hne, hw2⟩ | ⟨hA, heq, hw2⟩
      · skip
        refine W.quiet rfl (by kernel_rfl) ?_
        refine WQ.c rfl ((QO.o rfl fun _ => o_mvh h0 ⟨rfl, rfl⟩)) ?_
        refine WQ.c rfl ((QO.r fun _ => r_nil rfl)) ?_
        refine WQ.c rfl ((QO.o rfl fun _ => o_fa 1 TI134 rfl TI3 rfl rfl ⟨rfl, rfl⟩)) ?_
        refine WQ.c rfl ((QO.o rfl fun _ => o_ld TI3 rfl rfl (cell_of h.cell rfl) ⟨rfl, rfl⟩)) ?_
        refine WQ.c rfl ((QO.o rfl fun _ => o_mvh h0 ⟨rfl, rfl⟩)) ?_
        refine WQ.c rfl ((QO.r fun _ => r_nil rfl)) ?_
        refine WQ.c rfl ((QO.o rfl fun _ => o_fa 0 TI134 rfl TI9 rfl rfl ⟨rfl, rfl⟩)) ?_
        refine WQ.c rfl ((QO.o rfl fun _ => o_ld TI9 rfl rfl (cell_of h.cell rfl) ⟨rfl, rfl⟩)) ?_
        refine WQ.c rfl ((QO.r fun _ => r_lenT TI9 rfl)) ?_
        refine WQ.c rfl ((QO.o rfl fun _ => o_ge rfl rfl ⟨rfl, rfl⟩)) ?_
        refine WQ.c rfl ((QO.o rfl fun _ => o_mvh (show _ = Value.bool _ from rfl) ⟨rfl, rfl⟩)) ?_
        refine WQ.s rfl (by simp; omega) rfl ?_
        refine WQ.s rfl (by simp; omega) rfl ?_
        refine WQ.s rfl (by simp; omega) rfl ?_
        refine WQ.s rfl (by simp; omega) rfl ?_
        refine WQ.s rfl (by simp; omega) rfl ?_
        refine WQ.s rfl (by simp; omega) rfl ?_
        refine WQ.s rfl (by simp; omega) rfl ?_
        refine WQ.s rfl (by simp; omega) rfl ?_
        refine WQ.s rfl (by simp; omega) rfl ?_
        refine WQ.s rfl (by simp; omega) rfl ?_
        refine WQ.s rfl (by simp; omega) rfl ?_
        refine WQ.s rfl (by simp; omega) rfl ?_
        refine WQ.s rfl (by simp; omega) rfl ?_
        refine WQ.c rfl ((QO.r fun _ => r_pickT rfl (by simp; omega))) ?_
        refine WQ.nil ?_
        intro nq
        have hq := Only.drewN w nq
        replace h := h.ext hq
        replace ho := ho.trans' hq (fun _ h => h) (fun _ _ h => h.elim)
        generalize World.drewN w nq = wq3 at *
        clear hq
        refine W.condT' rfl (rfl) ?_
        refine W.seq ?_
        refine W.region ?_
        refine WL.c rfl (o_mvh h0 ?_)
        refine WL.c rfl (o_nil rfl ?_)
        refine WL.c rfl (o_fa 3 TI134 rfl TI4 rfl rfl ?_)
        refine WL.u (o_stB TI4 rfl (show _ = Value.bool _ from rfl) rfl h.cell (show 3 < 4 by decide) ?_)
        intro w45 hB45 ho45 hs45
        replace h := h.move (j2 := j + i) (bad2 := true) hB45 ho45
        replace ho := ho.trans' ho45 (fun _ h => h) (fun _ _ h => h)
        clear hB45 ho45 hs45
        refine WL.nil ?_
        refine W.ret ?_
        refine ret0 rfl ?_
        exact ⟨by rw [hwc, hw2]; exact h, ho⟩
      · skip
        refine W.quiet rfl (by kernel_rfl) ?_
        refine WQ.c rfl ((QO.o rfl fun _ => o_mvh h0 ⟨rfl, rfl⟩)) ?_
        refine WQ.c rfl ((QO.r fun _ => r_nil rfl)) ?_
        refine WQ.c rfl ((QO.o rfl fun _ => o_fa 1 TI134 rfl TI3 rfl rfl ⟨rfl, rfl⟩)) ?_
        refine WQ.c rfl ((QO.o rfl fun _ => o_ld TI3 rfl rfl (cell_of h.cell rfl) ⟨rfl, rfl⟩)) ?_
        refine WQ.c rfl ((QO.o rfl fun _ => o_mvh h0 ⟨rfl, rfl⟩)) ?_
        refine WQ.c rfl ((QO.r fun _ => r_nil rfl)) ?_
        refine WQ.c rfl ((QO.o rfl fun _ => o_fa 0 TI134 rfl TI9 rfl rfl ⟨rfl, rfl⟩)) ?_
        refine WQ.c rfl ((QO.o rfl fun _ => o_ld TI9 rfl rfl (cell_of h.cell rfl) ⟨rfl, rfl⟩)) ?_
        refine WQ.c rfl ((QO.r fun _ => r_lenT TI9 rfl)) ?_
        refine WQ.c rfl ((QO.o rfl fun _ => o_ge rfl rfl ⟨rfl, rfl⟩)) ?_
        refine WQ.c rfl ((QO.o rfl fun _ => o_mvh (show _ = Value.bool _ from rfl) ⟨rfl, rfl⟩)) ?_
        refine WQ.g rfl (by simp; omega) rfl ((QO.o rfl fun _ => o_mvh h0 ⟨rfl, rfl⟩)) ?_
        refine WQ.g rfl (by simp; omega) rfl ((QO.r fun _ => r_nil rfl)) ?_
        refine WQ.g rfl (by simp; omega) rfl ((QO.o rfl fun _ => o_fa 0 TI134 rfl TI9 rfl rfl ⟨rfl, rfl⟩)) ?_
        refine WQ.g rfl (by simp; omega) rfl ((QO.o rfl fun _ => o_ld TI9 rfl rfl (cell_of h.cell rfl) ⟨rfl, rfl⟩)) ?_
        refine WQ.g rfl (by simp; omega) rfl ((QO.o rfl fun _ => o_mvh h0 ⟨rfl, rfl⟩)) ?_
        refine WQ.g rfl (by simp; omega) rfl ((QO.r fun _ => r_nil rfl)) ?_
        refine WQ.g rfl (by simp; omega) rfl ((QO.o rfl fun _ => o_fa 1 TI134 rfl TI3 rfl rfl ⟨rfl, rfl⟩)) ?_
        refine WQ.g rfl (by simp; omega) rfl ((QO.o rfl fun _ => o_ld TI3 rfl rfl (cell_of h.cell rfl) ⟨rfl, rfl⟩)) ?_
        refine WQ.g rfl (by simp; omega) rfl ((QO.o rfl fun _ => o_idT TI9 rfl rfl (by omega) ⟨rfl, rfl⟩)) ?_
        refine WQ.g rfl (by simp; omega) rfl ((QO.o rfl fun _ => o_mvh h1 ⟨rfl, rfl⟩)) ?_
        refine WQ.g rfl (by simp; omega) rfl ((QO.o rfl fun _ => o_mvh h4 ⟨rfl, rfl⟩)) ?_
        refine WQ.g rfl (by simp; omega) rfl ((QO.o rfl fun _ => o_idT TI9 rfl rfl (by omega) ⟨rfl, rfl⟩)) ?_
        refine WQ.g rfl (by simp; omega) rfl ((QO.o rfl fun _ => o_ne rfl rfl ⟨rfl, rfl⟩)) ?_
        refine WQ.c rfl ((QO.r fun _ => r_pickO rfl rfl)) ?_
        refine WQ.nil ?_
        intro nq
        have hq := Only.drewN w nq
        replace h := h.ext hq
        replace ho := ho.trans' hq (fun _ h => h) (fun _ _ h => h.elim)
        generalize World.drewN w nq = wq3 at *
        clear hq
        refine W.condT' rfl (by simp; exact .inr (fun he => hne (UInt8.toNat_inj.1 (by omega)))) ?_
        refine W.seq ?_
        refine W.region ?_
        refine WL.c rfl (o_mvh h0 ?_)
        refine WL.c rfl (o_nil rfl ?_)
        refine WL.c rfl (o_fa 3 TI134 rfl TI4 rfl rfl ?_)
        refine WL.u (o_stB TI4 rfl (show _ = Value.bool _ from rfl) rfl h.cell (show 3 < 4 by decide) ?_)
        intro w45 hB45 ho45 hs45
        replace h := h.move (j2 := j + i) (bad2 := true) hB45 ho45
        replace ho := ho.trans' ho45 (fun _ h => h) (fun _ _ h => h)
        clear hB45 ho45 hs45
        refine WL.nil ?_
        refine W.ret ?_
        refine ret0 rfl ?_
        exact ⟨by rw [hwc, hw2]; exact h, ho⟩
      · skip
        refine W.quiet rfl (by kernel_rfl) ?_
        refine WQ.c rfl ((QO.o rfl fun _ => o_mvh h0 ⟨rfl, rfl⟩)) ?_
        refine WQ.c rfl ((QO.r fun _ => r_nil rfl)) ?_
        refine WQ.c rfl ((QO.o rfl fun _ => o_fa 1 TI134 rfl TI3 rfl rfl ⟨rfl, rfl⟩)) ?_
        refine WQ.c rfl ((QO.o rfl fun _ => o_ld TI3 rfl rfl (cell_of h.cell rfl) ⟨rfl, rfl⟩)) ?_
        refine WQ.c rfl ((QO.o rfl fun _ => o_mvh h0 ⟨rfl, rfl⟩)) ?_
        refine WQ.c rfl ((QO.r fun _ => r_nil rfl)) ?_
        refine WQ.c rfl ((QO.o rfl fun _ => o_fa 0 TI134 rfl TI9 rfl rfl ⟨rfl, rfl⟩)) ?_
        refine WQ.c rfl ((QO.o rfl fun _ => o_ld TI9 rfl rfl (cell_of h.cell rfl) ⟨rfl, rfl⟩)) ?_
        refine WQ.c rfl ((QO.r fun _ => r_lenT TI9 rfl)) ?_
        refine WQ.c rfl ((QO.o rfl fun _ => o_ge rfl rfl ⟨rfl, rfl⟩)) ?_
        refine WQ.c rfl ((QO.o rfl fun _ => o_mvh (show _ = Value.bool _ from rfl) ⟨rfl, rfl⟩)) ?_
        refine WQ.g rfl (by simp; omega) rfl ((QO.o rfl fun _ => o_mvh h0 ⟨rfl, rfl⟩)) ?_
        refine WQ.g rfl (by simp; omega) rfl ((QO.r fun _ => r_nil rfl)) ?_
        refine WQ.g rfl (by simp; omega) rfl ((QO.o rfl fun _ => o_fa 0 TI134 rfl TI9 rfl rfl ⟨rfl, rfl⟩)) ?_
        refine WQ.g rfl (by simp; omega) rfl ((QO.o rfl fun _ => o_ld TI9 rfl rfl (cell_of h.cell rfl) ⟨rfl, rfl⟩)) ?_
        refine WQ.g rfl (by simp; omega) rfl ((QO.o rfl fun _ => o_mvh h0 ⟨rfl, rfl⟩)) ?_
        refine WQ.g rfl (by simp; omega) rfl ((QO.r fun _ => r_nil rfl)) ?_
        refine WQ.g rfl (by simp; omega) rfl ((QO.o rfl fun _ => o_fa 1 TI134 rfl TI3 rfl rfl ⟨rfl, rfl⟩)) ?_
        refine WQ.g rfl (by simp; omega) rfl ((QO.o rfl fun _ => o_ld TI3 rfl rfl (cell_of h.cell rfl) ⟨rfl, rfl⟩)) ?_
        refine WQ.g rfl (by simp; omega) rfl ((QO.o rfl fun _ => o_idT TI9 rfl rfl (by omega) ⟨rfl, rfl⟩)) ?_
        refine WQ.g rfl (by simp; omega) rfl ((QO.o rfl fun _ => o_mvh h1 ⟨rfl, rfl⟩)) ?_
        refine WQ.g rfl (by simp; omega) rfl ((QO.o rfl fun _ => o_mvh h4 ⟨rfl, rfl⟩)) ?_
        refine WQ.g rfl (by simp; omega) rfl ((QO.o rfl fun _ => o_idT TI9 rfl rfl (by omega) ⟨rfl, rfl⟩)) ?_
        refine WQ.g rfl (by simp; omega) rfl ((QO.o rfl fun _ => o_ne rfl rfl ⟨rfl, rfl⟩)) ?_
        refine WQ.c rfl ((QO.r fun _ => r_pickO rfl rfl)) ?_
        refine WQ.nil ?_
        intro nq
        have hq := Only.drewN w nq
        replace h := h.ext hq
        replace ho := ho.trans' hq (fun _ h => h) (fun _ _ h => h.elim)
        generalize World.drewN w nq = wq3 at *
        clear hq
        refine W.condF' rfl (by simp; exact ⟨by omega, by rw [heq]⟩) ?_
        refine W.skip ?_
        refine W.region ?_
        refine WL.c rfl (o_mvh h0 ?_)
        refine WL.c rfl (o_nil rfl ?_)
        refine WL.c rfl (o_fa 1 TI134 rfl TI3 rfl rfl ?_)
        refine WL.c rfl (o_ld TI3 rfl rfl (cell_of h.cell rfl) ?_)
        refine WL.c rfl (o_addi rfl rfl (by omega) ?_)
        refine WL.c rfl (o_nil rfl ?_)
        refine WL.c rfl (o_fa 1 TI134 rfl TI3 rfl rfl ?_)
        refine WL.u (o_stB TI3 rfl (show _ = Value.int _ _ from rfl) rfl h.cell (show 1 < 4 by decide) ?_)
        intro w52 hB52 ho52 hs52
        replace h := h.move (j2 := j + (i + 1)) (bad2 := false) hB52 ho52
        replace ho := ho.trans' ho52 (fun _ h => h) (fun _ _ h => h)
        clear hB52 ho52 hs52
        refine WL.nil ?_
        refine W.region ?_
        refine WL.c rfl (o_mvh h4 ?_)
        refine WL.c rfl (o_addi rfl rfl (by omega) ?_)
        refine WL.c rfl (o_ash (show _ = Value.int _ _ from rfl) ?_)
        refine WL.nil ?_
        refine ⟨⟨i + 1, by omega, h0, h1, rfl, h, by omega, ?_, ho⟩, ?_⟩
        · rw [hwc, hw2]; simp only [Prod.mk.injEq]; exact ⟨by omega, trivial⟩
        · show ws.length - ((i : Int) + 1).toNat < _
          rw [hm4]; simp [intOf]; omega
    · try simp only [decide_eq_true_eq, decide_eq_false_iff_not, Bool.not_eq_true', Bool.not_eq_false', Bool.and_eq_true, Bool.or_eq_true, Bool.and_eq_false_iff, Bool.or_eq_false_iff] at c15
      have hi1 : i = ws.length := by first | omega | (simp_all; done) | (simp_all; omega)
      refine W.exit ?_
      refine ret0 rfl ?_
      first
        | exact ⟨by rw [hwc, hw2]; exact h, ho⟩
        | exact ⟨by rw [hwc, hi1, List.drop_length]; rw [hi1] at h; exact h, ho⟩
theorem rword_bad (B g : Nat) (T : List UInt8) (j : Nat) (nv : Value) (N : List Nd) (ws : List UInt8) (w0 : World) (h : RdR w0 B g T j nv N true) (hj : j ≤ T.length) (hT : T.length ≤ 1048576) (hW : ws.length ≤ 1000) : Ca Tryd.prog 71 #[.pointer (some ⟨g, 0, none⟩), st ws] w0 (fun _ w' => w' = w0) := by
  refine Ca.of Tryd.func71 Tryd.ntmps71 rfl rfl ?_
  refine W.seq ?_
  refine W.region ?_
  refine WL.c rfl (o_ash (show _ = Value.int _ _ from rfl) ?_)
  refine WL.nil ?_
  refine W.block ?_
  refine W.loop (fun e w => e 0 = .pointer (some ⟨g, 0, none⟩) ∧ e 1 = st ws ∧ e 4 = .int .i64 0 ∧ w = w0) (fun e w => 0) ?_ ?_
  · exact ⟨rfl, rfl, rfl, rfl⟩
  rintro e w ⟨h0, h1, h4, rfl⟩
  refine W.seq ?_
  refine W.seq ?_
  refine W.region ?_
  refine WL.c rfl (o_mvh h4 ?_)
  refine WL.c rfl (o_mvh h1 ?_)
  refine WL.c rfl (o_lenT TI9 rfl ?_)
  refine WL.c rfl (o_lt rfl rfl ?_)
  refine WL.c rfl (o_mvh (show _ = Value.bool _ from rfl) ?_)
  refine WL.sp 4 rfl (fun g9 => ?_) (fun g9 => ?_)
  · skip
    refine WL.g rfl (g9) rfl (o_mvh h0 ?_)
    refine WL.g rfl (g9) rfl (o_nil rfl ?_)
    refine WL.g rfl (g9) rfl (o_fa 3 TI134 rfl TI4 rfl rfl ?_)
    refine WL.g rfl (g9) rfl (o_ld TI4 rfl rfl (cell_of h.cell rfl) ?_)
    refine WL.g rfl (g9) rfl (o_not' rfl ?_)
    refine WL.c rfl (o_pickA rfl rfl ?_)
    refine WL.nil ?_
    refine W.condF' rfl (by first | rfl | simp) ?_
    refine W.exit ?_
    exact ret0 rfl rfl
  · skip
    refine WL.s rfl (g9) rfl ?_
    refine WL.s rfl (g9) rfl ?_
    refine WL.s rfl (g9) rfl ?_
    refine WL.s rfl (g9) rfl ?_
    refine WL.s rfl (g9) rfl ?_
    refine WL.c rfl (o_pickF rfl (g9) ?_)
    refine WL.nil ?_
    refine W.condF' rfl (by first | rfl | simp) ?_
    refine W.exit ?_
    exact ret0 rfl rfl
set_option maxHeartbeats 4000000 in
theorem rrnumber_spec (B g : Nat) (T : List UInt8) (j : Nat) (nv : Value) (N : List Nd) (m : Nat) (w0 : World) (h : RdR w0 B g T j nv N false) (hj : j ≤ T.length) (hT : T.length ≤ 1048576) (hm : 9 ≤ m) (hm2 : m < 18446744073709551616) : Ca Tryd.prog 70 #[.pointer (some ⟨g, 0, none⟩), .int .u64 (m : Int)] w0 (fun r w' => r = .int .u64 ((numR m 0 0 (T.drop j)).1 : Int) ∧ RdR w' B g T (j + (numR m 0 0 (T.drop j)).2) nv N (decide ((numR m 0 0 (T.drop j)).2 = 0)) ∧ Only (fun k => k = g) w0 w') := by
  have ho : Only (fun k => k = g) w0 w0 := Only.refl _ _
  refine Ca.of Tryd.func70 Tryd.ntmps70 rfl rfl ?_
  refine W.seq ?_
  refine W.region ?_
  refine WL.c rfl (o_ash (show _ = Value.int _ _ from rfl) ?_)
  refine WL.nil ?_
  refine W.seq ?_
  refine W.region ?_
  refine WL.c rfl (o_ash (show _ = Value.int _ _ from rfl) ?_)
  refine WL.nil ?_
  refine W.seq ?_
  refine W.region ?_
  refine WL.c rfl (o_mvh (by first | exact (show _ = Value.pointer _ from rfl) | exact rfl) ?_)
  refine WL.c rfl (o_nil rfl ?_)
  refine WL.c rfl (o_fa 1 TI134 rfl TI3 rfl rfl ?_)
  refine WL.c rfl (o_ld TI3 rfl rfl (cell_of h.cell rfl) ?_)
  refine WL.c rfl (o_ash (show _ = Value.int _ _ from rfl) ?_)
  refine WL.nil ?_
  refine W.seq ?_
  refine W.block ?_
  refine W.loopN (fun c e w => ∃ n k : Nat, c = T.length - k ∧ n ≤ m ∧ e 0 = .pointer (some ⟨g, 0, none⟩) ∧ e 1 = .int .u64 (m : Int) ∧ e 5 = .int .u64 (n : Int) ∧ e 6 = .int .i64 (j : Int) ∧ RdR w B g T (j + k) nv N false ∧ j + k ≤ T.length ∧ numR m 0 0 (T.drop j) = numR m n k (T.drop (j + k)) ∧ Only (fun k => k = g) w0 w) ?_ ?_
  · exact ⟨_, 0, 0, rfl, Nat.zero_le _, rfl, rfl, rfl, rfl, h, hj, rfl, ho⟩
  rintro c e w ⟨n, k, hc, hnm, h0, h1, h5, h6, h, hjk, hn, ho⟩
  refine W.seq ?_
  refine W.seq ?_
  rcases numR_cases m (n := n) hjk with ⟨hA, hnx⟩ | ⟨hA, hd1, hnx⟩ | ⟨hA, hd1, hd2, hnx⟩ | ⟨hA, hd1, hd2, hd3, hnx⟩
  · skip
    refine W.quiet rfl (by kernel_rfl) ?_
    refine WQ.c rfl ((QO.o rfl fun _ => o_mvh h0 ⟨rfl, rfl⟩)) ?_
    refine WQ.c rfl ((QO.r fun _ => r_nil rfl)) ?_
    refine WQ.c rfl ((QO.o rfl fun _ => o_fa 1 TI134 rfl TI3 rfl rfl ⟨rfl, rfl⟩)) ?_
    refine WQ.c rfl ((QO.o rfl fun _ => o_ld TI3 rfl rfl (cell_of h.cell rfl) ⟨rfl, rfl⟩)) ?_
    refine WQ.c rfl ((QO.o rfl fun _ => o_mvh h0 ⟨rfl, rfl⟩)) ?_
    refine WQ.c rfl ((QO.r fun _ => r_nil rfl)) ?_
    refine WQ.c rfl ((QO.o rfl fun _ => o_fa 0 TI134 rfl TI9 rfl rfl ⟨rfl, rfl⟩)) ?_
    refine WQ.c rfl ((QO.o rfl fun _ => o_ld TI9 rfl rfl (cell_of h.cell rfl) ⟨rfl, rfl⟩)) ?_
    refine WQ.c rfl ((QO.r fun _ => r_lenT TI9 rfl)) ?_
    refine WQ.c rfl ((QO.o rfl fun _ => o_lt rfl rfl ⟨rfl, rfl⟩)) ?_
    refine WQ.c rfl ((QO.o rfl fun _ => o_mvh (show _ = Value.bool _ from rfl) ⟨rfl, rfl⟩)) ?_
    refine WQ.s rfl (by simp; omega) rfl ?_
    refine WQ.s rfl (by simp; omega) rfl ?_
    refine WQ.s rfl (by simp; omega) rfl ?_
    refine WQ.s rfl (by simp; omega) rfl ?_
    refine WQ.s rfl (by simp; omega) rfl ?_
    refine WQ.s rfl (by simp; omega) rfl ?_
    refine WQ.s rfl (by simp; omega) rfl ?_
    refine WQ.s rfl (by simp; omega) rfl ?_
    refine WQ.s rfl (by simp; omega) rfl ?_
    refine WQ.s rfl (by simp; omega) rfl ?_
    refine WQ.c rfl ((QO.r fun _ => r_pickF rfl (by simp; omega))) ?_
    refine WQ.c rfl ((QO.o rfl fun _ => o_mvh (show _ = Value.bool _ from rfl) ⟨rfl, rfl⟩)) ?_
    refine WQ.s rfl (rfl) rfl ?_
    refine WQ.s rfl (rfl) rfl ?_
    refine WQ.s rfl (rfl) rfl ?_
    refine WQ.s rfl (rfl) rfl ?_
    refine WQ.s rfl (rfl) rfl ?_
    refine WQ.s rfl (rfl) rfl ?_
    refine WQ.s rfl (rfl) rfl ?_
    refine WQ.s rfl (rfl) rfl ?_
    refine WQ.s rfl (rfl) rfl ?_
    refine WQ.s rfl (rfl) rfl ?_
    refine WQ.c rfl ((QO.r fun _ => r_pickF rfl (rfl))) ?_
    refine WQ.nil ?_
    intro nq
    have hq := Only.drewN w nq
    replace h := h.ext hq
    replace ho := ho.trans' hq (fun _ h => h) (fun _ _ h => h.elim)
    generalize World.drewN w nq = wq3 at *
    clear hq
    refine W.condF' rfl (rfl) ?_
    refine W.exit ?_
    refine W.seq ?_
    have hend : numR m n k (T.drop (j + k)) = (n, k) := by first | exact hnx | (rw [hnx, if_pos (Or.inl hz)]; done) | (rw [hnx, if_pos hbad])
    refine W.region ?_
    refine WL.c rfl (o_mvh h0 ?_)
    refine WL.c rfl (o_mvh h0 ?_)
    refine WL.c rfl (o_nil rfl ?_)
    refine WL.c rfl (o_fa 3 TI134 rfl TI4 rfl rfl ?_)
    refine WL.c rfl (o_ld TI4 rfl rfl (cell_of h.cell rfl) ?_)
    refine WL.c rfl (o_mvh (show _ = Value.bool _ from rfl) ?_)
    refine WL.g rfl (by simp) rfl (o_mvh h0 ?_)
    refine WL.g rfl (by simp) rfl (o_nil rfl ?_)
    refine WL.g rfl (by simp) rfl (o_fa 1 TI134 rfl TI3 rfl rfl ?_)
    refine WL.g rfl (by simp) rfl (o_ld TI3 rfl rfl (cell_of h.cell rfl) ?_)
    refine WL.g rfl (by simp) rfl (o_mvh h6 ?_)
    refine WL.g rfl (by simp) rfl (o_eq rfl rfl ?_)
    refine WL.c rfl (o_pickO rfl rfl ?_)
    refine WL.c rfl (o_nil rfl ?_)
    refine WL.c rfl (o_fa 3 TI134 rfl TI4 rfl rfl ?_)
    refine WL.u (o_stB TI4 rfl (show _ = Value.bool _ from rfl) rfl h.cell (show 3 < 4 by decide) ?_)
    intro w105 hB105 ho105 hs105
    replace hB105 : w105.heap[g]? = some (.cells #[st T, .int .i64 ((j + k : Nat) : Int), nv, .bool (decide (k = 0))] 134 (0, 0)) := by rw [hB105]; congr 2; simp; first | done | omega
    replace h := h.move (j2 := j + k) (bad2 := decide (k = 0)) hB105 ho105
    replace ho := ho.trans' ho105 (fun _ h => h) (fun _ _ h => h)
    clear hB105 ho105 hs105
    refine WL.nil ?_
    refine W.seq ?_
    refine W.region ?_
    refine WL.c rfl (o_mvh h5 ?_)
    refine WL.c rfl (o_ash (show _ = Value.int _ _ from rfl) ?_)
    refine WL.nil ?_
    refine W.ret ?_
    refine ret1v rfl (show _ = Value.int _ _ from rfl) ?_
    exact ⟨by rw [hn, hend], by rw [hn, hend]; exact h, ho⟩
  · skip
    refine W.quiet rfl (by kernel_rfl) ?_
    refine WQ.c rfl ((QO.o rfl fun _ => o_mvh h0 ⟨rfl, rfl⟩)) ?_
    refine WQ.c rfl ((QO.r fun _ => r_nil rfl)) ?_
    refine WQ.c rfl ((QO.o rfl fun _ => o_fa 1 TI134 rfl TI3 rfl rfl ⟨rfl, rfl⟩)) ?_
    refine WQ.c rfl ((QO.o rfl fun _ => o_ld TI3 rfl rfl (cell_of h.cell rfl) ⟨rfl, rfl⟩)) ?_
    refine WQ.c rfl ((QO.o rfl fun _ => o_mvh h0 ⟨rfl, rfl⟩)) ?_
    refine WQ.c rfl ((QO.r fun _ => r_nil rfl)) ?_
    refine WQ.c rfl ((QO.o rfl fun _ => o_fa 0 TI134 rfl TI9 rfl rfl ⟨rfl, rfl⟩)) ?_
    refine WQ.c rfl ((QO.o rfl fun _ => o_ld TI9 rfl rfl (cell_of h.cell rfl) ⟨rfl, rfl⟩)) ?_
    refine WQ.c rfl ((QO.r fun _ => r_lenT TI9 rfl)) ?_
    refine WQ.c rfl ((QO.o rfl fun _ => o_lt rfl rfl ⟨rfl, rfl⟩)) ?_
    refine WQ.c rfl ((QO.o rfl fun _ => o_mvh (show _ = Value.bool _ from rfl) ⟨rfl, rfl⟩)) ?_
    refine WQ.g rfl (by simp; omega) rfl ((QO.o rfl fun _ => o_mvh h0 ⟨rfl, rfl⟩)) ?_
    refine WQ.g rfl (by simp; omega) rfl ((QO.r fun _ => r_nil rfl)) ?_
    refine WQ.g rfl (by simp; omega) rfl ((QO.o rfl fun _ => o_fa 0 TI134 rfl TI9 rfl rfl ⟨rfl, rfl⟩)) ?_
    refine WQ.g rfl (by simp; omega) rfl ((QO.o rfl fun _ => o_ld TI9 rfl rfl (cell_of h.cell rfl) ⟨rfl, rfl⟩)) ?_
    refine WQ.g rfl (by simp; omega) rfl ((QO.o rfl fun _ => o_mvh h0 ⟨rfl, rfl⟩)) ?_
    refine WQ.g rfl (by simp; omega) rfl ((QO.r fun _ => r_nil rfl)) ?_
    refine WQ.g rfl (by simp; omega) rfl ((QO.o rfl fun _ => o_fa 1 TI134 rfl TI3 rfl rfl ⟨rfl, rfl⟩)) ?_
    refine WQ.g rfl (by simp; omega) rfl ((QO.o rfl fun _ => o_ld TI3 rfl rfl (cell_of h.cell rfl) ⟨rfl, rfl⟩)) ?_
    refine WQ.g rfl (by simp; omega) rfl ((QO.o rfl fun _ => o_idT TI9 rfl rfl (by omega) ⟨rfl, rfl⟩)) ?_
    refine WQ.g rfl (by simp; omega) rfl ((QO.o rfl fun _ => o_ge rfl rfl ⟨rfl, rfl⟩)) ?_
    refine WQ.c rfl ((QO.r fun _ => r_pickA rfl rfl)) ?_
    refine WQ.c rfl ((QO.o rfl fun _ => o_mvh (show _ = Value.bool _ from rfl) ⟨rfl, rfl⟩)) ?_
    refine WQ.s rfl (by simp; omega) rfl ?_
    refine WQ.s rfl (by simp; omega) rfl ?_
    refine WQ.s rfl (by simp; omega) rfl ?_
    refine WQ.s rfl (by simp; omega) rfl ?_
    refine WQ.s rfl (by simp; omega) rfl ?_
    refine WQ.s rfl (by simp; omega) rfl ?_
    refine WQ.s rfl (by simp; omega) rfl ?_
    refine WQ.s rfl (by simp; omega) rfl ?_
    refine WQ.s rfl (by simp; omega) rfl ?_
    refine WQ.s rfl (by simp; omega) rfl ?_
    refine WQ.c rfl ((QO.r fun _ => r_pickF rfl (by simp; omega))) ?_
    refine WQ.nil ?_
    intro nq
    have hq := Only.drewN w nq
    replace h := h.ext hq
    replace ho := ho.trans' hq (fun _ h => h) (fun _ _ h => h.elim)
    generalize World.drewN w nq = wq3 at *
    clear hq
    refine W.condF' rfl (rfl) ?_
    refine W.exit ?_
    refine W.seq ?_
    have hend : numR m n k (T.drop (j + k)) = (n, k) := by first | exact hnx | (rw [hnx, if_pos (Or.inl hz)]; done) | (rw [hnx, if_pos hbad])
    refine W.region ?_
    refine WL.c rfl (o_mvh h0 ?_)
    refine WL.c rfl (o_mvh h0 ?_)
    refine WL.c rfl (o_nil rfl ?_)
    refine WL.c rfl (o_fa 3 TI134 rfl TI4 rfl rfl ?_)
    refine WL.c rfl (o_ld TI4 rfl rfl (cell_of h.cell rfl) ?_)
    refine WL.c rfl (o_mvh (show _ = Value.bool _ from rfl) ?_)
    refine WL.g rfl (by simp) rfl (o_mvh h0 ?_)
    refine WL.g rfl (by simp) rfl (o_nil rfl ?_)
    refine WL.g rfl (by simp) rfl (o_fa 1 TI134 rfl TI3 rfl rfl ?_)
    refine WL.g rfl (by simp) rfl (o_ld TI3 rfl rfl (cell_of h.cell rfl) ?_)
    refine WL.g rfl (by simp) rfl (o_mvh h6 ?_)
    refine WL.g rfl (by simp) rfl (o_eq rfl rfl ?_)
    refine WL.c rfl (o_pickO rfl rfl ?_)
    refine WL.c rfl (o_nil rfl ?_)
    refine WL.c rfl (o_fa 3 TI134 rfl TI4 rfl rfl ?_)
    refine WL.u (o_stB TI4 rfl (show _ = Value.bool _ from rfl) rfl h.cell (show 3 < 4 by decide) ?_)
    intro w105 hB105 ho105 hs105
    replace hB105 : w105.heap[g]? = some (.cells #[st T, .int .i64 ((j + k : Nat) : Int), nv, .bool (decide (k = 0))] 134 (0, 0)) := by rw [hB105]; congr 2; simp; first | done | omega
    replace h := h.move (j2 := j + k) (bad2 := decide (k = 0)) hB105 ho105
    replace ho := ho.trans' ho105 (fun _ h => h) (fun _ _ h => h)
    clear hB105 ho105 hs105
    refine WL.nil ?_
    refine W.seq ?_
    refine W.region ?_
    refine WL.c rfl (o_mvh h5 ?_)
    refine WL.c rfl (o_ash (show _ = Value.int _ _ from rfl) ?_)
    refine WL.nil ?_
    refine W.ret ?_
    refine ret1v rfl (show _ = Value.int _ _ from rfl) ?_
    exact ⟨by rw [hn, hend], by rw [hn, hend]; exact h, ho⟩
  · skip
    refine W.quiet rfl (by kernel_rfl) ?_
    refine WQ.c rfl ((QO.o rfl fun _ => o_mvh h0 ⟨rfl, rfl⟩)) ?_
    refine WQ.c rfl ((QO.r fun _ => r_nil rfl)) ?_
    refine WQ.c rfl ((QO.o rfl fun _ => o_fa 1 TI134 rfl TI3 rfl rfl ⟨rfl, rfl⟩)) ?_
    refine WQ.c rfl ((QO.o rfl fun _ => o_ld TI3 rfl rfl (cell_of h.cell rfl) ⟨rfl, rfl⟩)) ?_
    refine WQ.c rfl ((QO.o rfl fun _ => o_mvh h0 ⟨rfl, rfl⟩)) ?_
    refine WQ.c rfl ((QO.r fun _ => r_nil rfl)) ?_
    refine WQ.c rfl ((QO.o rfl fun _ => o_fa 0 TI134 rfl TI9 rfl rfl ⟨rfl, rfl⟩)) ?_
    refine WQ.c rfl ((QO.o rfl fun _ => o_ld TI9 rfl rfl (cell_of h.cell rfl) ⟨rfl, rfl⟩)) ?_
    refine WQ.c rfl ((QO.r fun _ => r_lenT TI9 rfl)) ?_
    refine WQ.c rfl ((QO.o rfl fun _ => o_lt rfl rfl ⟨rfl, rfl⟩)) ?_
    refine WQ.c rfl ((QO.o rfl fun _ => o_mvh (show _ = Value.bool _ from rfl) ⟨rfl, rfl⟩)) ?_
    refine WQ.g rfl (by simp; omega) rfl ((QO.o rfl fun _ => o_mvh h0 ⟨rfl, rfl⟩)) ?_
    refine WQ.g rfl (by simp; omega) rfl ((QO.r fun _ => r_nil rfl)) ?_
    refine WQ.g rfl (by simp; omega) rfl ((QO.o rfl fun _ => o_fa 0 TI134 rfl TI9 rfl rfl ⟨rfl, rfl⟩)) ?_
    refine WQ.g rfl (by simp; omega) rfl ((QO.o rfl fun _ => o_ld TI9 rfl rfl (cell_of h.cell rfl) ⟨rfl, rfl⟩)) ?_
    refine WQ.g rfl (by simp; omega) rfl ((QO.o rfl fun _ => o_mvh h0 ⟨rfl, rfl⟩)) ?_
    refine WQ.g rfl (by simp; omega) rfl ((QO.r fun _ => r_nil rfl)) ?_
    refine WQ.g rfl (by simp; omega) rfl ((QO.o rfl fun _ => o_fa 1 TI134 rfl TI3 rfl rfl ⟨rfl, rfl⟩)) ?_
    refine WQ.g rfl (by simp; omega) rfl ((QO.o rfl fun _ => o_ld TI3 rfl rfl (cell_of h.cell rfl) ⟨rfl, rfl⟩)) ?_
    refine WQ.g rfl (by simp; omega) rfl ((QO.o rfl fun _ => o_idT TI9 rfl rfl (by omega) ⟨rfl, rfl⟩)) ?_
    refine WQ.g rfl (by simp; omega) rfl ((QO.o rfl fun _ => o_ge rfl rfl ⟨rfl, rfl⟩)) ?_
    refine WQ.c rfl ((QO.r fun _ => r_pickA rfl rfl)) ?_
    refine WQ.c rfl ((QO.o rfl fun _ => o_mvh (show _ = Value.bool _ from rfl) ⟨rfl, rfl⟩)) ?_
    refine WQ.g rfl (by simp; omega) rfl ((QO.o rfl fun _ => o_mvh h0 ⟨rfl, rfl⟩)) ?_
    refine WQ.g rfl (by simp; omega) rfl ((QO.r fun _ => r_nil rfl)) ?_
    refine WQ.g rfl (by simp; omega) rfl ((QO.o rfl fun _ => o_fa 0 TI134 rfl TI9 rfl rfl ⟨rfl, rfl⟩)) ?_
    refine WQ.g rfl (by simp; omega) rfl ((QO.o rfl fun _ => o_ld TI9 rfl rfl (cell_of h.cell rfl) ⟨rfl, rfl⟩)) ?_
    refine WQ.g rfl (by simp; omega) rfl ((QO.o rfl fun _ => o_mvh h0 ⟨rfl, rfl⟩)) ?_
    refine WQ.g rfl (by simp; omega) rfl ((QO.r fun _ => r_nil rfl)) ?_
    refine WQ.g rfl (by simp; omega) rfl ((QO.o rfl fun _ => o_fa 1 TI134 rfl TI3 rfl rfl ⟨rfl, rfl⟩)) ?_
    refine WQ.g rfl (by simp; omega) rfl ((QO.o rfl fun _ => o_ld TI3 rfl rfl (cell_of h.cell rfl) ⟨rfl, rfl⟩)) ?_
    refine WQ.g rfl (by simp; omega) rfl ((QO.o rfl fun _ => o_idT TI9 rfl rfl (by omega) ⟨rfl, rfl⟩)) ?_
    refine WQ.g rfl (by simp; omega) rfl ((QO.o rfl fun _ => o_le rfl rfl ⟨rfl, rfl⟩)) ?_
    refine WQ.c rfl ((QO.r fun _ => r_pickA rfl rfl)) ?_
    refine WQ.nil ?_
    intro nq
    have hq := Only.drewN w nq
    replace h := h.ext hq
    replace ho := ho.trans' hq (fun _ h => h) (fun _ _ h => h.elim)
    generalize World.drewN w nq = wq3 at *
    clear hq
    refine W.condF' rfl (by simp; omega) ?_
    refine W.exit ?_
    refine W.seq ?_
    have hend : numR m n k (T.drop (j + k)) = (n, k) := by first | exact hnx | (rw [hnx, if_pos (Or.inl hz)]; done) | (rw [hnx, if_pos hbad])
    refine W.region ?_
    refine WL.c rfl (o_mvh h0 ?_)
    refine WL.c rfl (o_mvh h0 ?_)
    refine WL.c rfl (o_nil rfl ?_)
    refine WL.c rfl (o_fa 3 TI134 rfl TI4 rfl rfl ?_)
    refine WL.c rfl (o_ld TI4 rfl rfl (cell_of h.cell rfl) ?_)
    refine WL.c rfl (o_mvh (show _ = Value.bool _ from rfl) ?_)
    refine WL.g rfl (by simp) rfl (o_mvh h0 ?_)
    refine WL.g rfl (by simp) rfl (o_nil rfl ?_)
    refine WL.g rfl (by simp) rfl (o_fa 1 TI134 rfl TI3 rfl rfl ?_)
    refine WL.g rfl (by simp) rfl (o_ld TI3 rfl rfl (cell_of h.cell rfl) ?_)
    refine WL.g rfl (by simp) rfl (o_mvh h6 ?_)
    refine WL.g rfl (by simp) rfl (o_eq rfl rfl ?_)
    refine WL.c rfl (o_pickO rfl rfl ?_)
    refine WL.c rfl (o_nil rfl ?_)
    refine WL.c rfl (o_fa 3 TI134 rfl TI4 rfl rfl ?_)
    refine WL.u (o_stB TI4 rfl (show _ = Value.bool _ from rfl) rfl h.cell (show 3 < 4 by decide) ?_)
    intro w105 hB105 ho105 hs105
    replace hB105 : w105.heap[g]? = some (.cells #[st T, .int .i64 ((j + k : Nat) : Int), nv, .bool (decide (k = 0))] 134 (0, 0)) := by rw [hB105]; congr 2; simp; first | done | omega
    replace h := h.move (j2 := j + k) (bad2 := decide (k = 0)) hB105 ho105
    replace ho := ho.trans' ho105 (fun _ h => h) (fun _ _ h => h)
    clear hB105 ho105 hs105
    refine WL.nil ?_
    refine W.seq ?_
    refine W.region ?_
    refine WL.c rfl (o_mvh h5 ?_)
    refine WL.c rfl (o_ash (show _ = Value.int _ _ from rfl) ?_)
    refine WL.nil ?_
    refine W.ret ?_
    refine ret1v rfl (show _ = Value.int _ _ from rfl) ?_
    exact ⟨by rw [hn, hend], by rw [hn, hend]; exact h, ho⟩
  · skip
    refine W.quiet rfl (by kernel_rfl) ?_
    refine WQ.c rfl ((QO.o rfl fun _ => o_mvh h0 ⟨rfl, rfl⟩)) ?_
    refine WQ.c rfl ((QO.r fun _ => r_nil rfl)) ?_
    refine WQ.c rfl ((QO.o rfl fun _ => o_fa 1 TI134 rfl TI3 rfl rfl ⟨rfl, rfl⟩)) ?_
    refine WQ.c rfl ((QO.o rfl fun _ => o_ld TI3 rfl rfl (cell_of h.cell rfl) ⟨rfl, rfl⟩)) ?_
    refine WQ.c rfl ((QO.o rfl fun _ => o_mvh h0 ⟨rfl, rfl⟩)) ?_
    refine WQ.c rfl ((QO.r fun _ => r_nil rfl)) ?_
    refine WQ.c rfl ((QO.o rfl fun _ => o_fa 0 TI134 rfl TI9 rfl rfl ⟨rfl, rfl⟩)) ?_
    refine WQ.c rfl ((QO.o rfl fun _ => o_ld TI9 rfl rfl (cell_of h.cell rfl) ⟨rfl, rfl⟩)) ?_
    refine WQ.c rfl ((QO.r fun _ => r_lenT TI9 rfl)) ?_
    refine WQ.c rfl ((QO.o rfl fun _ => o_lt rfl rfl ⟨rfl, rfl⟩)) ?_
    refine WQ.c rfl ((QO.o rfl fun _ => o_mvh (show _ = Value.bool _ from rfl) ⟨rfl, rfl⟩)) ?_
    refine WQ.g rfl (by simp; omega) rfl ((QO.o rfl fun _ => o_mvh h0 ⟨rfl, rfl⟩)) ?_
    refine WQ.g rfl (by simp; omega) rfl ((QO.r fun _ => r_nil rfl)) ?_
    refine WQ.g rfl (by simp; omega) rfl ((QO.o rfl fun _ => o_fa 0 TI134 rfl TI9 rfl rfl ⟨rfl, rfl⟩)) ?_
    refine WQ.g rfl (by simp; omega) rfl ((QO.o rfl fun _ => o_ld TI9 rfl rfl (cell_of h.cell rfl) ⟨rfl, rfl⟩)) ?_
    refine WQ.g rfl (by simp; omega) rfl ((QO.o rfl fun _ => o_mvh h0 ⟨rfl, rfl⟩)) ?_
    refine WQ.g rfl (by simp; omega) rfl ((QO.r fun _ => r_nil rfl)) ?_
    refine WQ.g rfl (by simp; omega) rfl ((QO.o rfl fun _ => o_fa 1 TI134 rfl TI3 rfl rfl ⟨rfl, rfl⟩)) ?_
    refine WQ.g rfl (by simp; omega) rfl ((QO.o rfl fun _ => o_ld TI3 rfl rfl (cell_of h.cell rfl) ⟨rfl, rfl⟩)) ?_
    refine WQ.g rfl (by simp; omega) rfl ((QO.o rfl fun _ => o_idT TI9 rfl rfl (by omega) ⟨rfl, rfl⟩)) ?_
    refine WQ.g rfl (by simp; omega) rfl ((QO.o rfl fun _ => o_ge rfl rfl ⟨rfl, rfl⟩)) ?_
    refine WQ.c rfl ((QO.r fun _ => r_pickA rfl rfl)) ?_
    refine WQ.c rfl ((QO.o rfl fun _ => o_mvh (show _ = Value.bool _ from rfl) ⟨rfl, rfl⟩)) ?_
    refine WQ.g rfl (by simp; omega) rfl ((QO.o rfl fun _ => o_mvh h0 ⟨rfl, rfl⟩)) ?_
    refine WQ.g rfl (by simp; omega) rfl ((QO.r fun _ => r_nil rfl)) ?_
    refine WQ.g rfl (by simp; omega) rfl ((QO.o rfl fun _ => o_fa 0 TI134 rfl TI9 rfl rfl ⟨rfl, rfl⟩)) ?_
    refine WQ.g rfl (by simp; omega) rfl ((QO.o rfl fun _ => o_ld TI9 rfl rfl (cell_of h.cell rfl) ⟨rfl, rfl⟩)) ?_
    refine WQ.g rfl (by simp; omega) rfl ((QO.o rfl fun _ => o_mvh h0 ⟨rfl, rfl⟩)) ?_
    refine WQ.g rfl (by simp; omega) rfl ((QO.r fun _ => r_nil rfl)) ?_
    refine WQ.g rfl (by simp; omega) rfl ((QO.o rfl fun _ => o_fa 1 TI134 rfl TI3 rfl rfl ⟨rfl, rfl⟩)) ?_
    refine WQ.g rfl (by simp; omega) rfl ((QO.o rfl fun _ => o_ld TI3 rfl rfl (cell_of h.cell rfl) ⟨rfl, rfl⟩)) ?_
    refine WQ.g rfl (by simp; omega) rfl ((QO.o rfl fun _ => o_idT TI9 rfl rfl (by omega) ⟨rfl, rfl⟩)) ?_
    refine WQ.g rfl (by simp; omega) rfl ((QO.o rfl fun _ => o_le rfl rfl ⟨rfl, rfl⟩)) ?_
    refine WQ.c rfl ((QO.r fun _ => r_pickA rfl rfl)) ?_
    refine WQ.nil ?_
    intro nq
    have hq := Only.drewN w nq
    replace h := h.ext hq
    replace ho := ho.trans' hq (fun _ h => h) (fun _ _ h => h.elim)
    generalize World.drewN w nq = wq3 at *
    clear hq
    refine W.condT' rfl (by simp; omega) ?_
    refine W.skip ?_
    refine W.block ?_
    refine W.seq ?_
    refine W.quiet rfl (by kernel_rfl) ?_
    refine WQ.c rfl ((QO.o rfl fun _ => o_mvh h0 ⟨rfl, rfl⟩)) ?_
    refine WQ.c rfl ((QO.r fun _ => r_nil rfl)) ?_
    refine WQ.c rfl ((QO.o rfl fun _ => o_fa 0 TI134 rfl TI9 rfl rfl ⟨rfl, rfl⟩)) ?_
    refine WQ.c rfl ((QO.o rfl fun _ => o_ld TI9 rfl rfl (cell_of h.cell rfl) ⟨rfl, rfl⟩)) ?_
    refine WQ.c rfl ((QO.o rfl fun _ => o_mvh h0 ⟨rfl, rfl⟩)) ?_
    refine WQ.c rfl ((QO.r fun _ => r_nil rfl)) ?_
    refine WQ.c rfl ((QO.o rfl fun _ => o_fa 1 TI134 rfl TI3 rfl rfl ⟨rfl, rfl⟩)) ?_
    refine WQ.c rfl ((QO.o rfl fun _ => o_ld TI3 rfl rfl (cell_of h.cell rfl) ⟨rfl, rfl⟩)) ?_
    refine WQ.c rfl ((QO.o rfl fun _ => o_idT TI9 rfl rfl (by omega) ⟨rfl, rfl⟩)) ?_
    refine WQ.c rfl ((QO.o rfl fun _ => o_subU (a := T[j + k].toNat) (b := 48) 256 rfl (by decide) rfl rfl hd1 (by omega) ⟨rfl, rfl⟩)) ?_
    refine WQ.c rfl ((QO.o rfl fun _ => n_cvI 18446744073709551616 rfl TI5 TI43 (by decide) rfl ⟨rfl, rfl⟩)) ?_
    refine WQ.c rfl ((QO.o rfl fun _ => o_ash (show _ = Value.int _ _ from rfl) ⟨rfl, rfl⟩)) ?_
    refine WQ.nil ?_
    intro nq
    have hq := Only.drewN wq3 nq
    replace h := h.ext hq
    replace ho := ho.trans' hq (fun _ h => h) (fun _ _ h => h.elim)
    generalize World.drewN wq3 nq = wq4 at *
    clear hq
    refine W.seq ?_
    refine W.seq ?_
    by_cases hz : 0 < k ∧ n = 0
    · skip
      skip
      have hdg : (T[j + k].toNat - 48) % 18446744073709551616 = dg T[j + k] := by unfold dg; omega
      refine W.region ?_
      refine WL.c rfl (o_mvh h0 ?_)
      refine WL.c rfl (o_nil rfl ?_)
      refine WL.c rfl (o_fa 1 TI134 rfl TI3 rfl rfl ?_)
      refine WL.c rfl (o_ld TI3 rfl rfl (cell_of h.cell rfl) ?_)
      refine WL.c rfl (o_mvh h6 ?_)
      refine WL.c rfl (o_gt rfl rfl ?_)
      refine WL.c rfl (o_mvh (show _ = Value.bool _ from rfl) ?_)
      refine WL.g rfl (by simp; omega) rfl (o_mvh h5 ?_)
      refine WL.g rfl (by simp; omega) rfl (o_eq rfl rfl ?_)
      refine WL.c rfl (o_pickA rfl rfl ?_)
      refine WL.c rfl (o_mvh (show _ = Value.bool _ from rfl) ?_)
      refine WL.s rfl (by simp; omega) rfl ?_
      refine WL.s rfl (by simp; omega) rfl ?_
      refine WL.s rfl (by simp; omega) rfl ?_
      refine WL.c rfl (o_pickT rfl (by simp; omega) ?_)
      refine WL.c rfl (o_mvh (show _ = Value.bool _ from rfl) ?_)
      refine WL.s rfl (rfl) rfl ?_
      refine WL.s rfl (rfl) rfl ?_
      refine WL.s rfl (rfl) rfl ?_
      refine WL.s rfl (rfl) rfl ?_
      refine WL.s rfl (rfl) rfl ?_
      refine WL.s rfl (rfl) rfl ?_
      refine WL.c rfl (o_pickT rfl (rfl) ?_)
      refine WL.nil ?_
      refine W.condT' rfl (rfl) ?_
      refine W.exit ?_
      refine W.seq ?_
      have hend : numR m n k (T.drop (j + k)) = (n, k) := by first | exact hnx | (rw [hnx, if_pos (Or.inl hz)]; done) | (rw [hnx, if_pos hbad])
      refine W.region ?_
      refine WL.c rfl (o_mvh h0 ?_)
      refine WL.c rfl (o_mvh h0 ?_)
      refine WL.c rfl (o_nil rfl ?_)
      refine WL.c rfl (o_fa 3 TI134 rfl TI4 rfl rfl ?_)
      refine WL.c rfl (o_ld TI4 rfl rfl (cell_of h.cell rfl) ?_)
      refine WL.c rfl (o_mvh (show _ = Value.bool _ from rfl) ?_)
      refine WL.g rfl (by simp) rfl (o_mvh h0 ?_)
      refine WL.g rfl (by simp) rfl (o_nil rfl ?_)
      refine WL.g rfl (by simp) rfl (o_fa 1 TI134 rfl TI3 rfl rfl ?_)
      refine WL.g rfl (by simp) rfl (o_ld TI3 rfl rfl (cell_of h.cell rfl) ?_)
      refine WL.g rfl (by simp) rfl (o_mvh h6 ?_)
      refine WL.g rfl (by simp) rfl (o_eq rfl rfl ?_)
      refine WL.c rfl (o_pickO rfl rfl ?_)
      refine WL.c rfl (o_nil rfl ?_)
      refine WL.c rfl (o_fa 3 TI134 rfl TI4 rfl rfl ?_)
      refine WL.u (o_stB TI4 rfl (show _ = Value.bool _ from rfl) rfl h.cell (show 3 < 4 by decide) ?_)
      intro w105 hB105 ho105 hs105
      replace hB105 : w105.heap[g]? = some (.cells #[st T, .int .i64 ((j + k : Nat) : Int), nv, .bool (decide (k = 0))] 134 (0, 0)) := by rw [hB105]; congr 2; simp; first | done | omega
      replace h := h.move (j2 := j + k) (bad2 := decide (k = 0)) hB105 ho105
      replace ho := ho.trans' ho105 (fun _ h => h) (fun _ _ h => h)
      clear hB105 ho105 hs105
      refine WL.nil ?_
      refine W.seq ?_
      refine W.region ?_
      refine WL.c rfl (o_mvh h5 ?_)
      refine WL.c rfl (o_ash (show _ = Value.int _ _ from rfl) ?_)
      refine WL.nil ?_
      refine W.ret ?_
      refine ret1v rfl (show _ = Value.int _ _ from rfl) ?_
      exact ⟨by rw [hn, hend], by rw [hn, hend]; exact h, ho⟩
    · skip
      skip
      have hdg : (T[j + k].toNat - 48) % 18446744073709551616 = dg T[j + k] := by unfold dg; omega
      refine W.region ?_
      refine WL.c rfl (o_mvh h0 ?_)
      refine WL.c rfl (o_nil rfl ?_)
      refine WL.c rfl (o_fa 1 TI134 rfl TI3 rfl rfl ?_)
      refine WL.c rfl (o_ld TI3 rfl rfl (cell_of h.cell rfl) ?_)
      refine WL.c rfl (o_mvh h6 ?_)
      refine WL.c rfl (o_gt rfl rfl ?_)
      refine WL.c rfl (o_mvh (show _ = Value.bool _ from rfl) ?_)
      refine WL.sp 6 rfl (fun g63 => ?_) (fun g63 => ?_)
      · skip
        refine WL.g rfl (g63) rfl (o_mvh h5 ?_)
        refine WL.g rfl (g63) rfl (o_eq rfl rfl ?_)
        refine WL.c rfl (o_pickA rfl rfl ?_)
        refine WL.c rfl (o_mvh (show _ = Value.bool _ from rfl) ?_)
        refine WL.g rfl (by simp; omega) rfl (o_mvh (show _ = Value.int _ _ from rfl) ?_)
        refine WL.g rfl (by simp; omega) rfl (o_mvh h1 ?_)
        refine WL.g rfl (by simp; omega) rfl (o_gt rfl rfl ?_)
        refine WL.c rfl (o_pickO rfl rfl ?_)
        refine WL.c rfl (o_mvh (show _ = Value.bool _ from rfl) ?_)
        refine WL.g rfl (by simp; omega) rfl (o_mvh h5 ?_)
        refine WL.g rfl (by simp; omega) rfl (o_mvh h1 ?_)
        refine WL.g rfl (by simp; omega) rfl (o_mvh (show _ = Value.int _ _ from rfl) ?_)
        refine WL.g rfl (by simp; omega) rfl (o_subU (a := m) 18446744073709551616 rfl (by decide) rfl rfl (by omega) hm2 ?_)
        refine WL.g rfl (by simp; omega) rfl (n_quo (b := 10) 18446744073709551616 rfl (by decide) rfl rfl (by omega) (by decide) ?_)
        refine WL.g rfl (by simp; omega) rfl (o_gt rfl rfl ?_)
        refine WL.c rfl (o_pickO rfl rfl ?_)
        refine WL.nil ?_
        refine W.cond rfl (fun c79 => ?_) (fun c79 => ?_)
        · try simp only [decide_eq_true_eq, decide_eq_false_iff_not, Bool.not_eq_true', Bool.not_eq_false', Bool.and_eq_true, Bool.or_eq_true, Bool.and_eq_false_iff, Bool.or_eq_false_iff] at c79
          have hdg : (T[j + k].toNat - 48) % 18446744073709551616 = dg T[j + k] := by unfold dg; omega
          have hbad : (0 < k ∧ n = 0) ∨ (m - dg T[j + k]) / 10 < n := by first | exact Or.inl hz | (rw [hdg] at c79; rcases c79 with (⟨h7, h8⟩ | h7) | h7 <;> first | omega | exact absurd ⟨by omega, by omega⟩ hz)
          refine W.exit ?_
          refine W.seq ?_
          have hend : numR m n k (T.drop (j + k)) = (n, k) := by first | exact hnx | (rw [hnx, if_pos (Or.inl hz)]; done) | (rw [hnx, if_pos hbad])
          refine W.region ?_
          refine WL.c rfl (o_mvh h0 ?_)
          refine WL.c rfl (o_mvh h0 ?_)
          refine WL.c rfl (o_nil rfl ?_)
          refine WL.c rfl (o_fa 3 TI134 rfl TI4 rfl rfl ?_)
          refine WL.c rfl (o_ld TI4 rfl rfl (cell_of h.cell rfl) ?_)
          refine WL.c rfl (o_mvh (show _ = Value.bool _ from rfl) ?_)
          refine WL.g rfl (by simp) rfl (o_mvh h0 ?_)
          refine WL.g rfl (by simp) rfl (o_nil rfl ?_)
          refine WL.g rfl (by simp) rfl (o_fa 1 TI134 rfl TI3 rfl rfl ?_)
          refine WL.g rfl (by simp) rfl (o_ld TI3 rfl rfl (cell_of h.cell rfl) ?_)
          refine WL.g rfl (by simp) rfl (o_mvh h6 ?_)
          refine WL.g rfl (by simp) rfl (o_eq rfl rfl ?_)
          refine WL.c rfl (o_pickO rfl rfl ?_)
          refine WL.c rfl (o_nil rfl ?_)
          refine WL.c rfl (o_fa 3 TI134 rfl TI4 rfl rfl ?_)
          refine WL.u (o_stB TI4 rfl (show _ = Value.bool _ from rfl) rfl h.cell (show 3 < 4 by decide) ?_)
          intro w105 hB105 ho105 hs105
          replace hB105 : w105.heap[g]? = some (.cells #[st T, .int .i64 ((j + k : Nat) : Int), nv, .bool (decide (k = 0))] 134 (0, 0)) := by rw [hB105]; congr 2; simp; first | done | omega
          replace h := h.move (j2 := j + k) (bad2 := decide (k = 0)) hB105 ho105
          replace ho := ho.trans' ho105 (fun _ h => h) (fun _ _ h => h)
          clear hB105 ho105 hs105
          refine WL.nil ?_
          refine W.seq ?_
          refine W.region ?_
          refine WL.c rfl (o_mvh h5 ?_)
          refine WL.c rfl (o_ash (show _ = Value.int _ _ from rfl) ?_)
          refine WL.nil ?_
          refine W.ret ?_
          refine ret1v rfl (show _ = Value.int _ _ from rfl) ?_
          exact ⟨by rw [hn, hend], by rw [hn, hend]; exact h, ho⟩
        · try simp only [decide_eq_true_eq, decide_eq_false_iff_not, Bool.not_eq_true', Bool.not_eq_false', Bool.and_eq_true, Bool.or_eq_true, Bool.and_eq_false_iff, Bool.or_eq_false_iff] at c79
          have hdg : (T[j + k].toNat - 48) % 18446744073709551616 = dg T[j + k] := by unfold dg; omega
          rw [hdg] at c79
          have hok : ¬ ((0 < k ∧ n = 0) ∨ (m - dg T[j + k]) / 10 < n) := fun h9 => h9.elim hz (fun h8 => by have h7 := c79.2; omega)
          refine W.skip ?_
          refine W.seq ?_
          refine W.region ?_
          refine WL.c rfl (o_mvh h5 ?_)
          refine WL.c rfl (n_mul (a := 10) 18446744073709551616 rfl (by decide) rfl rfl ?_)
          refine WL.c rfl (o_mvh (show _ = Value.int _ _ from rfl) ?_)
          refine WL.c rfl (n_add 18446744073709551616 rfl (by decide) rfl rfl ?_)
          refine WL.c rfl (o_ash (show _ = Value.int _ _ from rfl) ?_)
          refine WL.nil ?_
          refine W.region ?_
          refine WL.c rfl (o_mvh h0 ?_)
          refine WL.c rfl (o_nil rfl ?_)
          refine WL.c rfl (o_fa 1 TI134 rfl TI3 rfl rfl ?_)
          refine WL.c rfl (o_ld TI3 rfl rfl (cell_of h.cell rfl) ?_)
          refine WL.c rfl (o_addi rfl rfl (by omega) ?_)
          refine WL.c rfl (o_nil rfl ?_)
          refine WL.c rfl (o_fa 1 TI134 rfl TI3 rfl rfl ?_)
          refine WL.u (o_stB TI3 rfl (show _ = Value.int _ _ from rfl) rfl h.cell (show 1 < 4 by decide) ?_)
          intro w90 hB90 ho90 hs90
          replace h := h.move (j2 := j + (k + 1)) (bad2 := false) hB90 ho90
          replace ho := ho.trans' ho90 (fun _ h => h) (fun _ _ h => h)
          clear hB90 ho90 hs90
          refine WL.nil ?_
          have hnm2 : 10 * n + dg T[j + k] ≤ m := by omega
          have hmod : (10 * n % 18446744073709551616 + (T[j + k].toNat - 48) % 18446744073709551616) % 18446744073709551616 = 10 * n + dg T[j + k] := by omega
          exact ⟨T.length - (k + 1), by omega, 10 * n + dg T[j + k], k + 1, rfl, hnm2, h0, h1, by show Value.int _ _ = _; rw [hmod], h6, h, by omega, by rw [hn, hnx, if_neg hok], ho⟩
      · skip
        refine WL.s rfl (g63) rfl ?_
        refine WL.s rfl (g63) rfl ?_
        refine WL.c rfl (o_pickF rfl (g63) ?_)
        refine WL.c rfl (o_mvh (show _ = Value.bool _ from rfl) ?_)
        refine WL.g rfl (rfl) rfl (o_mvh (show _ = Value.int _ _ from rfl) ?_)
        refine WL.g rfl (rfl) rfl (o_mvh h1 ?_)
        refine WL.g rfl (rfl) rfl (o_gt rfl rfl ?_)
        refine WL.c rfl (o_pickO rfl rfl ?_)
        refine WL.c rfl (o_mvh (show _ = Value.bool _ from rfl) ?_)
        refine WL.g rfl (by simp; omega) rfl (o_mvh h5 ?_)
        refine WL.g rfl (by simp; omega) rfl (o_mvh h1 ?_)
        refine WL.g rfl (by simp; omega) rfl (o_mvh (show _ = Value.int _ _ from rfl) ?_)
        refine WL.g rfl (by simp; omega) rfl (o_subU (a := m) 18446744073709551616 rfl (by decide) rfl rfl (by omega) hm2 ?_)
        refine WL.g rfl (by simp; omega) rfl (n_quo (b := 10) 18446744073709551616 rfl (by decide) rfl rfl (by omega) (by decide) ?_)
        refine WL.g rfl (by simp; omega) rfl (o_gt rfl rfl ?_)
        refine WL.c rfl (o_pickO rfl rfl ?_)
        refine WL.nil ?_
        refine W.cond rfl (fun c79 => ?_) (fun c79 => ?_)
        · try simp only [decide_eq_true_eq, decide_eq_false_iff_not, Bool.not_eq_true', Bool.not_eq_false', Bool.and_eq_true, Bool.or_eq_true, Bool.and_eq_false_iff, Bool.or_eq_false_iff] at c79
          have hdg : (T[j + k].toNat - 48) % 18446744073709551616 = dg T[j + k] := by unfold dg; omega
          have hbad : (0 < k ∧ n = 0) ∨ (m - dg T[j + k]) / 10 < n := by first | exact Or.inl hz | (rw [hdg] at c79; rcases c79 with (⟨h7, h8⟩ | h7) | h7 <;> first | omega | exact absurd ⟨by omega, by omega⟩ hz)
          refine W.exit ?_
          refine W.seq ?_
          have hend : numR m n k (T.drop (j + k)) = (n, k) := by first | exact hnx | (rw [hnx, if_pos (Or.inl hz)]; done) | (rw [hnx, if_pos hbad])
          refine W.region ?_
          refine WL.c rfl (o_mvh h0 ?_)
          refine WL.c rfl (o_mvh h0 ?_)
          refine WL.c rfl (o_nil rfl ?_)
          refine WL.c rfl (o_fa 3 TI134 rfl TI4 rfl rfl ?_)
          refine WL.c rfl (o_ld TI4 rfl rfl (cell_of h.cell rfl) ?_)
          refine WL.c rfl (o_mvh (show _ = Value.bool _ from rfl) ?_)
          refine WL.g rfl (by simp) rfl (o_mvh h0 ?_)
          refine WL.g rfl (by simp) rfl (o_nil rfl ?_)
          refine WL.g rfl (by simp) rfl (o_fa 1 TI134 rfl TI3 rfl rfl ?_)
          refine WL.g rfl (by simp) rfl (o_ld TI3 rfl rfl (cell_of h.cell rfl) ?_)
          refine WL.g rfl (by simp) rfl (o_mvh h6 ?_)
          refine WL.g rfl (by simp) rfl (o_eq rfl rfl ?_)
          refine WL.c rfl (o_pickO rfl rfl ?_)
          refine WL.c rfl (o_nil rfl ?_)
          refine WL.c rfl (o_fa 3 TI134 rfl TI4 rfl rfl ?_)
          refine WL.u (o_stB TI4 rfl (show _ = Value.bool _ from rfl) rfl h.cell (show 3 < 4 by decide) ?_)
          intro w105 hB105 ho105 hs105
          replace hB105 : w105.heap[g]? = some (.cells #[st T, .int .i64 ((j + k : Nat) : Int), nv, .bool (decide (k = 0))] 134 (0, 0)) := by rw [hB105]; congr 2; simp; first | done | omega
          replace h := h.move (j2 := j + k) (bad2 := decide (k = 0)) hB105 ho105
          replace ho := ho.trans' ho105 (fun _ h => h) (fun _ _ h => h)
          clear hB105 ho105 hs105
          refine WL.nil ?_
          refine W.seq ?_
          refine W.region ?_
          refine WL.c rfl (o_mvh h5 ?_)
          refine WL.c rfl (o_ash (show _ = Value.int _ _ from rfl) ?_)
          refine WL.nil ?_
          refine W.ret ?_
          refine ret1v rfl (show _ = Value.int _ _ from rfl) ?_
          exact ⟨by rw [hn, hend], by rw [hn, hend]; exact h, ho⟩
        · try simp only [decide_eq_true_eq, decide_eq_false_iff_not, Bool.not_eq_true', Bool.not_eq_false', Bool.and_eq_true, Bool.or_eq_true, Bool.and_eq_false_iff, Bool.or_eq_false_iff] at c79
          have hdg : (T[j + k].toNat - 48) % 18446744073709551616 = dg T[j + k] := by unfold dg; omega
          rw [hdg] at c79
          have hok : ¬ ((0 < k ∧ n = 0) ∨ (m - dg T[j + k]) / 10 < n) := fun h9 => h9.elim hz (fun h8 => by have h7 := c79.2; omega)
          refine W.skip ?_
          refine W.seq ?_
          refine W.region ?_
          refine WL.c rfl (o_mvh h5 ?_)
          refine WL.c rfl (n_mul (a := 10) 18446744073709551616 rfl (by decide) rfl rfl ?_)
          refine WL.c rfl (o_mvh (show _ = Value.int _ _ from rfl) ?_)
          refine WL.c rfl (n_add 18446744073709551616 rfl (by decide) rfl rfl ?_)
          refine WL.c rfl (o_ash (show _ = Value.int _ _ from rfl) ?_)
          refine WL.nil ?_
          refine W.region ?_
          refine WL.c rfl (o_mvh h0 ?_)
          refine WL.c rfl (o_nil rfl ?_)
          refine WL.c rfl (o_fa 1 TI134 rfl TI3 rfl rfl ?_)
          refine WL.c rfl (o_ld TI3 rfl rfl (cell_of h.cell rfl) ?_)
          refine WL.c rfl (o_addi rfl rfl (by omega) ?_)
          refine WL.c rfl (o_nil rfl ?_)
          refine WL.c rfl (o_fa 1 TI134 rfl TI3 rfl rfl ?_)
          refine WL.u (o_stB TI3 rfl (show _ = Value.int _ _ from rfl) rfl h.cell (show 1 < 4 by decide) ?_)
          intro w90 hB90 ho90 hs90
          replace h := h.move (j2 := j + (k + 1)) (bad2 := false) hB90 ho90
          replace ho := ho.trans' ho90 (fun _ h => h) (fun _ _ h => h)
          clear hB90 ho90 hs90
          refine WL.nil ?_
          have hnm2 : 10 * n + dg T[j + k] ≤ m := by omega
          have hmod : (10 * n % 18446744073709551616 + (T[j + k].toNat - 48) % 18446744073709551616) % 18446744073709551616 = 10 * n + dg T[j + k] := by omega
          exact ⟨T.length - (k + 1), by omega, 10 * n + dg T[j + k], k + 1, rfl, hnm2, h0, h1, by show Value.int _ _ = _; rw [hmod], h6, h, by omega, by rw [hn, hnx, if_neg hok], ho⟩
set_option maxHeartbeats 2000000 in
theorem ris_spec (B g : Nat) (T : List UInt8) (j : Nat) (nv : Value) (N : List Nd) (bad : Bool) (ch : UInt8) (w0 : World) (h : RdR w0 B g T j nv N bad) (hj : j ≤ T.length) (hT : T.length ≤ 1048576) : Ca Tryd.prog 72 #[.pointer (some ⟨g, 0, none⟩), .int .u8 (ch.toNat : Int)] w0 (fun r w' => ∃ b : Bool, r = .bool b ∧ (b = true ↔ bad = false ∧ T[j]? = some ch) ∧ Ext w0 w') := by
  refine Ca.of Tryd.func72 Tryd.ntmps72 rfl rfl ?_
  refine W.seq ?_
  refine W.region ?_
  refine WL.c rfl (o_ash (show _ = Value.bool _ from rfl) ?_)
  refine WL.nil ?_
  refine W.seq ?_
  rcases (show bad = true ∨ bad = false ∧ T.length ≤ j ∨ bad = false ∧ j < T.length by cases bad <;> first | exact .inl rfl | (right; rcases Nat.lt_or_ge j T.length with h | h; exact .inr ⟨rfl, h⟩; exact .inl ⟨rfl, h⟩)) with rfl | ⟨rfl, hA⟩ | ⟨rfl, hA⟩
  · skip
    skip
    refine W.quiet rfl (by kernel_rfl) ?_
    refine WQ.c rfl ((QO.o rfl fun _ => o_mvh (by first | exact (show _ = Value.pointer _ from rfl) | exact rfl) ⟨rfl, rfl⟩)) ?_
    refine WQ.c rfl ((QO.r fun _ => r_nil rfl)) ?_
    refine WQ.c rfl ((QO.o rfl fun _ => o_fa 3 TI134 rfl TI4 rfl rfl ⟨rfl, rfl⟩)) ?_
    refine WQ.c rfl ((QO.o rfl fun _ => o_ld TI4 rfl rfl (cell_of (h.ext (Only.drewN _ _)).cell rfl) ⟨rfl, rfl⟩)) ?_
    refine WQ.c rfl ((QO.o rfl fun _ => o_not' rfl ⟨rfl, rfl⟩)) ?_
    refine WQ.c rfl ((QO.o rfl fun _ => o_mvh (show _ = Value.bool _ from rfl) ⟨rfl, rfl⟩)) ?_
    refine WQ.s rfl (by simp) rfl ?_
    refine WQ.s rfl (by simp) rfl ?_
    refine WQ.s rfl (by simp) rfl ?_
    refine WQ.s rfl (by simp) rfl ?_
    refine WQ.s rfl (by simp) rfl ?_
    refine WQ.s rfl (by simp) rfl ?_
    refine WQ.s rfl (by simp) rfl ?_
    refine WQ.s rfl (by simp) rfl ?_
    refine WQ.s rfl (by simp) rfl ?_
    refine WQ.s rfl (by simp) rfl ?_
    refine WQ.c rfl ((QO.r fun _ => r_pickF rfl (by simp))) ?_
    refine WQ.c rfl ((QO.o rfl fun _ => o_mvh (show _ = Value.bool _ from rfl) ⟨rfl, rfl⟩)) ?_
    refine WQ.s rfl (rfl) rfl ?_
    refine WQ.s rfl (rfl) rfl ?_
    refine WQ.s rfl (rfl) rfl ?_
    refine WQ.s rfl (rfl) rfl ?_
    refine WQ.s rfl (rfl) rfl ?_
    refine WQ.s rfl (rfl) rfl ?_
    refine WQ.s rfl (rfl) rfl ?_
    refine WQ.s rfl (rfl) rfl ?_
    refine WQ.s rfl (rfl) rfl ?_
    refine WQ.s rfl (rfl) rfl ?_
    refine WQ.s rfl (rfl) rfl ?_
    refine WQ.c rfl ((QO.r fun _ => r_pickF rfl (rfl))) ?_
    refine WQ.c rfl ((QO.o rfl fun _ => o_ash (show _ = Value.bool _ from rfl) ⟨rfl, rfl⟩)) ?_
    refine WQ.nil ?_
    intro nq
    refine W.ret ?_
    refine ret1v rfl (show _ = Value.bool _ from rfl) ?_
    exact ⟨_, rfl, by simp, Only.drewN _ _⟩
  · skip
    skip
    refine W.quiet rfl (by kernel_rfl) ?_
    refine WQ.c rfl ((QO.o rfl fun _ => o_mvh (by first | exact (show _ = Value.pointer _ from rfl) | exact rfl) ⟨rfl, rfl⟩)) ?_
    refine WQ.c rfl ((QO.r fun _ => r_nil rfl)) ?_
    refine WQ.c rfl ((QO.o rfl fun _ => o_fa 3 TI134 rfl TI4 rfl rfl ⟨rfl, rfl⟩)) ?_
    refine WQ.c rfl ((QO.o rfl fun _ => o_ld TI4 rfl rfl (cell_of (h.ext (Only.drewN _ _)).cell rfl) ⟨rfl, rfl⟩)) ?_
    refine WQ.c rfl ((QO.o rfl fun _ => o_not' rfl ⟨rfl, rfl⟩)) ?_
    refine WQ.c rfl ((QO.o rfl fun _ => o_mvh (show _ = Value.bool _ from rfl) ⟨rfl, rfl⟩)) ?_
    refine WQ.g rfl (by simp) rfl ((QO.o rfl fun _ => o_mvh (by first | exact (show _ = Value.pointer _ from rfl) | exact rfl) ⟨rfl, rfl⟩)) ?_
    refine WQ.g rfl (by simp) rfl ((QO.r fun _ => r_nil rfl)) ?_
    refine WQ.g rfl (by simp) rfl ((QO.o rfl fun _ => o_fa 1 TI134 rfl TI3 rfl rfl ⟨rfl, rfl⟩)) ?_
    refine WQ.g rfl (by simp) rfl ((QO.o rfl fun _ => o_ld TI3 rfl rfl (cell_of (h.ext (Only.drewN _ _)).cell rfl) ⟨rfl, rfl⟩)) ?_
    refine WQ.g rfl (by simp) rfl ((QO.o rfl fun _ => o_mvh (by first | exact (show _ = Value.pointer _ from rfl) | exact rfl) ⟨rfl, rfl⟩)) ?_
    refine WQ.g rfl (by simp) rfl ((QO.r fun _ => r_nil rfl)) ?_
    refine WQ.g rfl (by simp) rfl ((QO.o rfl fun _ => o_fa 0 TI134 rfl TI9 rfl rfl ⟨rfl, rfl⟩)) ?_
    refine WQ.g rfl (by simp) rfl ((QO.o rfl fun _ => o_ld TI9 rfl rfl (cell_of (h.ext (Only.drewN _ _)).cell rfl) ⟨rfl, rfl⟩)) ?_
    refine WQ.g rfl (by simp) rfl ((QO.r fun _ => r_lenT TI9 rfl)) ?_
    refine WQ.g rfl (by simp) rfl ((QO.o rfl fun _ => o_lt rfl rfl ⟨rfl, rfl⟩)) ?_
    refine WQ.c rfl ((QO.r fun _ => r_pickA rfl rfl)) ?_
    refine WQ.c rfl ((QO.o rfl fun _ => o_mvh (show _ = Value.bool _ from rfl) ⟨rfl, rfl⟩)) ?_
    refine WQ.s rfl (by simp; omega) rfl ?_
    refine WQ.s rfl (by simp; omega) rfl ?_
    refine WQ.s rfl (by simp; omega) rfl ?_
    refine WQ.s rfl (by simp; omega) rfl ?_
    refine WQ.s rfl (by simp; omega) rfl ?_
    refine WQ.s rfl (by simp; omega) rfl ?_
    refine WQ.s rfl (by simp; omega) rfl ?_
    refine WQ.s rfl (by simp; omega) rfl ?_
    refine WQ.s rfl (by simp; omega) rfl ?_
    refine WQ.s rfl (by simp; omega) rfl ?_
    refine WQ.s rfl (by simp; omega) rfl ?_
    refine WQ.c rfl ((QO.r fun _ => r_pickF rfl (by simp; omega))) ?_
    refine WQ.c rfl ((QO.o rfl fun _ => o_ash (show _ = Value.bool _ from rfl) ⟨rfl, rfl⟩)) ?_
    refine WQ.nil ?_
    intro nq
    refine W.ret ?_
    refine ret1v rfl (show _ = Value.bool _ from rfl) ?_
    exact ⟨_, rfl, by simp [List.getElem?_eq_none hA], Only.drewN _ _⟩
  · skip
    skip
    refine W.quiet rfl (by kernel_rfl) ?_
    refine WQ.c rfl ((QO.o rfl fun _ => o_mvh (by first | exact (show _ = Value.pointer _ from rfl) | exact rfl) ⟨rfl, rfl⟩)) ?_
    refine WQ.c rfl ((QO.r fun _ => r_nil rfl)) ?_
    refine WQ.c rfl ((QO.o rfl fun _ => o_fa 3 TI134 rfl TI4 rfl rfl ⟨rfl, rfl⟩)) ?_
    refine WQ.c rfl ((QO.o rfl fun _ => o_ld TI4 rfl rfl (cell_of (h.ext (Only.drewN _ _)).cell rfl) ⟨rfl, rfl⟩)) ?_
    refine WQ.c rfl ((QO.o rfl fun _ => o_not' rfl ⟨rfl, rfl⟩)) ?_
    refine WQ.c rfl ((QO.o rfl fun _ => o_mvh (show _ = Value.bool _ from rfl) ⟨rfl, rfl⟩)) ?_
    refine WQ.g rfl (by simp) rfl ((QO.o rfl fun _ => o_mvh (by first | exact (show _ = Value.pointer _ from rfl) | exact rfl) ⟨rfl, rfl⟩)) ?_
    refine WQ.g rfl (by simp) rfl ((QO.r fun _ => r_nil rfl)) ?_
    refine WQ.g rfl (by simp) rfl ((QO.o rfl fun _ => o_fa 1 TI134 rfl TI3 rfl rfl ⟨rfl, rfl⟩)) ?_
    refine WQ.g rfl (by simp) rfl ((QO.o rfl fun _ => o_ld TI3 rfl rfl (cell_of (h.ext (Only.drewN _ _)).cell rfl) ⟨rfl, rfl⟩)) ?_
    refine WQ.g rfl (by simp) rfl ((QO.o rfl fun _ => o_mvh (by first | exact (show _ = Value.pointer _ from rfl) | exact rfl) ⟨rfl, rfl⟩)) ?_
    refine WQ.g rfl (by simp) rfl ((QO.r fun _ => r_nil rfl)) ?_
    refine WQ.g rfl (by simp) rfl ((QO.o rfl fun _ => o_fa 0 TI134 rfl TI9 rfl rfl ⟨rfl, rfl⟩)) ?_
    refine WQ.g rfl (by simp) rfl ((QO.o rfl fun _ => o_ld TI9 rfl rfl (cell_of (h.ext (Only.drewN _ _)).cell rfl) ⟨rfl, rfl⟩)) ?_
    refine WQ.g rfl (by simp) rfl ((QO.r fun _ => r_lenT TI9 rfl)) ?_
    refine WQ.g rfl (by simp) rfl ((QO.o rfl fun _ => o_lt rfl rfl ⟨rfl, rfl⟩)) ?_
    refine WQ.c rfl ((QO.r fun _ => r_pickA rfl rfl)) ?_
    refine WQ.c rfl ((QO.o rfl fun _ => o_mvh (show _ = Value.bool _ from rfl) ⟨rfl, rfl⟩)) ?_
    refine WQ.g rfl (by simp; omega) rfl ((QO.o rfl fun _ => o_mvh (by first | exact (show _ = Value.pointer _ from rfl) | exact rfl) ⟨rfl, rfl⟩)) ?_
    refine WQ.g rfl (by simp; omega) rfl ((QO.r fun _ => r_nil rfl)) ?_
    refine WQ.g rfl (by simp; omega) rfl ((QO.o rfl fun _ => o_fa 0 TI134 rfl TI9 rfl rfl ⟨rfl, rfl⟩)) ?_
    refine WQ.g rfl (by simp; omega) rfl ((QO.o rfl fun _ => o_ld TI9 rfl rfl (cell_of (h.ext (Only.drewN _ _)).cell rfl) ⟨rfl, rfl⟩)) ?_
    refine WQ.g rfl (by simp; omega) rfl ((QO.o rfl fun _ => o_mvh (by first | exact (show _ = Value.pointer _ from rfl) | exact rfl) ⟨rfl, rfl⟩)) ?_
    refine WQ.g rfl (by simp; omega) rfl ((QO.r fun _ => r_nil rfl)) ?_
    refine WQ.g rfl (by simp; omega) rfl ((QO.o rfl fun _ => o_fa 1 TI134 rfl TI3 rfl rfl ⟨rfl, rfl⟩)) ?_
    refine WQ.g rfl (by simp; omega) rfl ((QO.o rfl fun _ => o_ld TI3 rfl rfl (cell_of (h.ext (Only.drewN _ _)).cell rfl) ⟨rfl, rfl⟩)) ?_
    refine WQ.g rfl (by simp; omega) rfl ((QO.o rfl fun _ => o_idT TI9 rfl rfl (by omega) ⟨rfl, rfl⟩)) ?_
    refine WQ.g rfl (by simp; omega) rfl ((QO.o rfl fun _ => o_mvh (show _ = Value.int _ _ from rfl) ⟨rfl, rfl⟩)) ?_
    refine WQ.g rfl (by simp; omega) rfl ((QO.o rfl fun _ => o_eq rfl rfl ⟨rfl, rfl⟩)) ?_
    refine WQ.c rfl ((QO.r fun _ => r_pickA rfl rfl)) ?_
    refine WQ.c rfl ((QO.o rfl fun _ => o_ash (show _ = Value.bool _ from rfl) ⟨rfl, rfl⟩)) ?_
    refine WQ.nil ?_
    intro nq
    refine W.ret ?_
    refine ret1v rfl (show _ = Value.bool _ from rfl) ?_
    exact ⟨_, rfl, by simp [List.getElem?_eq_getElem hA]; constructor <;> intro hh; exact UInt8.toNat_inj.1 (by omega); exact ⟨hA, by rw [hh]⟩, Only.drewN _ _⟩
end Go.Proofs.YtgmjfcekeglhjaaDoor

set_option linter.unusedSimpArgs false
set_option linter.unusedVariables false
set_option maxRecDepth 100000
namespace Go.Proofs.YtgmjfcekeglhjaaDoor
open Go Go.Vc Go.RowKit Go.Proofs

theorem aftS_dig {c : UInt8} (hc : isD c = true) : ∀ (K : List Zf) (t : Vt), aftS t K c = none
  | [], t => rfl
  | f :: K, t => by
    have h := isD_lt hc
    have hn : ∀ d : UInt8, (d.toNat < 48 ∨ 57 < d.toNat) → c ≠ d := fun d hd he => by subst he; omega
    rw [aftS, if_neg (fun h2 => hn 44 (.inl (by decide)) h2.2.1)]
    unfold shutT
    split
    · exact aftS_dig hc K _
    · rename_i s l heq
      rw [if_neg]
      intro he
      subst he
      split at heq
      · exact hn 93 (.inr (by decide)) (by cases heq; rfl)
      · split at heq
        · exact hn 125 (.inr (by decide)) (by cases heq; rfl)
        · split at heq
          · exact hn 62 (.inr (by decide)) (by cases heq; rfl)
          · cases heq
theorem prs_same {m m' : Md} {K K' : List Zf} {c : UInt8} (h : stepZ m K c = stepZ m' K' c) (l : List UInt8) (i : Nat) : prsZ m K (c :: l) i = prsZ m' K' (c :: l) i := by rw [prs_cons, prs_cons, h]
theorem prs_nil {m m' : Md} {K K' : List Zf} (h : finZ m K = finZ m' K') (i : Nat) : prsZ m K [] i = prsZ m' K' [] i := by
  show (match finZ m K with | some t => (some t, 0) | none => (none, i)) = (match finZ m' K' with | some t => (some t, 0) | none => (none, i))
  rw [h]
theorem prs_nil_none {m : Md} {K : List Zf} (h : finZ m K = none) (i : Nat) : prsZ m K [] i = (none, i) := by
  show (match finZ m K with | some t => (some t, 0) | none => (none, i)) = _
  rw [h]
theorem numR_run (K : List Zf) : ∀ (l : List UInt8) (n k i : Nat), 0 < k →
    prsZ (.num n) K l i = prsZ (.aft (lf 1 (numR 18446744073709551615 n k l).1)) K (l.drop ((numR 18446744073709551615 n k l).2 - k)) (i + ((numR 18446744073709551615 n k l).2 - k))
  | [], n, k, i, hk => by
    rw [numR, List.drop_nil, Nat.sub_self]
    exact prs_nil rfl i
  | c :: l, n, k, i, hk => by
    rw [numR]
    by_cases hc : isD c = true
    · rw [if_pos hc]
      by_cases hb : (0 < k ∧ n = 0) ∨ (18446744073709551615 - dg c) / 10 < n
      · rw [if_pos hb, Nat.sub_self]
        exact prs_same (by rw [stepZ, if_pos hc, if_pos (by omega)]; exact (aftS_dig hc K _).symm) l i
      · rw [if_neg hb, prs_step (m' := .num (10 * n + dg c)) (K' := K) (by rw [stepZ, if_pos hc, if_neg (by omega)])]
        have ih := numR_run K l (10 * n + dg c) (k + 1) (i + 1) (by omega)
        have hle := (numR_le 18446744073709551615 l (10 * n + dg c) (k + 1)).1
        obtain ⟨d, hd⟩ : ∃ d, (numR 18446744073709551615 (10 * n + dg c) (k + 1) l).2 = k + 1 + d := ⟨_, (Nat.add_sub_cancel' hle).symm⟩
        rw [hd] at ih ⊢
        rw [show k + 1 + d - (k + 1) = d by omega, show i + 1 + d = i + (d + 1) by omega] at ih
        rw [show k + 1 + d - k = d + 1 by omega]
        exact ih
    · rw [if_neg hc, Nat.sub_self]
      exact prs_same (by rw [stepZ, if_neg hc]; rfl) l i
/-- behind a tag's digits -/
def tagE (n : Nat) (K : List Zf) (l : List UInt8) (i : Nat) : Option Vt × Nat := if (wordC [58] l).2 = true then prsZ .bgn (⟨6, n, .nil⟩ :: K) (l.drop 1) (i + 1) else (none, i)
theorem tagE_cons (n : Nat) (K : List Zf) (c : UInt8) (l : List UInt8) (i : Nat) : tagE n K (c :: l) i = if c = 58 then prsZ .bgn (⟨6, n, .nil⟩ :: K) l (i + 1) else (none, i) := by
  rw [tagE, wordC]
  by_cases h : c = 58
  · rw [if_pos h, if_pos h]; rfl
  · rw [if_neg h, if_neg h]; rfl
theorem tagR_run (K : List Zf) : ∀ (l : List UInt8) (n k i : Nat), 0 < k →
    prsZ (.tag n) K l i = tagE (numR 255 n k l).1 K (l.drop ((numR 255 n k l).2 - k)) (i + ((numR 255 n k l).2 - k))
  | [], n, k, i, hk => by
    rw [numR, List.drop_nil, Nat.sub_self]
    exact prs_nil_none rfl i
  | c :: l, n, k, i, hk => by
    rw [numR]
    by_cases hc : isD c = true
    · have hcc := isD_lt hc
      rw [if_pos hc]
      by_cases hb : (0 < k ∧ n = 0) ∨ (255 - dg c) / 10 < n
      · rw [if_pos hb, Nat.sub_self, List.drop_zero, tagE_cons, if_neg (fun h => by subst h; exact absurd hcc.2.2 (by decide))]
        exact prs_none (by rw [stepZ, if_pos hc, if_pos (by omega)]) l i
      · rw [if_neg hb, prs_step (m' := .tag (10 * n + dg c)) (K' := K) (by rw [stepZ, if_pos hc, if_neg (by omega)])]
        have ih := tagR_run K l (10 * n + dg c) (k + 1) (i + 1) (by omega)
        have hle := (numR_le 255 l (10 * n + dg c) (k + 1)).1
        obtain ⟨d, hd⟩ : ∃ d, (numR 255 (10 * n + dg c) (k + 1) l).2 = k + 1 + d := ⟨_, (Nat.add_sub_cancel' hle).symm⟩
        rw [hd] at ih ⊢
        rw [show k + 1 + d - (k + 1) = d by omega, show i + 1 + d = i + (d + 1) by omega] at ih
        rw [show k + 1 + d - k = d + 1 by omega]
        exact ih
    · rw [if_neg hc, Nat.sub_self, List.drop_zero, tagE_cons]
      by_cases h58 : c = 58
      · rw [if_pos h58, prs_step (m' := .bgn) (K' := ⟨6, n, .nil⟩ :: K) (by rw [stepZ, if_neg hc, if_pos h58])]
      · rw [if_neg h58]
        exact prs_none (by rw [stepZ, if_neg hc, if_neg h58]) l i
theorem numR_first {m : Nat} {c : UInt8} (hc : isD c = true) (l : List UInt8) : numR m 0 0 (c :: l) = numR m (dg c) 1 l := by
  rw [numR, if_pos hc, if_neg (by omega)]
  rw [show 10 * 0 + dg c = dg c by omega]
theorem bgn_digit {K : List Zf} {c : UInt8} (hc : isD c = true) : bgnS K c = some (.num (dg c), K) := by
  obtain ⟨h1, h2⟩ := isD_dg hc
  rw [h2, bgn_dig h1]
  congr 2
  rw [← h2]
/-- a number, from its beginning -/
theorem numR_start {c : UInt8} (hc : isD c = true) (K : List Zf) (l : List UInt8) (i : Nat) : 0 < (numR 18446744073709551615 0 0 (c :: l)).2 ∧
    prsZ .bgn K (c :: l) i = prsZ (.aft (lf 1 (numR 18446744073709551615 0 0 (c :: l)).1)) K ((c :: l).drop (numR 18446744073709551615 0 0 (c :: l)).2) (i + (numR 18446744073709551615 0 0 (c :: l)).2) := by
  rw [numR_first hc]
  have hle := (numR_le 18446744073709551615 l (dg c) 1).1
  refine ⟨by omega, ?_⟩
  rw [prs_step (m' := .num (dg c)) (K' := K) (show stepZ .bgn K c = _ from bgn_digit hc), numR_run K l (dg c) 1 (i + 1) (by decide)]
  obtain ⟨d, hd⟩ : ∃ d, (numR 18446744073709551615 (dg c) 1 l).2 = 1 + d := ⟨_, (Nat.add_sub_cancel' hle).symm⟩
  rw [hd, show 1 + d - 1 = d by omega, show i + 1 + d = i + (1 + d) by omega, show 1 + d = d + 1 by omega]
  rfl
/-- a tag, from behind its '<' -/
theorem tagR_start (K : List Zf) (l : List UInt8) (i : Nat) : prsZ .tag0 K l i = if (numR 255 0 0 l).2 = 0 then (none, i) else tagE (numR 255 0 0 l).1 K (l.drop (numR 255 0 0 l).2) (i + (numR 255 0 0 l).2) := by
  cases l with
  | nil =>
    rw [numR, if_pos rfl]
    exact prs_nil_none rfl i
  | cons c l =>
    by_cases hc : isD c = true
    · rw [numR_first hc]
      have hle := (numR_le 255 l (dg c) 1).1
      rw [if_neg (by omega), prs_step (m' := .tag (dg c)) (K' := K) (by rw [stepZ, if_pos hc]), tagR_run K l (dg c) 1 (i + 1) (by decide)]
      obtain ⟨d, hd⟩ : ∃ d, (numR 255 (dg c) 1 l).2 = 1 + d := ⟨_, (Nat.add_sub_cancel' hle).symm⟩
      rw [hd, show 1 + d - 1 = d by omega, show i + 1 + d = i + (1 + d) by omega, show 1 + d = d + 1 by omega]
      rfl
    · rw [numR, if_neg hc, if_pos rfl]
      exact prs_none (by rw [stepZ, if_neg hc]) l i
/-- a word, from its beginning -/
theorem word_start {a b : UInt8} {ws : List UInt8} {t : Option Vt} {K K' : List Zf} (h : bgnS K a = some (.word b ws t, K')) (l : List UInt8) (i : Nat) :
    prsZ .bgn K (a :: l) i = if (wordC (a :: b :: ws) (a :: l)).2 = true then goW K' t ((a :: l).drop (ws.length + 2)) (i + (ws.length + 2)) else (none, i + (wordC (a :: b :: ws) (a :: l)).1) := by
  rw [prs_step (m' := .word b ws t) (K' := K') (show stepZ .bgn K a = _ from h), word_run K' t ws b l (i + 1), wordC.eq_3 a (b :: ws), if_pos rfl]
  by_cases h2 : (wordC (b :: ws) l).2 = true
  · rw [if_pos h2, if_pos h2, show i + 1 + (ws.length + 1) = i + (ws.length + 2) by omega]
    rfl
  · rw [if_neg h2, if_neg h2]
    show (none, _) = (none, i + ((wordC (b :: ws) l).1 + 1))
    congr 1
    omega
/-- an open node closes -/
theorem cls_run {f : Zf} {t : Vt} {K : List Zf} {s : UInt8} (hs : shutT f.kind = [s]) : ∀ (l : List UInt8) (i : Nat), (l.head? = some 44 → ¬ ((f.kind = 3 ∨ f.kind = 4) ∧ (f.done.len : Int) + 1 < mostK f.kind)) →
    prsZ (.aft t) (f :: K) l i = if (wordC [s] l).2 = true then prsZ (.aft (clz f t)) K (l.drop 1) (i + 1) else (none, i)
  | [], i, _ => by
    refine prs_nil_none ?_ i
    show finA t (f :: K) = none
    rw [finA, if_neg (by rw [hs]; simp)]
  | c :: l, i, h => by
    have hstep : stepZ (.aft t) (f :: K) c = if c = s then some (.aft (clz f t), K) else none := by
      show aftS t (f :: K) c = _
      rw [aftS, if_neg (fun h2 => h (by rw [List.head?_cons, h2.2.1]) ⟨h2.1, h2.2.2⟩), hs]
    rw [wordC]
    by_cases hc : c = s
    · rw [if_pos hc] at hstep
      rw [if_pos hc, prs_step hstep]
      rfl
    · rw [if_neg hc] at hstep
      rw [if_neg hc, prs_none hstep]
      rfl
theorem some_run {f : Zf} {t : Vt} {K : List Zf} (hk : f.kind = 5) (l : List UInt8) (i : Nat) : prsZ (.aft t) (f :: K) l i = prsZ (.aft (clz f t)) K l i := by
  have hs : shutT f.kind = [] := by rw [hk]; rfl
  cases l with
  | nil => exact prs_nil (by show finA t (f :: K) = finA (clz f t) K; rw [finA, if_pos hs]) i
  | cons c l =>
    refine prs_same ?_ l i
    show aftS t (f :: K) c = aftS (clz f t) K c
    rw [aftS, if_neg (fun h => by rcases h.1 with h | h <;> omega), hs]
theorem comma_run {f : Zf} {t : Vt} {K : List Zf} (hk : f.kind = 3 ∨ f.kind = 4) (hm : (f.done.len : Int) + 1 < mostK f.kind) (l : List UInt8) (i : Nat) :
    prsZ (.aft t) (f :: K) (44 :: l) i = if (wordC [44, 32] (44 :: l)).2 = true then prsZ .bgn ({ f with done := f.done.snoc t } :: K) ((44 :: l).drop 2) (i + 2) else (none, i + (wordC [44, 32] (44 :: l)).1) := by
  have hstep : stepZ (.aft t) (f :: K) 44 = some (.word 32 [] none, { f with done := f.done.snoc t } :: K) := by
    show aftS t (f :: K) 44 = _
    rw [aftS, if_pos ⟨hk, rfl, hm⟩]
  rw [prs_step hstep, word_run _ none [] 32 l (i + 1), wordC.eq_3 44 [32], if_pos rfl]
  by_cases h2 : (wordC [32] l).2 = true
  · rw [if_pos h2, if_pos h2]
    rfl
  · rw [if_neg h2, if_neg h2]
    show (none, _) = (none, i + ((wordC [32] l).1 + 1))
    congr 1
    omega
theorem sq_run {K : List Zf} : ∀ (l : List UInt8) (i : Nat), l.head? ≠ some 93 → prsZ .sq1 K l i = prsZ .bgn (⟨3, 0, .nil⟩ :: K) l i
  | [], i, _ => prs_nil rfl i
  | c :: l, i, h => prs_same (by show (if c = 93 then some (Md.aft (lf 3 0), K) else bgnS (⟨3, 0, .nil⟩ :: K) c) = _; rw [if_neg (fun h2 => h (by rw [List.head?_cons, h2]))]; rfl) l i
theorem lf_flat (k : Int) (n : Nat) : (lf k n).flat = [⟨k, n, 0⟩] := by simp [lf, Vt.flat, Vts.flat]
theorem bgnS_cases (K : List Zf) (c : UInt8) (h1 : c ≠ 116) (h2 : c ≠ 102) (h3 : c ≠ 110) (h4 : c ≠ 115) (h5 : c ≠ 91) (h6 : c ≠ 123) (h7 : c ≠ 60) (h8 : ¬ isD c = true) : bgnS K c = none := by
  rw [bgnS, if_neg h1, if_neg h2, if_neg h3, if_neg h4, if_neg h5, if_neg h6, if_neg h7, if_neg h8]
/-- what a reading has come to, whatever is open -/
def VG (T : List UInt8) (S : List Zf → Option Vt × Nat) (j : Nat) (N N2 : List Nd) (bad : Bool) : Prop :=
  (bad = true → ∀ K, S K = (none, j)) ∧ (bad = false → ∃ t : Vt, N2 = N ++ t.flat ∧ ∀ K, S K = prsZ (.aft t) K (T.drop j) j)
def VPost (B g : Nat) (T : List UInt8) (i : Nat) (S : List Zf → Option Vt × Nat) (N N1 : List Nd) (w0 w' : World) : Prop :=
  ∃ (j : Nat) (nv2 : Value) (N2 : List Nd) (bad : Bool), RdR w' B g T j nv2 N2 bad ∧ i ≤ j ∧ j ≤ T.length ∧ (∃ M, N2 = N1 ++ M) ∧ N2.length ≤ j ∧ (bad = false → i < j) ∧ VG T S j N N2 bad ∧ Only (fun k => B ≤ k) w0 w'
def SVal (B g : Nat) (T : List UInt8) (i : Nat) : Prop := ∀ (nv : Value) (N : List Nd) (w0 : World), RdR w0 B g T i nv N false → i ≤ T.length → N.length ≤ i → Ca Tryd.prog 66 #[.pointer (some ⟨g, 0, none⟩)] w0 (fun _ w' => VPost B g T i (fun K => prsZ .bgn K (T.drop i) i) N N w0 w')
def SKids (B g : Nat) (T : List UInt8) (i : Nat) : Prop := ∀ (k : Int) (c : UInt8) (nv : Value) (N : List Nd) (w0 : World), (k = 3 ∨ k = 4) → shutT k = [c] → RdR w0 B g T i nv (N ++ [⟨k, 0, 0⟩]) false → i ≤ T.length → N.length + 1 ≤ i → Ca Tryd.prog 73 #[.pointer (some ⟨g, 0, none⟩), .int .i64 (N.length : Int), .int .i64 (mostK k), .int .u8 (c.toNat : Int)] w0 (fun _ w' => VPost B g T i (fun K => prsZ .bgn (⟨k, 0, .nil⟩ :: K) (T.drop i) i) N N w0 w')
theorem encB {c : UInt8} (h : c.toNat < 128) : Utf8.encode (c.toNat : Int) = ⟨#[c]⟩ := by
  have hv : Utf8.valid (c.toNat : Int) = true := by simp [Utf8.valid]; omega
  simp only [Utf8.encode, hv, if_true, Int.toNat_natCast]
  rw [if_pos (by omega)]
  simp
theorem o_cvIS {P : Program} {e : Env} {w : World} {K : Value → World → Prop} {ty : TypeId} {x : Operand} {t u : TypeId} {k : IntKind} {c : UInt8} {s b s' b' : Nat} {z z' : Value} (ht : Ty P t (.int k) s b z) (hu : Ty P u .string s' b' z') (hx : ev e x = .int k (c.toNat : Int)) (hc : c.toNat < 128) (kk : K (st [c]) w) : OP P e (.convert t u x) ty w K :=
  OP.of (by simp [execOp, hx, run_convert_int_string w t u k _ (by rw [ht.und]; rfl) hu.und, encB hc]) kk
theorem nds_setk {N R : List Nd} {k : Int} {n : Nat} {q q' : Int} : (nds (N ++ ⟨k, n, q⟩ :: R)).set (N.length * 3 + 2) (.int .i64 q') = nds (N ++ ⟨k, n, q'⟩ :: R) := by
  have hl : (nds N).length = N.length * 3 := nds_len N
  have e : ∀ q, nds (N ++ (⟨k, n, q⟩ : Nd) :: R) = nds N ++ (ndV ⟨k, n, q⟩ ++ nds R) := fun q => by simp [nds]
  rw [e, e, List.set_append_right _ _ (by omega), hl, Nat.add_sub_cancel_left]
  rfl
theorem nds_setn {N R : List Nd} {k : Int} {n n' : Nat} {q : Int} : (nds (N ++ ⟨k, n, q⟩ :: R)).set (N.length * 3 + 1) (.int .u64 (n' : Int)) = nds (N ++ ⟨k, n', q⟩ :: R) := by
  have hl : (nds N).length = N.length * 3 := nds_len N
  have e : ∀ n, nds (N ++ (⟨k, n, q⟩ : Nd) :: R) = nds N ++ (ndV ⟨k, n, q⟩ ++ nds R) := fun q => by simp [nds]
  rw [e, e, List.set_append_right _ _ (by omega), hl, Nat.add_sub_cancel_left]
  rfl
theorem RdR.put {w w' : World} {B g j : Nat} {T : List UInt8} {nv nv2 : Value} {N N2 : List Nd} {bad : Bool} (h : RdR w B g T j nv N bad) (hr : w'.ownsRow B 69 3 nv2 N2.length (nds N2)) (hc : w'.heap[g]? = some (.cells #[st T, .int .i64 (j : Int), nv2, .bool bad] 134 (0, 0))) : RdR w' B g T j nv2 N2 bad := ⟨hc, hr, h.hb⟩

end Go.Proofs.YtgmjfcekeglhjaaDoor

set_option linter.unusedSimpArgs false
set_option linter.unusedVariables false
set_option maxRecDepth 100000
namespace Go.Proofs.YtgmjfcekeglhjaaDoor
open Go Go.Vc Go.RowKit Go.Proofs

/-- what stands before the closing byte -/
def KFin (B g : Nat) (T : List UInt8) (i : Nat) (k : Int) (S : List Zf → Option Vt × Nat) (N : List Nd) (w0 w : World) : Prop :=
  ∃ (j : Nat) (nv : Value) (N2 : List Nd) (bad : Bool), RdR w B g T j nv N2 bad ∧ i ≤ j ∧ j ≤ T.length ∧ (∃ M, N2 = N ++ M) ∧ N2.length ≤ j ∧ (bad = true → ∀ K, S K = (none, j)) ∧
    (bad = false → i < j ∧ ∃ (t : Vt) (dn : Vts), N2 = N ++ (clz ⟨k, 0, dn⟩ t).flat ∧ (T[j]? = some 44 → ¬ (dn.len : Int) + 1 < mostK k) ∧ ∀ K, S K = prsZ (.aft t) (⟨k, 0, dn⟩ :: K) (T.drop j) j) ∧ Only (fun q => B ≤ q) w0 w
theorem nds_getk {N R : List Nd} {k q : Int} {n : Nat} : (nds (N ++ (⟨k, n, q⟩ : Nd) :: R))[N.length * 3 + 2]? = some (.int .i64 q) := by
  have h := nds_at (L := N ++ (⟨k, n, q⟩ : Nd) :: R) (p := N.length) (c := 2) (by simp) (by decide)
  rw [h]
  simp [ndV]
theorem shut_lt {k : Int} {c : UInt8} (h : shutT k = [c]) : c.toNat < 128 := by
  unfold shutT at h
  split at h
  · cases h; decide
  · split at h
    · cases h; decide
    · split at h
      · cases h; decide
      · cases h
theorem only_own {B : Nat} {el : TypeId} {s n : Nat} {v : Value} {xs : List Value} {w0 w w' : World} (h : w.ownsRow B el s v n xs) (ho : Only (fun k => B ≤ k) w0 w) (h2 : Only (fun k => v.ownBlock = some k) w w') : Only (fun k => B ≤ k) w0 w' :=
  ho.trans' h2 (fun _ h => h) (fun k _ hk => (h.lt k hk).1)
theorem one_word {c : UInt8} {l : List UInt8} : (wordC [c] l).2 = true → (wordC [c] l).1 = 1 := fun h => wordC_all [c] l h
theorem one_none {c : UInt8} {l : List UInt8} (h : (wordC [c] l).2 = false) : (wordC [c] l).1 = 0 := by
  cases l with
  | nil => rfl
  | cons d l =>
    rw [wordC] at h ⊢
    split at h
    · cases h
    · rename_i hd
      rw [if_neg hd]

set_option maxHeartbeats 4000000 in
theorem rkids_step (B g : Nat) (T : List UInt8) (i : Nat) (hT : T.length ≤ 1048576) (IH : ∀ i', i ≤ i' → SVal B g T i') (k : Int) (c : UInt8) (nv : Value) (N : List Nd) (w0 : World) (hk : k = 3 ∨ k = 4) (hs : shutT k = [c]) (h : RdR w0 B g T i nv (N ++ [⟨k, 0, 0⟩]) false) (hi : i ≤ T.length) (hN : N.length + 1 ≤ i) : Ca Tryd.prog 73 #[.pointer (some ⟨g, 0, none⟩), .int .i64 (N.length : Int), .int .i64 (mostK k), .int .u8 (c.toNat : Int)] w0 (fun _ w' => VPost B g T i (fun K => prsZ .bgn (⟨k, 0, .nil⟩ :: K) (T.drop i) i) N N w0 w') := by
  have hc128 := shut_lt hs
  have hmk : 1 < mostK k ∧ mostK k ≤ 1048576 := by rcases hk with rfl | rfl <;> decide
  refine Ca.of Tryd.func73 Tryd.ntmps73 rfl rfl ?_
  refine W.seq ?_
  refine W.block ?_
  refine W.loopN (fun q e w => ∃ (j : Nat) (nv : Value) (N2 : List Nd) (bad : Bool) (dn : Vts), q = T.length - j ∧ e 0 = .pointer (some ⟨g, 0, none⟩) ∧ e 1 = .int .i64 (N.length : Int) ∧ e 2 = .int .i64 (mostK k) ∧ e 3 = .int .u8 (c.toNat : Int) ∧ RdR w B g T j nv N2 bad ∧ i ≤ j ∧ j ≤ T.length ∧ (∃ M, N2 = N ++ M) ∧ N2.length ≤ j ∧ (bad = true → ∀ K, (fun K => prsZ .bgn (⟨k, 0, .nil⟩ :: K) (T.drop i) i) K = (none, j)) ∧ (bad = false → N2 = (N ++ (⟨k, 0, (dn.len : Int)⟩ : Nd) :: dn.flat) ∧ (dn.len : Int) < mostK k ∧ ∀ K, (fun K => prsZ .bgn (⟨k, 0, .nil⟩ :: K) (T.drop i) i) K = prsZ .bgn (⟨k, 0, dn⟩ :: K) (T.drop j) j) ∧ Only (fun q => B ≤ q) w0 w) ?_ ?_
  · exact ⟨_, i, nv, _, false, .nil, rfl, rfl, rfl, rfl, rfl, h, Nat.le_refl _, hi, ⟨_, rfl⟩, by simp; omega, fun h => (by cases h), fun _ => ⟨rfl, by show (0 : Int) < _; omega, fun K => rfl⟩, Only.refl _ _⟩
  rintro q e w ⟨j, nv, N2, bad, dn, hq, h0, h1, h2, h3, h, hij, hjT, hM, hNj, hbt, hbf, ho⟩
  refine W.seq ?_
  refine W.seq ?_
  refine W.region ?_
  refine WL.c rfl (o_mvh h0 ?_)
  refine WL.c rfl (o_nil rfl ?_)
  refine WL.c rfl (o_fa 3 TI134 rfl TI4 rfl rfl ?_)
  refine WL.c rfl (o_ld TI4 rfl rfl (cell_of h.cell rfl) ?_)
  refine WL.c rfl (o_not' rfl ?_)
  refine WL.nil ?_
  refine W.cond rfl (fun c12 => ?_) (fun c12 => ?_)
  · try simp only [decide_eq_true_eq, decide_eq_false_iff_not, Bool.not_eq_true', Bool.not_eq_false', Bool.and_eq_true, Bool.or_eq_true, Bool.and_eq_false_iff, Bool.or_eq_false_iff] at c12
    obtain rfl : bad = false := by simpa using c12
    obtain ⟨rfl, hdl, hrun0⟩ := hbf rfl
    refine W.skip ?_
    refine W.block ?_
    refine W.seq ?_
    refine W.region ?_
    refine WL.c rfl (o_mvh h0 ?_)
    refine WL.c rfl (o_call Tryd.call66 (lc rfl ln) ((IH j hij nv (N ++ (⟨k, 0, (dn.len : Int)⟩ : Nd) :: dn.flat) _ h hjT hNj).mono ?_))
    rintro v14 w14 ⟨j1, nv1, N3, bad1, h9, hj1, hj1T, ⟨M, rfl⟩, hNl, hlt, hvg, ho14⟩
    replace ho := ho.trans ho14
    clear h
    have h := h9
    clear h9 ho14
    rw [List.append_assoc, List.cons_append] at h hNl
    obtain ⟨ub, uc, rfl, hub⟩ := own_some h.nod (by simp; omega)
    refine WL.nil ?_
    refine W.seq ?_
    refine W.region ?_
    refine WL.c rfl (o_mvh h0 ?_)
    refine WL.c rfl (o_nil rfl ?_)
    refine WL.c rfl (o_fa 2 TI134 rfl TI30 rfl rfl ?_)
    refine WL.c rfl (o_ld TI30 rfl rfl (cell_of h.cell rfl) ?_)
    refine WL.c rfl (o_mvh h1 ?_)
    refine WL.c rfl (o_ixB (i := N.length) TI30 TI69 rfl (show _ = Value.int .i64 (N.length : Int) from by first | rfl | assumption) (by simp) ?_)
    refine WL.c rfl (o_fa 2 TI69 rfl TI3 rfl rfl ?_)
    refine WL.c rfl (o_ld TI3 rfl rfl (own_cell (j := 0 + N.length * 3 + 2) h.nod (by rw [Nat.zero_add]; exact nds_getk)) ?_)
    refine WL.c rfl (o_addi rfl rfl (by omega) ?_)
    refine WL.c rfl (o_ixB (i := N.length) TI30 TI69 rfl (show _ = Value.int .i64 (N.length : Int) from by first | rfl | assumption) (by simp) ?_)
    refine WL.c rfl (o_fa 2 TI69 rfl TI3 rfl rfl ?_)
    refine WL.u (o_stRj TI3 rfl (show 0 + N.length * 3 + 2 = N.length * 3 + 2 by omega) (show _ = Value.int .i64 ((dn.len : Int) + 1) from by first | rfl | assumption) rfl h.nod hub (by simp; omega) ?_)
    intro w25 hr25 ho25 hs25
    rw [nds_setk] at hr25
    replace ho := only_own h.nod ho ho25
    replace h : RdR w25 B g T j1 (Value.slice (some ⟨ub, 0, none⟩) _ uc) (N ++ (⟨k, 0, (dn.len : Int) + 1⟩ : Nd) :: (dn.flat ++ M)) bad1 := h.put (by rw [show (N ++ (⟨k, 0, (dn.len : Int) + 1⟩ : Nd) :: (dn.flat ++ M)).length = (N ++ (⟨k, 0, (dn.len : Int)⟩ : Nd) :: (dn.flat ++ M)).length by simp]; exact hr25) (ho25.blk h.cell h.offn)
    rw [show (N ++ (⟨k, 0, (dn.len : Int)⟩ : Nd) :: (dn.flat ++ M)).length = (N ++ (⟨k, 0, (dn.len : Int) + 1⟩ : Nd) :: (dn.flat ++ M)).length by simp] at h
    have hNl4 : (N ++ (⟨k, 0, (dn.len : Int) + 1⟩ : Nd) :: (dn.flat ++ M)).length ≤ j1 := by simp at hNl ⊢; omega
    clear hr25 ho25 hs25
    refine WL.nil ?_
    refine W.seq ?_
    refine W.seq ?_
    refine W.region ?_
    refine WL.c rfl (o_mvh h0 ?_)
    refine WL.c rfl (o_call Tryd.call72 (lc rfl (lc rfl ln)) ((ris_spec B g T j1 _ (N ++ (⟨k, 0, (dn.len : Int) + 1⟩ : Nd) :: (dn.flat ++ M)) bad1 44 _ h hj1T hT).mono ?_))
    rintro v27 w27 ⟨b27, rfl, hb27, hx27⟩
    replace h := h.ext hx27
    replace ho := ho.trans' hx27 (fun _ h => h) (fun _ _ h => h.elim)
    clear hx27
    refine WL.c rfl (o_not' rfl ?_)
    refine WL.c rfl (o_mvh (show _ = Value.bool _ from rfl) ?_)
    refine WL.sp 3 rfl (fun g29 => ?_) (fun g29 => ?_)
    · skip
      refine WL.s rfl (g29) rfl ?_
      refine WL.s rfl (g29) rfl ?_
      refine WL.s rfl (g29) rfl ?_
      refine WL.s rfl (g29) rfl ?_
      refine WL.s rfl (g29) rfl ?_
      refine WL.s rfl (g29) rfl ?_
      refine WL.s rfl (g29) rfl ?_
      refine WL.s rfl (g29) rfl ?_
      refine WL.s rfl (g29) rfl ?_
      refine WL.s rfl (g29) rfl ?_
      refine WL.c rfl (o_pickT rfl (g29) ?_)
      refine WL.nil ?_
      refine W.cond rfl (fun c40 => ?_) (fun c40 => ?_)
      · try simp only [decide_eq_true_eq, decide_eq_false_iff_not, Bool.not_eq_true', Bool.not_eq_false', Bool.and_eq_true, Bool.or_eq_true, Bool.and_eq_false_iff, Bool.or_eq_false_iff] at c40
        have hcl : b27 = true → mostK k ≤ (dn.len : Int) + 1 := fun hb => by first | (simp_all; done) | (simp_all; omega)
        have hfin : KFin B g T i k (fun K => prsZ .bgn (⟨k, 0, .nil⟩ :: K) (T.drop i) i) N w0 _ := ⟨j1, _, _, bad1, h, by omega, hj1T, ⟨_, rfl⟩, by simpa using hNl, fun hb K => by rw [hrun0 K]; exact hvg.1 hb _, fun hb => by
          obtain ⟨t, ht, hrt⟩ := hvg.2 hb
          have hlt1 := hlt hb
          refine ⟨by omega, t, dn, ?_, fun h44 hlt9 => ?_, fun K => by rw [hrun0 K]; exact hrt _⟩
          · simp only [List.append_assoc, List.cons_append] at ht
            have ht2 := List.append_cancel_left ht
            rw [List.cons.injEq] at ht2
            rw [clz_flat, ht2.2]
          · have := hcl (hb27.2 ⟨hb, h44⟩)
            omega, ho⟩
        refine W.exit ?_
        obtain ⟨j5, nv5, N5, bad5, h5, hij5, hjT5, hM5, hN5, hb5, hf5, ho5⟩ := hfin
        rcases bad5 with _ | _
        · skip
          obtain ⟨hlt5, t, dn5, hN5e, hc5, hr5⟩ := hf5 rfl
          have hwl5 := wordC_le [c] (T.drop j5)
          rw [List.length_drop] at hwl5
          refine W.region ?_
          refine WL.c rfl (o_mvh h0 ?_)
          refine WL.c rfl (o_mvh h3 ?_)
          refine WL.c rfl (o_cvIS TI5 TI9 (show _ = Value.int .u8 (c.toNat : Int) from by first | rfl | assumption) hc128 ?_)
          refine WL.c rfl (o_call Tryd.call71 (lc rfl (lc rfl ln)) ((rword_spec B g T j5 nv5 N5 [c] _ h5 hjT5 hT (by simp)).mono ?_))
          rintro v46 w46 ⟨h46, ho46⟩
          refine WL.nil ?_
          refine ret0 rfl ?_
          have hcr := fun K => cls_run (f := ⟨k, 0, dn5⟩) (t := t) (K := K) hs (T.drop j5) j5 (fun h2 h3 => hc5 (by rw [← h2, List.head?_drop]) h3.2)
          refine ⟨j5 + (wordC [c] (T.drop j5)).1, nv5, N5, _, h46, by omega, by omega, hM5, by omega, fun _ => by omega, ⟨fun hb K => ?_, fun hb => ⟨_, hN5e, fun K => ?_⟩⟩, ho5.trans' ho46 (fun _ h => h) (fun q _ hq => by subst hq; exact h5.hb)⟩
          · have hb2 : (wordC [c] (T.drop j5)).2 = false := by simpa using hb
            rw [hr5 K, hcr K, if_neg (by rw [hb2]; decide), one_none hb2]
            rfl
          · have hb2 : (wordC [c] (T.drop j5)).2 = true := by simpa using hb
            rw [hr5 K, hcr K, if_pos hb2, one_word hb2, List.drop_drop]
        · skip
          skip
          refine W.region ?_
          refine WL.c rfl (o_mvh h0 ?_)
          refine WL.c rfl (o_mvh h3 ?_)
          refine WL.c rfl (o_cvIS TI5 TI9 (show _ = Value.int .u8 (c.toNat : Int) from by first | rfl | assumption) hc128 ?_)
          refine WL.c rfl (o_call Tryd.call71 (lc rfl (lc rfl ln)) ((rword_bad B g T j5 nv5 N5 [c] _ h5 hjT5 hT (by simp)).mono ?_))
          rintro v46 w46 rfl
          refine WL.nil ?_
          refine ret0 rfl ?_
          exact ⟨j5, nv5, N5, true, h5, hij5, hjT5, hM5, hN5, fun h => (by cases h), ⟨fun _ => hb5 rfl, fun h => (by cases h)⟩, ho5⟩
      · try simp only [decide_eq_true_eq, decide_eq_false_iff_not, Bool.not_eq_true', Bool.not_eq_false', Bool.and_eq_true, Bool.or_eq_true, Bool.and_eq_false_iff, Bool.or_eq_false_iff] at c40
        obtain ⟨rfl, hlt2⟩ : b27 = true ∧ (dn.len : Int) + 1 < mostK k := by first | (simp_all; done) | (simp_all; omega)
        obtain ⟨rfl, h44⟩ := hb27.1 rfl
        obtain ⟨t, ht, hrt⟩ := hvg.2 rfl
        have hlt1 := hlt rfl
        have ht2 : dn.flat ++ M = dn.flat ++ t.flat := by
          simp only [List.append_assoc, List.cons_append] at ht
          have ht2 := List.append_cancel_left ht
          rw [List.cons.injEq] at ht2
          exact ht2.2
        have hrun : ∀ K, (fun K => prsZ .bgn (⟨k, 0, .nil⟩ :: K) (T.drop i) i) K = prsZ (.aft t) (⟨k, 0, dn⟩ :: K) (T.drop j1) j1 := fun K => by rw [hrun0 K]; exact hrt _
        obtain ⟨hj1l, hj44⟩ := List.getElem?_eq_some_iff.1 h44
        have hcm : T.drop j1 = 44 :: T.drop (j1 + 1) := by rw [← List.getElem_cons_drop hj1l, hj44]
        have hwl := wordC_le [44, 32] (T.drop j1)
        rw [List.length_drop] at hwl
        refine W.skip ?_
        refine W.region ?_
        refine WL.c rfl (o_mvh h0 ?_)
        refine WL.c rfl (o_call Tryd.call71 (lc rfl (lc rfl ln)) ((rword_spec B g T j1 _ (N ++ (⟨k, 0, (dn.len : Int) + 1⟩ : Nd) :: (dn.flat ++ M)) [44, 32] _ h hj1T hT (by decide)).mono ?_))
        rintro v42 w42 ⟨h9, ho42⟩
        clear h
        have h := h9
        clear h9
        replace ho := ho.trans' ho42 (fun _ h => h) (fun q _ hq => by subst hq; exact h.hb)
        refine WL.nil ?_
        exact ⟨T.length - (j1 + (wordC [44, 32] (T.drop j1)).1), by omega, j1 + (wordC [44, 32] (T.drop j1)).1, _, _, _, dn.snoc t, rfl, h0, h1, h2, h3, h, by omega, by omega, ⟨_, rfl⟩, by omega, fun hb K => by
          have hb2 : ¬ (wordC [44, 32] (T.drop j1)).2 = true := by simpa using hb
          rw [hrun K, hcm, comma_run hk hlt2, ← hcm, if_neg hb2], fun hb => by
          have hb2 : (wordC [44, 32] (T.drop j1)).2 = true := by simpa using hb
          refine ⟨by rw [snoc_len, snoc_flat, ht2]; push_cast; rfl, by rw [snoc_len]; push_cast; omega, fun K => ?_⟩
          rw [hrun K, hcm, comma_run hk hlt2, ← hcm, if_pos hb2, wordC_all _ _ hb2, List.drop_drop]
          rfl, ho⟩
    · skip
      refine WL.g rfl (g29) rfl (o_mvh h0 ?_)
      refine WL.g rfl (g29) rfl (o_nil rfl ?_)
      refine WL.g rfl (g29) rfl (o_fa 2 TI134 rfl TI30 rfl rfl ?_)
      refine WL.g rfl (g29) rfl (o_ld TI30 rfl rfl (cell_of h.cell rfl) ?_)
      refine WL.g rfl (g29) rfl (o_mvh h1 ?_)
      refine WL.g rfl (g29) rfl (o_ixB (i := N.length) TI30 TI69 (show _ = Value.slice (some ⟨ub, 0, none⟩) _ uc from by first | rfl | assumption) (show _ = Value.int .i64 (N.length : Int) from by first | rfl | assumption) (by simp) ?_)
      refine WL.g rfl (g29) rfl (o_fa 2 TI69 rfl TI3 rfl rfl ?_)
      refine WL.g rfl (g29) rfl (o_ld TI3 rfl rfl (own_cell (j := 0 + N.length * 3 + 2) h.nod (by rw [Nat.zero_add]; exact nds_getk)) ?_)
      refine WL.g rfl (g29) rfl (o_mvh h2 ?_)
      refine WL.g rfl (g29) rfl (o_ge rfl rfl ?_)
      refine WL.c rfl (o_pickO rfl rfl ?_)
      refine WL.nil ?_
      refine W.cond rfl (fun c40 => ?_) (fun c40 => ?_)
      · try simp only [decide_eq_true_eq, decide_eq_false_iff_not, Bool.not_eq_true', Bool.not_eq_false', Bool.and_eq_true, Bool.or_eq_true, Bool.and_eq_false_iff, Bool.or_eq_false_iff] at c40
        have hcl : b27 = true → mostK k ≤ (dn.len : Int) + 1 := fun hb => by first | (simp_all; done) | (simp_all; omega)
        have hfin : KFin B g T i k (fun K => prsZ .bgn (⟨k, 0, .nil⟩ :: K) (T.drop i) i) N w0 _ := ⟨j1, _, _, bad1, h, by omega, hj1T, ⟨_, rfl⟩, by simpa using hNl, fun hb K => by rw [hrun0 K]; exact hvg.1 hb _, fun hb => by
          obtain ⟨t, ht, hrt⟩ := hvg.2 hb
          have hlt1 := hlt hb
          refine ⟨by omega, t, dn, ?_, fun h44 hlt9 => ?_, fun K => by rw [hrun0 K]; exact hrt _⟩
          · simp only [List.append_assoc, List.cons_append] at ht
            have ht2 := List.append_cancel_left ht
            rw [List.cons.injEq] at ht2
            rw [clz_flat, ht2.2]
          · have := hcl (hb27.2 ⟨hb, h44⟩)
            omega, ho⟩
        refine W.exit ?_
        obtain ⟨j5, nv5, N5, bad5, h5, hij5, hjT5, hM5, hN5, hb5, hf5, ho5⟩ := hfin
        rcases bad5 with _ | _
        · skip
          obtain ⟨hlt5, t, dn5, hN5e, hc5, hr5⟩ := hf5 rfl
          have hwl5 := wordC_le [c] (T.drop j5)
          rw [List.length_drop] at hwl5
          refine W.region ?_
          refine WL.c rfl (o_mvh h0 ?_)
          refine WL.c rfl (o_mvh h3 ?_)
          refine WL.c rfl (o_cvIS TI5 TI9 (show _ = Value.int .u8 (c.toNat : Int) from by first | rfl | assumption) hc128 ?_)
          refine WL.c rfl (o_call Tryd.call71 (lc rfl (lc rfl ln)) ((rword_spec B g T j5 nv5 N5 [c] _ h5 hjT5 hT (by simp)).mono ?_))
          rintro v46 w46 ⟨h46, ho46⟩
          refine WL.nil ?_
          refine ret0 rfl ?_
          have hcr := fun K => cls_run (f := ⟨k, 0, dn5⟩) (t := t) (K := K) hs (T.drop j5) j5 (fun h2 h3 => hc5 (by rw [← h2, List.head?_drop]) h3.2)
          refine ⟨j5 + (wordC [c] (T.drop j5)).1, nv5, N5, _, h46, by omega, by omega, hM5, by omega, fun _ => by omega, ⟨fun hb K => ?_, fun hb => ⟨_, hN5e, fun K => ?_⟩⟩, ho5.trans' ho46 (fun _ h => h) (fun q _ hq => by subst hq; exact h5.hb)⟩
          · have hb2 : (wordC [c] (T.drop j5)).2 = false := by simpa using hb
            rw [hr5 K, hcr K, if_neg (by rw [hb2]; decide), one_none hb2]
            rfl
          · have hb2 : (wordC [c] (T.drop j5)).2 = true := by simpa using hb
            rw [hr5 K, hcr K, if_pos hb2, one_word hb2, List.drop_drop]
        · skip
          skip
          refine W.region ?_
          refine WL.c rfl (o_mvh h0 ?_)
          refine WL.c rfl (o_mvh h3 ?_)
          refine WL.c rfl (o_cvIS TI5 TI9 (show _ = Value.int .u8 (c.toNat : Int) from by first | rfl | assumption) hc128 ?_)
          refine WL.c rfl (o_call Tryd.call71 (lc rfl (lc rfl ln)) ((rword_bad B g T j5 nv5 N5 [c] _ h5 hjT5 hT (by simp)).mono ?_))
          rintro v46 w46 rfl
          refine WL.nil ?_
          refine ret0 rfl ?_
          exact ⟨j5, nv5, N5, true, h5, hij5, hjT5, hM5, hN5, fun h => (by cases h), ⟨fun _ => hb5 rfl, fun h => (by cases h)⟩, ho5⟩
      · try simp only [decide_eq_true_eq, decide_eq_false_iff_not, Bool.not_eq_true', Bool.not_eq_false', Bool.and_eq_true, Bool.or_eq_true, Bool.and_eq_false_iff, Bool.or_eq_false_iff] at c40
        obtain ⟨rfl, hlt2⟩ : b27 = true ∧ (dn.len : Int) + 1 < mostK k := by first | (simp_all; done) | (simp_all; omega)
        obtain ⟨rfl, h44⟩ := hb27.1 rfl
        obtain ⟨t, ht, hrt⟩ := hvg.2 rfl
        have hlt1 := hlt rfl
        have ht2 : dn.flat ++ M = dn.flat ++ t.flat := by
          simp only [List.append_assoc, List.cons_append] at ht
          have ht2 := List.append_cancel_left ht
          rw [List.cons.injEq] at ht2
          exact ht2.2
        have hrun : ∀ K, (fun K => prsZ .bgn (⟨k, 0, .nil⟩ :: K) (T.drop i) i) K = prsZ (.aft t) (⟨k, 0, dn⟩ :: K) (T.drop j1) j1 := fun K => by rw [hrun0 K]; exact hrt _
        obtain ⟨hj1l, hj44⟩ := List.getElem?_eq_some_iff.1 h44
        have hcm : T.drop j1 = 44 :: T.drop (j1 + 1) := by rw [← List.getElem_cons_drop hj1l, hj44]
        have hwl := wordC_le [44, 32] (T.drop j1)
        rw [List.length_drop] at hwl
        refine W.skip ?_
        refine W.region ?_
        refine WL.c rfl (o_mvh h0 ?_)
        refine WL.c rfl (o_call Tryd.call71 (lc rfl (lc rfl ln)) ((rword_spec B g T j1 _ (N ++ (⟨k, 0, (dn.len : Int) + 1⟩ : Nd) :: (dn.flat ++ M)) [44, 32] _ h hj1T hT (by decide)).mono ?_))
        rintro v42 w42 ⟨h9, ho42⟩
        clear h
        have h := h9
        clear h9
        replace ho := ho.trans' ho42 (fun _ h => h) (fun q _ hq => by subst hq; exact h.hb)
        refine WL.nil ?_
        exact ⟨T.length - (j1 + (wordC [44, 32] (T.drop j1)).1), by omega, j1 + (wordC [44, 32] (T.drop j1)).1, _, _, _, dn.snoc t, rfl, h0, h1, h2, h3, h, by omega, by omega, ⟨_, rfl⟩, by omega, fun hb K => by
          have hb2 : ¬ (wordC [44, 32] (T.drop j1)).2 = true := by simpa using hb
          rw [hrun K, hcm, comma_run hk hlt2, ← hcm, if_neg hb2], fun hb => by
          have hb2 : (wordC [44, 32] (T.drop j1)).2 = true := by simpa using hb
          refine ⟨by rw [snoc_len, snoc_flat, ht2]; push_cast; rfl, by rw [snoc_len]; push_cast; omega, fun K => ?_⟩
          rw [hrun K, hcm, comma_run hk hlt2, ← hcm, if_pos hb2, wordC_all _ _ hb2, List.drop_drop]
          rfl, ho⟩
  · try simp only [decide_eq_true_eq, decide_eq_false_iff_not, Bool.not_eq_true', Bool.not_eq_false', Bool.and_eq_true, Bool.or_eq_true, Bool.and_eq_false_iff, Bool.or_eq_false_iff] at c12
    obtain rfl : bad = true := by simpa using c12
    have hfin : KFin B g T i k (fun K => prsZ .bgn (⟨k, 0, .nil⟩ :: K) (T.drop i) i) N w0 w := ⟨j, nv, N2, true, h, hij, hjT, hM, hNj, hbt, fun h => (by cases h), ho⟩
    refine W.exit ?_
    obtain ⟨j5, nv5, N5, bad5, h5, hij5, hjT5, hM5, hN5, hb5, hf5, ho5⟩ := hfin
    rcases bad5 with _ | _
    · skip
      obtain ⟨hlt5, t, dn5, hN5e, hc5, hr5⟩ := hf5 rfl
      have hwl5 := wordC_le [c] (T.drop j5)
      rw [List.length_drop] at hwl5
      refine W.region ?_
      refine WL.c rfl (o_mvh h0 ?_)
      refine WL.c rfl (o_mvh h3 ?_)
      refine WL.c rfl (o_cvIS TI5 TI9 (show _ = Value.int .u8 (c.toNat : Int) from by first | rfl | assumption) hc128 ?_)
      refine WL.c rfl (o_call Tryd.call71 (lc rfl (lc rfl ln)) ((rword_spec B g T j5 nv5 N5 [c] _ h5 hjT5 hT (by simp)).mono ?_))
      rintro v46 w46 ⟨h46, ho46⟩
      refine WL.nil ?_
      refine ret0 rfl ?_
      have hcr := fun K => cls_run (f := ⟨k, 0, dn5⟩) (t := t) (K := K) hs (T.drop j5) j5 (fun h2 h3 => hc5 (by rw [← h2, List.head?_drop]) h3.2)
      refine ⟨j5 + (wordC [c] (T.drop j5)).1, nv5, N5, _, h46, by omega, by omega, hM5, by omega, fun _ => by omega, ⟨fun hb K => ?_, fun hb => ⟨_, hN5e, fun K => ?_⟩⟩, ho5.trans' ho46 (fun _ h => h) (fun q _ hq => by subst hq; exact h5.hb)⟩
      · have hb2 : (wordC [c] (T.drop j5)).2 = false := by simpa using hb
        rw [hr5 K, hcr K, if_neg (by rw [hb2]; decide), one_none hb2]
        rfl
      · have hb2 : (wordC [c] (T.drop j5)).2 = true := by simpa using hb
        rw [hr5 K, hcr K, if_pos hb2, one_word hb2, List.drop_drop]
    · skip
      skip
      refine W.region ?_
      refine WL.c rfl (o_mvh h0 ?_)
      refine WL.c rfl (o_mvh h3 ?_)
      refine WL.c rfl (o_cvIS TI5 TI9 (show _ = Value.int .u8 (c.toNat : Int) from by first | rfl | assumption) hc128 ?_)
      refine WL.c rfl (o_call Tryd.call71 (lc rfl (lc rfl ln)) ((rword_bad B g T j5 nv5 N5 [c] _ h5 hjT5 hT (by simp)).mono ?_))
      rintro v46 w46 rfl
      refine WL.nil ?_
      refine ret0 rfl ?_
      exact ⟨j5, nv5, N5, true, h5, hij5, hjT5, hM5, hN5, fun h => (by cases h), ⟨fun _ => hb5 rfl, fun h => (by cases h)⟩, ho5⟩
end Go.Proofs.YtgmjfcekeglhjaaDoor

set_option linter.unusedSimpArgs false
set_option linter.unusedVariables false
set_option maxRecDepth 100000
namespace Go.Proofs.YtgmjfcekeglhjaaDoor
open Go Go.Vc Go.RowKit Go.Proofs

theorem one_all {l : List Value} (h : (l.all fun a => a.oneCell') = true) : ∀ a ∈ l, a.oneCell' = true := List.all_eq_true.1 h
theorem ch_eq {c d : UInt8} (h : (c.toNat : Int) = (d.toNat : Int)) : c = d := UInt8.toNat_inj.1 (by omega)
theorem ch_ne {c d : UInt8} (h : ¬ (c.toNat : Int) = (d.toNat : Int)) : c ≠ d := fun he => h (by rw [he])
theorem wordC_first {a : UInt8} {ws l : List UInt8} : 1 ≤ (wordC (a :: ws) (a :: l)).1 := by rw [wordC, if_pos rfl]; exact Nat.le_add_left _ _
section
variable {B g i : Nat} {T : List UInt8} {N : List Nd} {nv : Value} {w0 w1 w' : World}
theorem drop_at {a : UInt8} (hi : i < T.length) (ha : T[i] = a) : T.drop i = a :: T.drop (i + 1) := by rw [← List.getElem_cons_drop hi, ha]
theorem leaf_post {a b : UInt8} {ws : List UInt8} {k : Int} {n : Nat} (hi : i < T.length) (ha : T[i] = a) (hb : ∀ K, bgnS K a = some (.word b ws (some (lf k n)), K)) (hN : N.length ≤ i)
    (h : RdR w' B g T (i + (wordC (a :: b :: ws) (T.drop i)).1) nv (N ++ [⟨k, n, 0⟩]) (!(wordC (a :: b :: ws) (T.drop i)).2)) (ho : Only (fun q => B ≤ q) w0 w') : VPost B g T i (fun K => prsZ .bgn K (T.drop i) i) N N w0 w' := by
  have hd := drop_at hi ha
  have hle := wordC_le (a :: b :: ws) (T.drop i)
  rw [List.length_drop] at hle
  have h1 : 1 ≤ (wordC (a :: b :: ws) (T.drop i)).1 := by rw [hd]; exact wordC_first
  have hst := fun K => word_start (hb K) (T.drop (i + 1)) i
  simp only [← hd] at hst
  refine ⟨_, nv, _, _, h, by omega, by omega, ⟨_, rfl⟩, by simp; omega, fun _ => by omega, ⟨fun hb2 K => ?_, fun hb2 => ⟨lf k n, by rw [lf_flat], fun K => ?_⟩⟩, ho⟩
  · show prsZ .bgn K (T.drop i) i = _
    rw [hst K, if_neg (by simpa using hb2)]
  · have hb3 : (wordC (a :: b :: ws) (T.drop i)).2 = true := by simpa using hb2
    show prsZ .bgn K (T.drop i) i = _
    rw [hst K, if_pos hb3, wordC_all _ _ hb3, List.drop_drop]
    rfl
theorem some_start (hi : i < T.length) (ha : T[i] = 115) (K : List Zf) : prsZ .bgn K (T.drop i) i = if (wordC [115, 111, 109, 101, 32] (T.drop i)).2 = true then prsZ .bgn (⟨5, 0, .nil⟩ :: K) (T.drop (i + 5)) (i + 5) else (none, i + (wordC [115, 111, 109, 101, 32] (T.drop i)).1) := by
  have hd := drop_at hi ha
  have hst := word_start (a := 115) (b := 111) (ws := [109, 101, 32]) (t := none) (K := K) (K' := ⟨5, 0, .nil⟩ :: K) rfl (T.drop (i + 1)) i
  rw [← hd, List.drop_drop] at hst
  exact hst
theorem some_bad (hi : i < T.length) (ha : T[i] = 115) (hN : N.length ≤ i) (hw : (wordC [115, 111, 109, 101, 32] (T.drop i)).2 = false) (h : RdR w' B g T (i + (wordC [115, 111, 109, 101, 32] (T.drop i)).1) nv (N ++ [⟨5, 0, 1⟩]) true) (ho : Only (fun q => B ≤ q) w0 w') : VPost B g T i (fun K => prsZ .bgn K (T.drop i) i) N N w0 w' := by
  have hd := drop_at hi ha
  have hle := wordC_le [115, 111, 109, 101, 32] (T.drop i)
  rw [List.length_drop] at hle
  have h1 : 1 ≤ (wordC [115, 111, 109, 101, 32] (T.drop i)).1 := by rw [hd]; exact wordC_first
  refine ⟨_, nv, _, _, h, by omega, by omega, ⟨_, rfl⟩, by simp; omega, fun hb => (by cases hb), ⟨fun _ K => ?_, fun hb2 => (by cases hb2)⟩, ho⟩
  show prsZ .bgn K (T.drop i) i = _
  rw [some_start hi ha K, if_neg (by rw [hw]; decide)]
theorem some_post (hi : i < T.length) (ha : T[i] = 115) (hw : (wordC [115, 111, 109, 101, 32] (T.drop i)).2 = true) (ho : Only (fun q => B ≤ q) w0 w1) (hv : VPost B g T (i + 5) (fun K => prsZ .bgn K (T.drop (i + 5)) (i + 5)) (N ++ [⟨5, 0, 1⟩]) (N ++ [⟨5, 0, 1⟩]) w1 w') : VPost B g T i (fun K => prsZ .bgn K (T.drop i) i) N N w0 w' := by
  obtain ⟨j, nv2, N2, bad, h, hij, hjT, ⟨M, rfl⟩, hl, hlt, hvg, ho2⟩ := hv
  have hst : ∀ K, prsZ .bgn K (T.drop i) i = prsZ .bgn (⟨5, 0, .nil⟩ :: K) (T.drop (i + 5)) (i + 5) := fun K => by rw [some_start hi ha K, if_pos hw]
  refine ⟨j, nv2, _, bad, h, by omega, hjT, ⟨[⟨5, 0, 1⟩] ++ M, by simp⟩, hl, fun _ => by omega, ⟨fun hb K => (hst K).trans (hvg.1 hb _), fun hb => ?_⟩, ho.trans ho2⟩
  obtain ⟨t, ht, hr⟩ := hvg.2 hb
  refine ⟨clz ⟨5, 0, .nil⟩ t, by rw [ht, clz_flat]; simp [Vts.len, Vts.flat], fun K => ?_⟩
  show prsZ .bgn K (T.drop i) i = _
  rw [hst K]
  exact (hr _).trans (some_run rfl _ _)
theorem sq_post (hi : i < T.length) (ha : T[i] = 91) (h2 : T[i + 1]? = some 93) (hN : N.length ≤ i) (h : RdR w' B g T (i + 1 + 1) nv (N ++ [⟨3, 0, 0⟩]) false) (ho : Only (fun q => B ≤ q) w0 w') : VPost B g T i (fun K => prsZ .bgn K (T.drop i) i) N N w0 w' := by
  obtain ⟨hl2, h3⟩ := List.getElem?_eq_some_iff.1 h2
  refine ⟨_, nv, _, _, h, by omega, by omega, ⟨_, rfl⟩, by simp; omega, fun _ => by omega, ⟨fun hb => (by cases hb), fun _ => ⟨lf 3 0, by rw [lf_flat], fun K => ?_⟩⟩, ho⟩
  show prsZ .bgn K (T.drop i) i = _
  rw [drop_at hi ha, prs_step (m' := .sq1) (K' := K) rfl, drop_at hl2 h3, prs_step (m' := .aft (lf 3 0)) (K' := K) rfl]
theorem VPost.lift {i' : Nat} {S S' : List Zf → Option Vt × Nat} (h : VPost B g T i' S' N N w1 w') (hii : i < i') (hS : ∀ K, S K = S' K) (ho : Only (fun q => B ≤ q) w0 w1) : VPost B g T i S N N w0 w' := by
  obtain ⟨j, nv2, N2, bad, h, hij, hjT, hM, hl, hlt, hvg, ho2⟩ := h
  refine ⟨j, nv2, _, bad, h, by omega, hjT, hM, hl, fun _ => by omega, ⟨fun hb K => (hS K).trans (hvg.1 hb _), fun hb => ?_⟩, ho.trans ho2⟩
  obtain ⟨t, ht, hr⟩ := hvg.2 hb
  exact ⟨t, ht, fun K => (hS K).trans (hr K)⟩
theorem sq_kids (hi : i < T.length) (ha : T[i] = 91) (h2 : ¬ T[i + 1]? = some 93) (K : List Zf) : prsZ .bgn K (T.drop i) i = prsZ .bgn (⟨3, 0, .nil⟩ :: K) (T.drop (i + 1)) (i + 1) := by
  rw [drop_at hi ha, prs_step (m' := .sq1) (K' := K) rfl]
  exact sq_run _ _ (by rw [List.head?_drop]; exact h2)
theorem br_kids (hi : i < T.length) (ha : T[i] = 123) (K : List Zf) : prsZ .bgn K (T.drop i) i = prsZ .bgn (⟨4, 0, .nil⟩ :: K) (T.drop (i + 1)) (i + 1) := by
  rw [drop_at hi ha, prs_step (m' := .bgn) (K' := ⟨4, 0, .nil⟩ :: K) rfl]
theorem tag_start (hi : i < T.length) (ha : T[i] = 60) (K : List Zf) : prsZ .bgn K (T.drop i) i = if (numR 255 0 0 (T.drop (i + 1))).2 = 0 then (none, i + 1) else tagE (numR 255 0 0 (T.drop (i + 1))).1 K (T.drop (i + 1 + (numR 255 0 0 (T.drop (i + 1))).2)) (i + 1 + (numR 255 0 0 (T.drop (i + 1))).2) := by
  rw [drop_at hi ha, prs_step (m' := .tag0) (K' := K) rfl, tagR_start K (T.drop (i + 1)) (i + 1), List.drop_drop]
theorem bad_post {j : Nat} {N2 : List Nd} (hij : i ≤ j) (hjT : j ≤ T.length) (h : RdR w' B g T j nv N2 true) (hM : ∃ M, N2 = N ++ M) (hl : N2.length ≤ j) (hS : ∀ K, prsZ .bgn K (T.drop i) i = (none, j)) (ho : Only (fun q => B ≤ q) w0 w') : VPost B g T i (fun K => prsZ .bgn K (T.drop i) i) N N w0 w' :=
  ⟨j, nv, N2, true, h, hij, hjT, hM, hl, fun hb => (by cases hb), ⟨fun _ => hS, fun hb => (by cases hb)⟩, ho⟩
theorem num_post (hi : i < T.length) (hd : isD T[i] = true) (hN : N.length ≤ i) (h : RdR w' B g T (i + (numR 18446744073709551615 0 0 (T.drop i)).2) nv (N ++ [⟨1, (numR 18446744073709551615 0 0 (T.drop i)).1, 0⟩]) (decide ((numR 18446744073709551615 0 0 (T.drop i)).2 = 0))) (ho : Only (fun q => B ≤ q) w0 w') : VPost B g T i (fun K => prsZ .bgn K (T.drop i) i) N N w0 w' := by
  have hle := (numR_le 18446744073709551615 (T.drop i) 0 0).2
  rw [List.length_drop] at hle
  have hst := fun K => numR_start hd K (T.drop (i + 1)) i
  simp only [← drop_at hi rfl] at hst
  have hp := (hst []).1
  rw [decide_eq_false (by omega)] at h
  refine ⟨_, nv, _, _, h, by omega, by omega, ⟨_, rfl⟩, by simp; omega, fun _ => by omega, ⟨fun hb => (by cases hb), fun _ => ⟨lf 1 _, by rw [lf_flat], fun K => ?_⟩⟩, ho⟩
  show prsZ .bgn K (T.drop i) i = _
  rw [(hst K).2, List.drop_drop]
end
/-- what may change while a number is read and put down -/
def RsN (g : Nat) (nv : Value) : Nat → World → World → Prop
  | 0, a, b => Only (fun q => q = g ∨ nv.ownBlock = some q) a b ∧ ∀ v, a.cell? ⟨g, 0 + 2, none⟩ = some v → b.cell? ⟨g, 0 + 2, none⟩ = some v
  | 1, a, b => Only (fun q => nv.ownBlock = some q) a b
  | _ + 2, a, b => Ext a b
theorem RsN.e (g : Nat) (nv : Value) : ∀ s a b, Ext a b → RsN g nv s a b
  | 0, a, b, h => ⟨h.mono (fun _ _ h => h.elim), fun v hv => h.cell hv (fun h => h)⟩
  | 1, a, b, h => Only.mono h (fun _ _ h => h.elim)
  | _ + 2, a, b, h => h
theorem RsN.a {g : Nat} {nv : Value} (hn : ¬ nv.ownBlock = some g) : ∀ s a b, RsN g nv (s + 1) a b → RsN g nv s a b
  | 0, a, b, h => ⟨Only.mono (show Only (fun q => nv.ownBlock = some q) a b from h) (fun _ _ h => .inr h), fun v hv => Only.cell (show Only (fun q => nv.ownBlock = some q) a b from h) hv hn⟩
  | 1, a, b, h => Only.mono (show Ext a b from h) (fun _ _ h => h.elim)
  | _ + 2, a, b, h => h
theorem RsN.t (g : Nat) (nv : Value) : ∀ a b c, RsN g nv 0 a b → RsN g nv 0 b c → RsN g nv 0 a c := fun a b c h k => ⟨h.1.trans k.1, fun v hv => k.2 v (h.2 v hv)⟩
def WdN (B g : Nat) (T : List UInt8) (j j2 : Nat) (nv : Value) (N : List Nd) (b2 : Bool) : Nat → World → Prop
  | 0, w => RdR w B g T j nv N false
  | _ + 1, w => RdR w B g T j2 nv N b2
theorem WdN.ext {B g : Nat} {T : List UInt8} {j j2 : Nat} {nv : Value} {N : List Nd} {b2 : Bool} : ∀ t a b, WdN B g T j j2 nv N b2 t a → Ext a b → WdN B g T j j2 nv N b2 t b
  | 0, a, b, h, k => RdR.ext h k
  | _ + 1, a, b, h, k => RdR.ext h k

set_option maxHeartbeats 1000000 in
theorem rvalue_bad (B g : Nat) (T : List UInt8) (j : Nat) (nv : Value) (N : List Nd) (w0 : World) (h : RdR w0 B g T j nv N true) (hj : j ≤ T.length) (hT : T.length ≤ 1048576) : Ca Tryd.prog 66 #[.pointer (some ⟨g, 0, none⟩)] w0 (fun _ w' => RdR w' B g T j nv N true ∧ Only (fun k => k = g) w0 w') := by
  have ho : Only (fun k => k = g) w0 w0 := Only.refl _ _
  refine Ca.of Tryd.func66 Tryd.ntmps66 rfl rfl ?_
  refine W.seq ?_
  refine W.seq ?_
  refine W.quiet rfl (by kernel_rfl) ?_
  refine WQ.c rfl ((QO.o rfl fun _ => o_mvh (by first | exact (show _ = Value.pointer _ from rfl) | exact rfl) ⟨rfl, rfl⟩)) ?_
  refine WQ.c rfl ((QO.r fun _ => r_nil rfl)) ?_
  refine WQ.c rfl ((QO.o rfl fun _ => o_fa 3 TI134 rfl TI4 rfl rfl ⟨rfl, rfl⟩)) ?_
  refine WQ.c rfl ((QO.o rfl fun _ => o_ld TI4 rfl rfl (cell_of h.cell rfl) ⟨rfl, rfl⟩)) ?_
  refine WQ.c rfl ((QO.o rfl fun _ => o_mvh (show _ = Value.bool _ from rfl) ⟨rfl, rfl⟩)) ?_
  refine WQ.s rfl (by simp) rfl ?_
  refine WQ.s rfl (by simp) rfl ?_
  refine WQ.s rfl (by simp) rfl ?_
  refine WQ.s rfl (by simp) rfl ?_
  refine WQ.s rfl (by simp) rfl ?_
  refine WQ.s rfl (by simp) rfl ?_
  refine WQ.s rfl (by simp) rfl ?_
  refine WQ.s rfl (by simp) rfl ?_
  refine WQ.s rfl (by simp) rfl ?_
  refine WQ.s rfl (by simp) rfl ?_
  refine WQ.c rfl ((QO.r fun _ => r_pickT rfl (by simp))) ?_
  refine WQ.nil ?_
  intro nq
  have hq := Only.drewN w0 nq
  replace h := h.ext hq
  replace ho := ho.trans' hq (fun _ h => h) (fun _ _ h => h.elim)
  generalize World.drewN w0 nq = wq0 at *
  clear hq
  refine W.condT' rfl (rfl) ?_
  refine W.seq ?_
  refine W.region ?_
  refine WL.c rfl (o_mvh (by first | exact (show _ = Value.pointer _ from rfl) | exact rfl) ?_)
  refine WL.c rfl (o_nil rfl ?_)
  refine WL.c rfl (o_fa 3 TI134 rfl TI4 rfl rfl ?_)
  refine WL.u (o_stB TI4 rfl (show _ = Value.bool _ from rfl) rfl h.cell (show 3 < 4 by decide) ?_)
  intro w22 hB22 ho22 hs22
  replace h := h.move (j2 := j) (bad2 := true) hB22 ho22
  replace ho := ho.trans' ho22 (fun _ h => h) (fun _ _ h => h)
  clear hB22 ho22 hs22
  refine WL.nil ?_
  refine W.ret ?_
  refine ret0 rfl ?_
  exact ⟨h, ho⟩
set_option maxHeartbeats 16000000 in
theorem rval_step (B g : Nat) (T : List UInt8) (i : Nat) (hT : T.length ≤ 1048576) (IHv : ∀ i', i < i' → SVal B g T i') (IHk : ∀ i', i < i' → SKids B g T i') (nv : Value) (N : List Nd) (w0 : World) (h : RdR w0 B g T i nv N false) (hi : i ≤ T.length) (hN : N.length ≤ i) : Ca Tryd.prog 66 #[.pointer (some ⟨g, 0, none⟩)] w0 (fun _ w' => VPost B g T i (fun K => prsZ .bgn K (T.drop i) i) N N w0 w') := by
  have ho : Only (fun q => B ≤ q) w0 w0 := Only.refl _ _
  refine Ca.of Tryd.func66 Tryd.ntmps66 rfl rfl ?_
  refine W.seq ?_
  refine W.seq ?_
  rcases Nat.lt_or_ge i T.length with hA | hA
  · skip
    skip
    refine W.quiet rfl (by kernel_rfl) ?_
    refine WQ.c rfl ((QO.o rfl fun _ => o_mvh (by first | exact (show _ = Value.pointer _ from rfl) | exact rfl) ⟨rfl, rfl⟩)) ?_
    refine WQ.c rfl ((QO.r fun _ => r_nil rfl)) ?_
    refine WQ.c rfl ((QO.o rfl fun _ => o_fa 3 TI134 rfl TI4 rfl rfl ⟨rfl, rfl⟩)) ?_
    refine WQ.c rfl ((QO.o rfl fun _ => o_ld TI4 rfl rfl (cell_of h.cell rfl) ⟨rfl, rfl⟩)) ?_
    refine WQ.c rfl ((QO.o rfl fun _ => o_mvh (show _ = Value.bool _ from rfl) ⟨rfl, rfl⟩)) ?_
    refine WQ.g rfl (by simp) rfl ((QO.o rfl fun _ => o_mvh (by first | exact (show _ = Value.pointer _ from rfl) | exact rfl) ⟨rfl, rfl⟩)) ?_
    refine WQ.g rfl (by simp) rfl ((QO.r fun _ => r_nil rfl)) ?_
    refine WQ.g rfl (by simp) rfl ((QO.o rfl fun _ => o_fa 1 TI134 rfl TI3 rfl rfl ⟨rfl, rfl⟩)) ?_
    refine WQ.g rfl (by simp) rfl ((QO.o rfl fun _ => o_ld TI3 rfl rfl (cell_of h.cell rfl) ⟨rfl, rfl⟩)) ?_
    refine WQ.g rfl (by simp) rfl ((QO.o rfl fun _ => o_mvh (by first | exact (show _ = Value.pointer _ from rfl) | exact rfl) ⟨rfl, rfl⟩)) ?_
    refine WQ.g rfl (by simp) rfl ((QO.r fun _ => r_nil rfl)) ?_
    refine WQ.g rfl (by simp) rfl ((QO.o rfl fun _ => o_fa 0 TI134 rfl TI9 rfl rfl ⟨rfl, rfl⟩)) ?_
    refine WQ.g rfl (by simp) rfl ((QO.o rfl fun _ => o_ld TI9 rfl rfl (cell_of h.cell rfl) ⟨rfl, rfl⟩)) ?_
    refine WQ.g rfl (by simp) rfl ((QO.r fun _ => r_lenT TI9 rfl)) ?_
    refine WQ.g rfl (by simp) rfl ((QO.o rfl fun _ => o_ge rfl rfl ⟨rfl, rfl⟩)) ?_
    refine WQ.c rfl ((QO.r fun _ => r_pickO rfl rfl)) ?_
    refine WQ.nil ?_
    intro nq
    have hq := Only.drewN w0 nq
    replace h := h.ext hq
    replace ho := ho.trans' hq (fun _ h => h) (fun _ _ h => h.elim)
    generalize World.drewN w0 nq = wq0 at *
    clear hq
    refine W.condF' rfl (by simp; omega) ?_
    refine W.skip ?_
    refine W.seq ?_
    refine W.region ?_
    refine WL.c rfl (o_mvh (by first | exact (show _ = Value.pointer _ from rfl) | exact rfl) ?_)
    refine WL.c rfl (o_nil rfl ?_)
    refine WL.c rfl (o_fa 2 TI134 rfl TI30 rfl rfl ?_)
    refine WL.c rfl (o_ld TI30 rfl rfl (cell_of h.cell rfl) ?_)
    refine WL.c rfl (o_lenR TI30 rfl (Sl.own h.nod) ?_)
    refine WL.c rfl (o_ash (show _ = Value.int _ _ from rfl) ?_)
    refine WL.nil ?_
    refine W.seq ?_
    refine W.quiet rfl (by kernel_rfl) ?_
    refine WQ.c rfl ((QO.o rfl fun _ => o_mvh (by first | exact (show _ = Value.pointer _ from rfl) | exact rfl) ⟨rfl, rfl⟩)) ?_
    refine WQ.c rfl ((QO.r fun _ => r_nil rfl)) ?_
    refine WQ.c rfl ((QO.o rfl fun _ => o_fa 0 TI134 rfl TI9 rfl rfl ⟨rfl, rfl⟩)) ?_
    refine WQ.c rfl ((QO.o rfl fun _ => o_ld TI9 rfl rfl (cell_of h.cell rfl) ⟨rfl, rfl⟩)) ?_
    refine WQ.c rfl ((QO.o rfl fun _ => o_mvh (by first | exact (show _ = Value.pointer _ from rfl) | exact rfl) ⟨rfl, rfl⟩)) ?_
    refine WQ.c rfl ((QO.r fun _ => r_nil rfl)) ?_
    refine WQ.c rfl ((QO.o rfl fun _ => o_fa 1 TI134 rfl TI3 rfl rfl ⟨rfl, rfl⟩)) ?_
    refine WQ.c rfl ((QO.o rfl fun _ => o_ld TI3 rfl rfl (cell_of h.cell rfl) ⟨rfl, rfl⟩)) ?_
    refine WQ.c rfl ((QO.o rfl fun _ => o_idT TI9 rfl rfl (hA) ⟨rfl, rfl⟩)) ?_
    refine WQ.c rfl ((QO.o rfl fun _ => o_ash (show _ = Value.int _ _ from rfl) ⟨rfl, rfl⟩)) ?_
    refine WQ.nil ?_
    intro nq
    have hq := Only.drewN wq0 nq
    replace h := h.ext hq
    replace ho := ho.trans' hq (fun _ h => h) (fun _ _ h => h.elim)
    generalize World.drewN wq0 nq = wq3 at *
    clear hq
    refine W.block ?_
    refine W.seq ?_
    refine W.region ?_
    refine WL.cut (fun e1 w1 => e1 40 = .bool (isD T[i]) ∧ e1 0 = .pointer (some ⟨g, 0, none⟩) ∧ e1 2 = .int .i64 (N.length : Int) ∧ e1 3 = .int .u8 (T[i].toNat : Int) ∧ w1 = wq3) ?_ ?_
    · -- region 5
      refine WL.c rfl (o_mvh (show _ = Value.int _ _ from rfl) ?_)
      refine WL.c rfl (o_ge rfl rfl ?_)
      refine WL.c rfl (o_mvh (show _ = Value.bool _ from rfl) ?_)
      refine WL.sp 2 rfl (fun g43 => ?_) (fun g43 => ?_)
      · skip
        refine WL.g rfl (g43) rfl (o_mvh (show _ = Value.int _ _ from rfl) ?_)
        refine WL.g rfl (g43) rfl (o_le rfl rfl ?_)
        refine WL.c rfl (o_pickA rfl rfl ?_)
        refine WL.c rfl (o_ash (show _ = Value.bool _ from rfl) ?_)
        exact WL.nil (⟨congrArg Value.bool (by rw [Bool.eq_iff_iff]; simp [isD]; first | omega | (simp_all; done) | (simp_all; omega)), by first | assumption | rfl, by first | assumption | rfl, by first | assumption | rfl, rfl⟩)
      · skip
        refine WL.s rfl (g43) rfl ?_
        refine WL.s rfl (g43) rfl ?_
        refine WL.c rfl (o_pickF rfl (g43) ?_)
        refine WL.c rfl (o_ash (show _ = Value.bool _ from rfl) ?_)
        exact WL.nil (⟨congrArg Value.bool (by rw [Bool.eq_iff_iff]; simp [isD]; first | omega | (simp_all; done) | (simp_all; omega)), by first | assumption | rfl, by first | assumption | rfl, by first | assumption | rfl, rfl⟩)
    rintro e w ⟨h40, h0, h2, h3, hw1⟩
    subst hw1
    refine W.cond h40 (fun c40 => ?_) (fun c40 => ?_)
    · try simp only [decide_eq_true_eq, decide_eq_false_iff_not, Bool.not_eq_true', Bool.not_eq_false', Bool.and_eq_true, Bool.or_eq_true, Bool.and_eq_false_iff, Bool.or_eq_false_iff] at c40
      have hd : isD T[i] = true := by simpa using c40
      obtain ⟨R, hR9⟩ : ∃ R, R = numR 18446744073709551615 0 0 (T.drop i) := ⟨_, rfl⟩
      have hng : ¬ nv.ownBlock = some g := h.offn
      obtain ⟨wd, hwd⟩ : ∃ wd, wd = w.drew := ⟨_, rfl⟩
      have hxd : Ext w wd := hwd ▸ Only.drew w
      replace h := h.ext hxd
      replace ho := ho.trans' hxd (fun _ h => h) (fun _ _ h => h.elim)
      have hvl : ∀ q, nv.ownBlock = some q → q < wd.heap.size := fun q hq => (h.nod.lt q hq).2
      have hvb : ∀ q, nv.ownBlock = some q → B ≤ q := fun q hq => (h.nod.lt q hq).1
      have hszB := h.sz
      refine W.drawC 10 [6, 9] (RsN g nv) (WdN B g T (i) (i + R.2) nv N (decide (R.2 = 0))) [(0, fun v _ => v = (Value.pointer (some ⟨g, 0, none⟩)))] rfl (by kernel_rfl) (by kernel_rfl) (RsN.e g _) (RsN.a hng) (RsN.t g _) (WdN.ext (j := i) (j2 := i + R.2)) (show RdR _ B g T (i) _ _ false from hwd ▸ h) ⟨Mono.eq, trivial⟩ ⟨h0, trivial⟩ ?_
      refine WDS.p rfl (by decide) (fun e w hR hh => by obtain ⟨h0, -⟩ := hh; exact SG.n (o_mvh h0 ⟨rfl, Only.refl No _⟩)) ?_
      refine WDS.p rfl (by decide) (fun e w hR hh => by obtain ⟨h0, -⟩ := hh; exact SG.n (o_mvh h0 ⟨rfl, Only.refl No _⟩)) ?_
      refine WDS.p rfl (by decide) (fun e w hR hh => by obtain ⟨h48, -⟩ := hh; exact SG.n (o_nil h48 ⟨rfl, Only.refl No _⟩)) ?_
      refine WDS.p rfl (by decide) (fun e w hR hh => by obtain ⟨h49, -⟩ := hh; exact SG.n (o_fa 2 TI134 rfl TI30 rfl h49 ⟨rfl, Only.refl No _⟩)) ?_
      refine WDS.p rfl (by decide) (fun e w hR hh => by obtain ⟨h50, -⟩ := hh; rw [← hwd] at hR; exact SG.n (o_ld TI30 rfl h50 (hR.2 _ (cell_of h.cell rfl)) ⟨rfl, Only.refl No _⟩)) ?_
      refine WDS.p rfl (by decide) (fun e w hR hh => by obtain ⟨h0, -⟩ := hh; exact SG.n (o_mvh h0 ⟨rfl, Only.refl No _⟩)) ?_
      refine WDS.m 0 0 (fun v _ => v = _) (Mono.eq) (by kernel_rfl) rfl rfl (fun e w hR hW hh => by obtain ⟨h52, -⟩ := hh; rw [← hwd] at hR; exact SGX.n (OP.x (o_call Tryd.call70 (lc h52 (lc rfl ln)) ((rrnumber_spec B g T i nv N 18446744073709551615 w (show RdR w B g T i nv N false from hW) hi hT (by decide) (by decide)).mono (fun v w' ⟨h1, h2, h3⟩ => by rw [← hR9] at h1 h2; exact ⟨h1, ⟨h3.mono (fun _ _ hq => .inl hq), fun v hv => by have e1 := cell_of (RdR.cell (show RdR w B g T i nv N false from hW)) (show _[0 + 2]? = some nv from rfl); rw [hv] at e1; cases e1; exact cell_of h2.cell rfl⟩, h2⟩))))) ?_
      refine WDS.p rfl (by decide) (fun e w hR hh => by obtain ⟨h53, -⟩ := hh; exact SG.n (o_bldC (cs := [(.int .i64 1), _, (.int .i64 0)]) TI69 (Sizes.cons TI3 (Sizes.cons TI43 (Sizes.cons TI3 Sizes.nil))) rfl (lcp (show _ = Value.int _ _ from rfl) (lcp h53 lnp)) rfl rfl ⟨rfl, Only.refl No _⟩)) ?_
      refine WDS.q 1 (fun v w => w.ownsRow wd.heap.size 69 3 v 1 (ndV ⟨1, R.1, 0⟩)) (fun v w w2 hR hh => own_only hh (show Only (fun q => nv.ownBlock = some q) w w2 from hR) (fun k hk hF => by have h1 := (hh.lt k hk).1; have h2 := hvl k hF; omega)) (by kernel_rfl) rfl (by decide) (fun e w hR hh => by obtain ⟨h54, -⟩ := hh; rw [← hwd] at hR; exact SG.n (o_bs1 TI30 TI69 (show _ = Value.agg (ndV ⟨1, R.1, 0⟩).toArray from h54) (by decide) (by decide) rfl ⟨own_mono (own_new1 rfl) hR.1.size, Only.alloc w _⟩)) ?_
      refine WDS.m 1 2 (fun v w => w.ownsRow B 69 3 v (N.length + 1) (nds N ++ ndV ⟨1, R.1, 0⟩)) (fun v w w2 hR hh => own_ext hh (show Ext w w2 from hR)) (by kernel_rfl) rfl rfl (fun e w hR hW hh => by obtain ⟨h55, h51, -⟩ := hh; rw [← hwd] at hR; exact SGX.n (OP.x (o_apO B TI30 TI69 (show _ = nv from h51) rfl (RdR.nod (show RdR w B g T (i + R.2) nv N (decide (R.2 = 0)) from hW)) (Sl.own h55) rfl (by decide) (fun a ha => by simp [ndV] at ha; rcases ha with rfl | rfl | rfl <;> rfl) (by rw [maxLen_eq]; omega) (by omega) (by have := hR.1.size; omega) (fun v' w' h1 h2 h3 h4 => ⟨h1, h2, ⟨h2.blk (RdR.cell (show RdR w B g T (i + R.2) nv N (decide (R.2 = 0)) from hW)) hng, h4.1, h.hb⟩⟩)))) ?_
      rintro e w hR hW ⟨h56, h55, h54, h53, h52, h51, h50, h49, h48, h47, h0, -⟩
      rw [← hwd] at hR
      obtain ⟨v56, hv56⟩ : ∃ v, v = e 56 := ⟨_, rfl⟩
      rw [← hv56] at h56
      have h2 : RdR w B g T (i + R.2) nv N (decide (R.2 = 0)) := hW
      have hg := h2.cell
      have hown : w.ownsRow B 69 3 v56 (N ++ [(⟨1, R.1, 0⟩ : Nd)]).length (nds (N ++ [(⟨1, R.1, 0⟩ : Nd)])) := by rw [nds_snoc, List.length_append]; exact h56
      replace ho := ho.trans' hR.1 (fun _ h => h) (fun q _ hq => by rcases hq with rfl | hq; exact h.hb; exact hvb q hq)
      refine WL.c rfl (o_nil h47 ?_)
      refine WL.c rfl (o_fa 2 TI134 rfl TI30 rfl rfl ?_)
      refine WL.u (o_stB TI30 rfl (show _ = v56 from hv56.symm) (own_one hown) hg (show 2 < 4 by decide) ?_)
      intro w58 hB58 ho58 hs58
      have h9 : RdR w58 B g T (i + R.2) v56 (N ++ [(⟨1, R.1, 0⟩ : Nd)]) (decide (R.2 = 0)) := ⟨hB58, own_only hown ho58 (fun k hk he => by subst he; exact own_off hown hg (by decide) hk), h.hb⟩
      replace ho := ho.trans' ho58 (fun _ h => h) (fun q _ hq => by subst hq; exact h.hb)
      subst hR9
      have hpost : VPost B g T i (fun K => prsZ .bgn K (T.drop i) i) N N w0 _ := num_post hA hd hN h9 ho
      refine WL.nil ?_
      exact ret0 rfl hpost
    · try simp only [decide_eq_true_eq, decide_eq_false_iff_not, Bool.not_eq_true', Bool.not_eq_false', Bool.and_eq_true, Bool.or_eq_true, Bool.and_eq_false_iff, Bool.or_eq_false_iff] at c40
      have hd : ¬ isD T[i] = true := by simpa using c40
      refine W.seq ?_
      refine W.region ?_
      refine WL.c rfl (o_mvh h3 ?_)
      refine WL.c rfl (o_eq rfl rfl ?_)
      refine WL.c rfl (o_ash (show _ = Value.bool _ from rfl) ?_)
      refine WL.nil ?_
      refine W.cond rfl (fun c59 => ?_) (fun c59 => ?_)
      · try simp only [decide_eq_true_eq, decide_eq_false_iff_not, Bool.not_eq_true', Bool.not_eq_false', Bool.and_eq_true, Bool.or_eq_true, Bool.and_eq_false_iff, Bool.or_eq_false_iff] at c59
        have hch : T[i] = 116 := ch_eq (d := 116) (by simpa using c59)
        refine W.seq ?_
        refine W.region ?_
        refine WL.c rfl (o_mvh h0 ?_)
        refine WL.c rfl (o_mvh h0 ?_)
        refine WL.c rfl (o_nil rfl ?_)
        refine WL.c rfl (o_fa 2 TI134 rfl TI30 rfl rfl ?_)
        refine WL.c rfl (o_ld TI30 rfl rfl (cell_of h.cell rfl) ?_)
        refine WL.c rfl (o_bldC (cs := [(.int .i64 2), (.int .u64 1), (.int .i64 0)]) TI69 (Sizes.cons TI3 (Sizes.cons TI43 (Sizes.cons TI3 Sizes.nil))) rfl (lcp (show _ = Value.int _ _ from rfl) (lcp (show _ = Value.int _ _ from rfl) lnp)) rfl rfl ?_)
        refine WL.ap1 (B) rfl rfl TI30 TI69 rfl rfl h.nod (by decide) (by decide) rfl (one_all (by first | rfl | decide)) rfl (by rw [maxLen_eq]; omega) (by omega) h.sz ?_
        intro v69 w69 hown ho69
        have hcell := ho69.blk h.cell h.offn
        replace ho := only_own h.nod ho ho69
        replace hown : w69.ownsRow B 69 3 v69 (N ++ [(⟨2, 1, 0⟩ : Nd)]).length (nds (N ++ [(⟨2, 1, 0⟩ : Nd)])) := by rw [nds_snoc, List.length_append]; exact hown
        refine WL.c rfl (o_nil rfl ?_)
        refine WL.c rfl (o_fa 2 TI134 rfl TI30 rfl rfl ?_)
        refine WL.u (o_stB TI30 rfl (show _ = v69 from rfl) (own_one hown) hcell (show 2 < 4 by decide) ?_)
        intro w71 hB71 ho71 hs71
        have h9 : RdR w71 B g T i v69 (N ++ [(⟨2, 1, 0⟩ : Nd)]) false := ⟨hB71, own_only hown ho71 (fun k hk he => by subst he; exact own_off hown hcell (by decide) hk), h.hb⟩
        replace ho := ho.trans' ho71 (fun _ h => h) (fun q _ hq => by subst hq; exact h9.hb)
        clear h hcell hown hB71 ho71 hs71
        have h := h9
        clear h9
        refine WL.nil ?_
        refine W.region ?_
        refine WL.c rfl (o_mvh h0 ?_)
        refine WL.c rfl (o_call Tryd.call71 (lc rfl (lc rfl ln)) ((rword_spec B g T i _ (N ++ [⟨2, 1, 0⟩]) [116, 114, 117, 101] _ h hi hT (by decide)).mono ?_))
        rintro v73 w73 ⟨h9, ho73⟩
        replace ho := ho.trans' ho73 (fun _ h => h) (fun q _ hq => by subst hq; exact h.hb)
        clear h
        have h := h9
        clear h9
        have hpost : VPost B g T i (fun K => prsZ .bgn K (T.drop i) i) N N w0 _ := leaf_post hA hch (fun _ => rfl) hN h ho
        refine WL.nil ?_
        exact ret0 rfl hpost
      · try simp only [decide_eq_true_eq, decide_eq_false_iff_not, Bool.not_eq_true', Bool.not_eq_false', Bool.and_eq_true, Bool.or_eq_true, Bool.and_eq_false_iff, Bool.or_eq_false_iff] at c59
        have hn116 : T[i] ≠ 116 := ch_ne (d := 116) (by simpa using c59)
        refine W.seq ?_
        refine W.region ?_
        refine WL.c rfl (o_mvh h3 ?_)
        refine WL.c rfl (o_eq rfl rfl ?_)
        refine WL.c rfl (o_ash (show _ = Value.bool _ from rfl) ?_)
        refine WL.nil ?_
        refine W.cond rfl (fun c74 => ?_) (fun c74 => ?_)
        · try simp only [decide_eq_true_eq, decide_eq_false_iff_not, Bool.not_eq_true', Bool.not_eq_false', Bool.and_eq_true, Bool.or_eq_true, Bool.and_eq_false_iff, Bool.or_eq_false_iff] at c74
          have hch : T[i] = 102 := ch_eq (d := 102) (by simpa using c74)
          refine W.seq ?_
          refine W.region ?_
          refine WL.c rfl (o_mvh h0 ?_)
          refine WL.c rfl (o_mvh h0 ?_)
          refine WL.c rfl (o_nil rfl ?_)
          refine WL.c rfl (o_fa 2 TI134 rfl TI30 rfl rfl ?_)
          refine WL.c rfl (o_ld TI30 rfl rfl (cell_of h.cell rfl) ?_)
          refine WL.c rfl (o_bldC (cs := [(.int .i64 2), (.int .u64 0), (.int .i64 0)]) TI69 (Sizes.cons TI3 (Sizes.cons TI43 (Sizes.cons TI3 Sizes.nil))) rfl (lcp (show _ = Value.int _ _ from rfl) lnp) rfl rfl ?_)
          refine WL.ap1 (B) rfl rfl TI30 TI69 rfl rfl h.nod (by decide) (by decide) rfl (one_all (by first | rfl | decide)) rfl (by rw [maxLen_eq]; omega) (by omega) h.sz ?_
          intro v84 w84 hown ho84
          have hcell := ho84.blk h.cell h.offn
          replace ho := only_own h.nod ho ho84
          replace hown : w84.ownsRow B 69 3 v84 (N ++ [(⟨2, 0, 0⟩ : Nd)]).length (nds (N ++ [(⟨2, 0, 0⟩ : Nd)])) := by rw [nds_snoc, List.length_append]; exact hown
          refine WL.c rfl (o_nil rfl ?_)
          refine WL.c rfl (o_fa 2 TI134 rfl TI30 rfl rfl ?_)
          refine WL.u (o_stB TI30 rfl (show _ = v84 from rfl) (own_one hown) hcell (show 2 < 4 by decide) ?_)
          intro w86 hB86 ho86 hs86
          have h9 : RdR w86 B g T i v84 (N ++ [(⟨2, 0, 0⟩ : Nd)]) false := ⟨hB86, own_only hown ho86 (fun k hk he => by subst he; exact own_off hown hcell (by decide) hk), h.hb⟩
          replace ho := ho.trans' ho86 (fun _ h => h) (fun q _ hq => by subst hq; exact h9.hb)
          clear h hcell hown hB86 ho86 hs86
          have h := h9
          clear h9
          refine WL.nil ?_
          refine W.region ?_
          refine WL.c rfl (o_mvh h0 ?_)
          refine WL.c rfl (o_call Tryd.call71 (lc rfl (lc rfl ln)) ((rword_spec B g T i _ (N ++ [⟨2, 0, 0⟩]) [102, 97, 108, 115, 101] _ h hi hT (by decide)).mono ?_))
          rintro v88 w88 ⟨h9, ho88⟩
          replace ho := ho.trans' ho88 (fun _ h => h) (fun q _ hq => by subst hq; exact h.hb)
          clear h
          have h := h9
          clear h9
          have hpost : VPost B g T i (fun K => prsZ .bgn K (T.drop i) i) N N w0 _ := leaf_post hA hch (fun _ => rfl) hN h ho
          refine WL.nil ?_
          exact ret0 rfl hpost
        · try simp only [decide_eq_true_eq, decide_eq_false_iff_not, Bool.not_eq_true', Bool.not_eq_false', Bool.and_eq_true, Bool.or_eq_true, Bool.and_eq_false_iff, Bool.or_eq_false_iff] at c74
          have hn102 : T[i] ≠ 102 := ch_ne (d := 102) (by simpa using c74)
          refine W.seq ?_
          refine W.region ?_
          refine WL.c rfl (o_mvh h3 ?_)
          refine WL.c rfl (o_eq rfl rfl ?_)
          refine WL.c rfl (o_ash (show _ = Value.bool _ from rfl) ?_)
          refine WL.nil ?_
          refine W.cond rfl (fun c89 => ?_) (fun c89 => ?_)
          · try simp only [decide_eq_true_eq, decide_eq_false_iff_not, Bool.not_eq_true', Bool.not_eq_false', Bool.and_eq_true, Bool.or_eq_true, Bool.and_eq_false_iff, Bool.or_eq_false_iff] at c89
            have hch : T[i] = 110 := ch_eq (d := 110) (by simpa using c89)
            refine W.seq ?_
            refine W.region ?_
            refine WL.c rfl (o_mvh h0 ?_)
            refine WL.c rfl (o_mvh h0 ?_)
            refine WL.c rfl (o_nil rfl ?_)
            refine WL.c rfl (o_fa 2 TI134 rfl TI30 rfl rfl ?_)
            refine WL.c rfl (o_ld TI30 rfl rfl (cell_of h.cell rfl) ?_)
            refine WL.c rfl (o_bldC (cs := [(.int .i64 5), (.int .u64 0), (.int .i64 0)]) TI69 (Sizes.cons TI3 (Sizes.cons TI43 (Sizes.cons TI3 Sizes.nil))) rfl (lcp (show _ = Value.int _ _ from rfl) lnp) rfl rfl ?_)
            refine WL.ap1 (B) rfl rfl TI30 TI69 rfl rfl h.nod (by decide) (by decide) rfl (one_all (by first | rfl | decide)) rfl (by rw [maxLen_eq]; omega) (by omega) h.sz ?_
            intro v99 w99 hown ho99
            have hcell := ho99.blk h.cell h.offn
            replace ho := only_own h.nod ho ho99
            replace hown : w99.ownsRow B 69 3 v99 (N ++ [(⟨5, 0, 0⟩ : Nd)]).length (nds (N ++ [(⟨5, 0, 0⟩ : Nd)])) := by rw [nds_snoc, List.length_append]; exact hown
            refine WL.c rfl (o_nil rfl ?_)
            refine WL.c rfl (o_fa 2 TI134 rfl TI30 rfl rfl ?_)
            refine WL.u (o_stB TI30 rfl (show _ = v99 from rfl) (own_one hown) hcell (show 2 < 4 by decide) ?_)
            intro w101 hB101 ho101 hs101
            have h9 : RdR w101 B g T i v99 (N ++ [(⟨5, 0, 0⟩ : Nd)]) false := ⟨hB101, own_only hown ho101 (fun k hk he => by subst he; exact own_off hown hcell (by decide) hk), h.hb⟩
            replace ho := ho.trans' ho101 (fun _ h => h) (fun q _ hq => by subst hq; exact h9.hb)
            clear h hcell hown hB101 ho101 hs101
            have h := h9
            clear h9
            refine WL.nil ?_
            refine W.region ?_
            refine WL.c rfl (o_mvh h0 ?_)
            refine WL.c rfl (o_call Tryd.call71 (lc rfl (lc rfl ln)) ((rword_spec B g T i _ (N ++ [⟨5, 0, 0⟩]) [110, 111, 110, 101] _ h hi hT (by decide)).mono ?_))
            rintro v103 w103 ⟨h9, ho103⟩
            replace ho := ho.trans' ho103 (fun _ h => h) (fun q _ hq => by subst hq; exact h.hb)
            clear h
            have h := h9
            clear h9
            have hpost : VPost B g T i (fun K => prsZ .bgn K (T.drop i) i) N N w0 _ := leaf_post hA hch (fun _ => rfl) hN h ho
            refine WL.nil ?_
            exact ret0 rfl hpost
          · try simp only [decide_eq_true_eq, decide_eq_false_iff_not, Bool.not_eq_true', Bool.not_eq_false', Bool.and_eq_true, Bool.or_eq_true, Bool.and_eq_false_iff, Bool.or_eq_false_iff] at c89
            have hn110 : T[i] ≠ 110 := ch_ne (d := 110) (by simpa using c89)
            refine W.seq ?_
            refine W.region ?_
            refine WL.c rfl (o_mvh h3 ?_)
            refine WL.c rfl (o_eq rfl rfl ?_)
            refine WL.c rfl (o_ash (show _ = Value.bool _ from rfl) ?_)
            refine WL.nil ?_
            refine W.cond rfl (fun c104 => ?_) (fun c104 => ?_)
            · try simp only [decide_eq_true_eq, decide_eq_false_iff_not, Bool.not_eq_true', Bool.not_eq_false', Bool.and_eq_true, Bool.or_eq_true, Bool.and_eq_false_iff, Bool.or_eq_false_iff] at c104
              have hch : T[i] = 115 := ch_eq (d := 115) (by simpa using c104)
              refine W.seq ?_
              refine W.region ?_
              refine WL.c rfl (o_mvh h0 ?_)
              refine WL.c rfl (o_mvh h0 ?_)
              refine WL.c rfl (o_nil rfl ?_)
              refine WL.c rfl (o_fa 2 TI134 rfl TI30 rfl rfl ?_)
              refine WL.c rfl (o_ld TI30 rfl rfl (cell_of h.cell rfl) ?_)
              refine WL.c rfl (o_bldC (cs := [(.int .i64 5), (.int .u64 0), (.int .i64 1)]) TI69 (Sizes.cons TI3 (Sizes.cons TI43 (Sizes.cons TI3 Sizes.nil))) rfl (lcp (show _ = Value.int _ _ from rfl) (lcp (show _ = Value.int _ _ from rfl) lnp)) rfl rfl ?_)
              refine WL.ap1 (B) rfl rfl TI30 TI69 rfl rfl h.nod (by decide) (by decide) rfl (one_all (by first | rfl | decide)) rfl (by rw [maxLen_eq]; omega) (by omega) h.sz ?_
              intro v114 w114 hown ho114
              have hcell := ho114.blk h.cell h.offn
              replace ho := only_own h.nod ho ho114
              replace hown : w114.ownsRow B 69 3 v114 (N ++ [(⟨5, 0, 1⟩ : Nd)]).length (nds (N ++ [(⟨5, 0, 1⟩ : Nd)])) := by rw [nds_snoc, List.length_append]; exact hown
              refine WL.c rfl (o_nil rfl ?_)
              refine WL.c rfl (o_fa 2 TI134 rfl TI30 rfl rfl ?_)
              refine WL.u (o_stB TI30 rfl (show _ = v114 from rfl) (own_one hown) hcell (show 2 < 4 by decide) ?_)
              intro w116 hB116 ho116 hs116
              have h9 : RdR w116 B g T i v114 (N ++ [(⟨5, 0, 1⟩ : Nd)]) false := ⟨hB116, own_only hown ho116 (fun k hk he => by subst he; exact own_off hown hcell (by decide) hk), h.hb⟩
              replace ho := ho.trans' ho116 (fun _ h => h) (fun q _ hq => by subst hq; exact h9.hb)
              clear h hcell hown hB116 ho116 hs116
              have h := h9
              clear h9
              refine WL.nil ?_
              refine W.seq ?_
              refine W.region ?_
              refine WL.c rfl (o_mvh h0 ?_)
              refine WL.c rfl (o_call Tryd.call71 (lc rfl (lc rfl ln)) ((rword_spec B g T i _ (N ++ [⟨5, 0, 1⟩]) [115, 111, 109, 101, 32] _ h hi hT (by decide)).mono ?_))
              rintro v118 w118 ⟨h9, ho118⟩
              replace ho := ho.trans' ho118 (fun _ h => h) (fun q _ hq => by subst hq; exact h.hb)
              clear h
              have h := h9
              clear h9
              refine WL.nil ?_
              have hwl := wordC_le [115, 111, 109, 101, 32] (T.drop i)
              rw [List.length_drop] at hwl
              rcases (show (wordC [115, 111, 109, 101, 32] (T.drop i)).2 = true ∨ (wordC [115, 111, 109, 101, 32] (T.drop i)).2 = false by cases (wordC [115, 111, 109, 101, 32] (T.drop i)).2 <;> simp) with hw | hw
              · skip
                rw [hw, wordC_all _ _ hw] at h
                refine W.region ?_
                refine WL.c rfl (o_mvh h0 ?_)
                refine WL.c rfl (o_call Tryd.call66 (lc rfl ln) ((IHv (i + 5) (by omega) _ _ _ h (by have := wordC_all _ _ hw; simp at this hwl; omega) (by simp; omega)).mono ?_))
                rintro v120 w120 hv
                have hpost : VPost B g T i (fun K => prsZ .bgn K (T.drop i) i) N N w0 _ := some_post hA hch hw ho hv
                refine WL.nil ?_
                exact ret0 rfl hpost
              · skip
                rw [hw] at h
                refine W.region ?_
                refine WL.c rfl (o_mvh h0 ?_)
                refine WL.c rfl (o_call Tryd.call66 (lc rfl ln) ((rvalue_bad B g T _ _ _ _ h (by omega) hT).mono ?_))
                rintro v120 w120 ⟨h9, ho120⟩
                replace ho := ho.trans' ho120 (fun _ h => h) (fun q _ hq => by subst hq; exact h.hb)
                have hpost : VPost B g T i (fun K => prsZ .bgn K (T.drop i) i) N N w0 _ := some_bad hA hch hN hw h9 ho
                refine WL.nil ?_
                exact ret0 rfl hpost
            · try simp only [decide_eq_true_eq, decide_eq_false_iff_not, Bool.not_eq_true', Bool.not_eq_false', Bool.and_eq_true, Bool.or_eq_true, Bool.and_eq_false_iff, Bool.or_eq_false_iff] at c104
              have hn115 : T[i] ≠ 115 := ch_ne (d := 115) (by simpa using c104)
              refine W.seq ?_
              refine W.region ?_
              refine WL.c rfl (o_mvh h3 ?_)
              refine WL.c rfl (o_eq rfl rfl ?_)
              refine WL.c rfl (o_ash (show _ = Value.bool _ from rfl) ?_)
              refine WL.nil ?_
              refine W.cond rfl (fun c121 => ?_) (fun c121 => ?_)
              · try simp only [decide_eq_true_eq, decide_eq_false_iff_not, Bool.not_eq_true', Bool.not_eq_false', Bool.and_eq_true, Bool.or_eq_true, Bool.and_eq_false_iff, Bool.or_eq_false_iff] at c121
                have hch : T[i] = 91 := ch_eq (d := 91) (by simpa using c121)
                refine W.seq ?_
                refine W.region ?_
                refine WL.c rfl (o_mvh h0 ?_)
                refine WL.c rfl (o_mvh h0 ?_)
                refine WL.c rfl (o_nil rfl ?_)
                refine WL.c rfl (o_fa 2 TI134 rfl TI30 rfl rfl ?_)
                refine WL.c rfl (o_ld TI30 rfl rfl (cell_of h.cell rfl) ?_)
                refine WL.c rfl (o_bldC (cs := [(.int .i64 3), (.int .u64 0), (.int .i64 0)]) TI69 (Sizes.cons TI3 (Sizes.cons TI43 (Sizes.cons TI3 Sizes.nil))) rfl (lcp (show _ = Value.int _ _ from rfl) lnp) rfl rfl ?_)
                refine WL.ap1 (B) rfl rfl TI30 TI69 rfl rfl h.nod (by decide) (by decide) rfl (one_all (by first | rfl | decide)) rfl (by rw [maxLen_eq]; omega) (by omega) h.sz ?_
                intro v131 w131 hown ho131
                have hcell := ho131.blk h.cell h.offn
                replace ho := only_own h.nod ho ho131
                replace hown : w131.ownsRow B 69 3 v131 (N ++ [(⟨3, 0, 0⟩ : Nd)]).length (nds (N ++ [(⟨3, 0, 0⟩ : Nd)])) := by rw [nds_snoc, List.length_append]; exact hown
                refine WL.c rfl (o_nil rfl ?_)
                refine WL.c rfl (o_fa 2 TI134 rfl TI30 rfl rfl ?_)
                refine WL.u (o_stB TI30 rfl (show _ = v131 from rfl) (own_one hown) hcell (show 2 < 4 by decide) ?_)
                intro w133 hB133 ho133 hs133
                have h9 : RdR w133 B g T i v131 (N ++ [(⟨3, 0, 0⟩ : Nd)]) false := ⟨hB133, own_only hown ho133 (fun k hk he => by subst he; exact own_off hown hcell (by decide) hk), h.hb⟩
                replace ho := ho.trans' ho133 (fun _ h => h) (fun q _ hq => by subst hq; exact h9.hb)
                clear h hcell hown hB133 ho133 hs133
                have h := h9
                clear h9
                refine WL.nil ?_
                refine W.seq ?_
                refine W.region ?_
                refine WL.c rfl (o_mvh h0 ?_)
                refine WL.c rfl (o_call Tryd.call71 (lc rfl (lc rfl ln)) ((rword_spec B g T i _ (N ++ [⟨3, 0, 0⟩]) [91] _ h hi hT (by decide)).mono ?_))
                rintro v135 w135 ⟨h9, ho135⟩
                replace ho := ho.trans' ho135 (fun _ h => h) (fun q _ hq => by subst hq; exact h.hb)
                clear h
                have h := h9
                clear h9
                rw [drop_at hA hch] at h
                replace h : RdR _ B g T (i + 1) _ _ false := h
                refine WL.nil ?_
                refine W.seq ?_
                refine W.seq ?_
                refine W.region ?_
                refine WL.c rfl (o_mvh h0 ?_)
                refine WL.c rfl (o_call Tryd.call72 (lc rfl (lc rfl ln)) ((ris_spec B g T (i + 1) _ (N ++ [⟨3, 0, 0⟩]) false 93 _ h hA hT).mono ?_))
                rintro v137 w137 ⟨b137, rfl, hb137, hx137⟩
                replace h := h.ext hx137
                replace ho := ho.trans' hx137 (fun _ h => h) (fun _ _ h => h.elim)
                refine WL.nil ?_
                refine W.cond rfl (fun c137 => ?_) (fun c137 => ?_)
                · try simp only [decide_eq_true_eq, decide_eq_false_iff_not, Bool.not_eq_true', Bool.not_eq_false', Bool.and_eq_true, Bool.or_eq_true, Bool.and_eq_false_iff, Bool.or_eq_false_iff] at c137
                  obtain ⟨-, h93⟩ := hb137.1 (by simpa using c137)
                  obtain ⟨hl2, h93b⟩ := List.getElem?_eq_some_iff.1 h93
                  refine W.seq ?_
                  refine W.region ?_
                  refine WL.c rfl (o_mvh h0 ?_)
                  refine WL.c rfl (o_call Tryd.call71 (lc rfl (lc rfl ln)) ((rword_spec B g T (i + 1) _ (N ++ [⟨3, 0, 0⟩]) [93] _ h hA hT (by decide)).mono ?_))
                  rintro v139 w139 ⟨h9, ho139⟩
                  replace ho := ho.trans' ho139 (fun _ h => h) (fun q _ hq => by subst hq; exact h.hb)
                  rw [drop_at hl2 h93b] at h9
                  replace h9 : RdR _ B g T (i + 1 + 1) _ _ false := h9
                  have hpost : VPost B g T i (fun K => prsZ .bgn K (T.drop i) i) N N w0 _ := sq_post hA hch h93 hN h9 ho
                  refine WL.nil ?_
                  refine W.ret ?_
                  refine ret0 rfl ?_
                  exact hpost
                · try simp only [decide_eq_true_eq, decide_eq_false_iff_not, Bool.not_eq_true', Bool.not_eq_false', Bool.and_eq_true, Bool.or_eq_true, Bool.and_eq_false_iff, Bool.or_eq_false_iff] at c137
                  have h93 : ¬ T[i + 1]? = some 93 := fun h => by have := hb137.2 ⟨rfl, h⟩; simp [this] at c137
                  refine W.skip ?_
                  refine W.region ?_
                  refine WL.c rfl (o_mvh h0 ?_)
                  refine WL.c rfl (o_mvh h2 ?_)
                  refine WL.c rfl (o_call Tryd.call73 (lc rfl (lc rfl (lc rfl (lc rfl ln)))) ((IHk (i + 1) (by omega) 3 93 _ N _ (.inl rfl) rfl h hA (by omega)).mono ?_))
                  rintro v142 w142 hv
                  have hpost : VPost B g T i (fun K => prsZ .bgn K (T.drop i) i) N N w0 _ := hv.lift (by omega) (fun K => sq_kids hA hch h93 K) ho
                  refine WL.nil ?_
                  exact ret0 rfl hpost
              · try simp only [decide_eq_true_eq, decide_eq_false_iff_not, Bool.not_eq_true', Bool.not_eq_false', Bool.and_eq_true, Bool.or_eq_true, Bool.and_eq_false_iff, Bool.or_eq_false_iff] at c121
                have hn91 : T[i] ≠ 91 := ch_ne (d := 91) (by simpa using c121)
                refine W.seq ?_
                refine W.region ?_
                refine WL.c rfl (o_mvh h3 ?_)
                refine WL.c rfl (o_eq rfl rfl ?_)
                refine WL.c rfl (o_ash (show _ = Value.bool _ from rfl) ?_)
                refine WL.nil ?_
                refine W.cond rfl (fun c143 => ?_) (fun c143 => ?_)
                · try simp only [decide_eq_true_eq, decide_eq_false_iff_not, Bool.not_eq_true', Bool.not_eq_false', Bool.and_eq_true, Bool.or_eq_true, Bool.and_eq_false_iff, Bool.or_eq_false_iff] at c143
                  have hch : T[i] = 123 := ch_eq (d := 123) (by simpa using c143)
                  refine W.seq ?_
                  refine W.region ?_
                  refine WL.c rfl (o_mvh h0 ?_)
                  refine WL.c rfl (o_mvh h0 ?_)
                  refine WL.c rfl (o_nil rfl ?_)
                  refine WL.c rfl (o_fa 2 TI134 rfl TI30 rfl rfl ?_)
                  refine WL.c rfl (o_ld TI30 rfl rfl (cell_of h.cell rfl) ?_)
                  refine WL.c rfl (o_bldC (cs := [(.int .i64 4), (.int .u64 0), (.int .i64 0)]) TI69 (Sizes.cons TI3 (Sizes.cons TI43 (Sizes.cons TI3 Sizes.nil))) rfl (lcp (show _ = Value.int _ _ from rfl) lnp) rfl rfl ?_)
                  refine WL.ap1 (B) rfl rfl TI30 TI69 rfl rfl h.nod (by decide) (by decide) rfl (one_all (by first | rfl | decide)) rfl (by rw [maxLen_eq]; omega) (by omega) h.sz ?_
                  intro v153 w153 hown ho153
                  have hcell := ho153.blk h.cell h.offn
                  replace ho := only_own h.nod ho ho153
                  replace hown : w153.ownsRow B 69 3 v153 (N ++ [(⟨4, 0, 0⟩ : Nd)]).length (nds (N ++ [(⟨4, 0, 0⟩ : Nd)])) := by rw [nds_snoc, List.length_append]; exact hown
                  refine WL.c rfl (o_nil rfl ?_)
                  refine WL.c rfl (o_fa 2 TI134 rfl TI30 rfl rfl ?_)
                  refine WL.u (o_stB TI30 rfl (show _ = v153 from rfl) (own_one hown) hcell (show 2 < 4 by decide) ?_)
                  intro w155 hB155 ho155 hs155
                  have h9 : RdR w155 B g T i v153 (N ++ [(⟨4, 0, 0⟩ : Nd)]) false := ⟨hB155, own_only hown ho155 (fun k hk he => by subst he; exact own_off hown hcell (by decide) hk), h.hb⟩
                  replace ho := ho.trans' ho155 (fun _ h => h) (fun q _ hq => by subst hq; exact h9.hb)
                  clear h hcell hown hB155 ho155 hs155
                  have h := h9
                  clear h9
                  refine WL.nil ?_
                  refine W.seq ?_
                  refine W.region ?_
                  refine WL.c rfl (o_mvh h0 ?_)
                  refine WL.c rfl (o_call Tryd.call71 (lc rfl (lc rfl ln)) ((rword_spec B g T i _ (N ++ [⟨4, 0, 0⟩]) [123] _ h hi hT (by decide)).mono ?_))
                  rintro v157 w157 ⟨h9, ho157⟩
                  replace ho := ho.trans' ho157 (fun _ h => h) (fun q _ hq => by subst hq; exact h.hb)
                  clear h
                  have h := h9
                  clear h9
                  rw [drop_at hA hch] at h
                  replace h : RdR _ B g T (i + 1) _ _ false := h
                  refine WL.nil ?_
                  refine W.region ?_
                  refine WL.c rfl (o_mvh h0 ?_)
                  refine WL.c rfl (o_mvh h2 ?_)
                  refine WL.c rfl (o_call Tryd.call73 (lc rfl (lc rfl (lc rfl (lc rfl ln)))) ((IHk (i + 1) (by omega) 4 125 _ N _ (.inr rfl) rfl h hA (by omega)).mono ?_))
                  rintro v160 w160 hv
                  have hpost : VPost B g T i (fun K => prsZ .bgn K (T.drop i) i) N N w0 _ := hv.lift (by omega) (fun K => br_kids hA hch K) ho
                  refine WL.nil ?_
                  exact ret0 rfl hpost
                · try simp only [decide_eq_true_eq, decide_eq_false_iff_not, Bool.not_eq_true', Bool.not_eq_false', Bool.and_eq_true, Bool.or_eq_true, Bool.and_eq_false_iff, Bool.or_eq_false_iff] at c143
                  have hn123 : T[i] ≠ 123 := ch_ne (d := 123) (by simpa using c143)
                  refine W.seq ?_
                  refine W.region ?_
                  refine WL.c rfl (o_mvh h3 ?_)
                  refine WL.c rfl (o_eq rfl rfl ?_)
                  refine WL.c rfl (o_ash (show _ = Value.bool _ from rfl) ?_)
                  refine WL.nil ?_
                  refine W.cond rfl (fun c161 => ?_) (fun c161 => ?_)
                  · try simp only [decide_eq_true_eq, decide_eq_false_iff_not, Bool.not_eq_true', Bool.not_eq_false', Bool.and_eq_true, Bool.or_eq_true, Bool.and_eq_false_iff, Bool.or_eq_false_iff] at c161
                    have hch : T[i] = 60 := ch_eq (d := 60) (by simpa using c161)
                    refine W.seq ?_
                    refine W.region ?_
                    refine WL.c rfl (o_mvh h0 ?_)
                    refine WL.c rfl (o_mvh h0 ?_)
                    refine WL.c rfl (o_nil rfl ?_)
                    refine WL.c rfl (o_fa 2 TI134 rfl TI30 rfl rfl ?_)
                    refine WL.c rfl (o_ld TI30 rfl rfl (cell_of h.cell rfl) ?_)
                    refine WL.c rfl (o_bldC (cs := [(.int .i64 6), (.int .u64 0), (.int .i64 1)]) TI69 (Sizes.cons TI3 (Sizes.cons TI43 (Sizes.cons TI3 Sizes.nil))) rfl (lcp (show _ = Value.int _ _ from rfl) (lcp (show _ = Value.int _ _ from rfl) lnp)) rfl rfl ?_)
                    refine WL.ap1 (B) rfl rfl TI30 TI69 rfl rfl h.nod (by decide) (by decide) rfl (one_all (by first | rfl | decide)) rfl (by rw [maxLen_eq]; omega) (by omega) h.sz ?_
                    intro v171 w171 hown ho171
                    have hcell := ho171.blk h.cell h.offn
                    replace ho := only_own h.nod ho ho171
                    replace hown : w171.ownsRow B 69 3 v171 (N ++ [(⟨6, 0, 1⟩ : Nd)]).length (nds (N ++ [(⟨6, 0, 1⟩ : Nd)])) := by rw [nds_snoc, List.length_append]; exact hown
                    refine WL.c rfl (o_nil rfl ?_)
                    refine WL.c rfl (o_fa 2 TI134 rfl TI30 rfl rfl ?_)
                    refine WL.u (o_stB TI30 rfl (show _ = v171 from rfl) (own_one hown) hcell (show 2 < 4 by decide) ?_)
                    intro w173 hB173 ho173 hs173
                    have h9 : RdR w173 B g T i v171 (N ++ [(⟨6, 0, 1⟩ : Nd)]) false := ⟨hB173, own_only hown ho173 (fun k hk he => by subst he; exact own_off hown hcell (by decide) hk), h.hb⟩
                    replace ho := ho.trans' ho173 (fun _ h => h) (fun q _ hq => by subst hq; exact h9.hb)
                    clear h hcell hown hB173 ho173 hs173
                    have h := h9
                    clear h9
                    refine WL.nil ?_
                    refine W.seq ?_
                    refine W.region ?_
                    refine WL.c rfl (o_mvh h0 ?_)
                    refine WL.c rfl (o_call Tryd.call71 (lc rfl (lc rfl ln)) ((rword_spec B g T i _ (N ++ [⟨6, 0, 1⟩]) [60] _ h hi hT (by decide)).mono ?_))
                    rintro v175 w175 ⟨h9, ho175⟩
                    replace ho := ho.trans' ho175 (fun _ h => h) (fun q _ hq => by subst hq; exact h.hb)
                    clear h
                    have h := h9
                    clear h9
                    rw [drop_at hA hch] at h
                    replace h : RdR _ B g T (i + 1) _ _ false := h
                    refine WL.nil ?_
                    refine W.seq ?_
                    obtain ⟨R, hR9⟩ : ∃ R, R = numR 255 0 0 (T.drop (i + 1)) := ⟨_, rfl⟩
                    obtain ⟨ub, uc, hvu, hub⟩ := own_some h.nod (by simp)
                    have hng : ¬ v171.ownBlock = some g := h.offn
                    obtain ⟨wd, hwd⟩ : ∃ wd, wd = w175.drew := ⟨_, rfl⟩
                    have hxd : Ext w175 wd := hwd ▸ Only.drew w175
                    replace h := h.ext hxd
                    replace ho := ho.trans' hxd (fun _ h => h) (fun _ _ h => h.elim)
                    have hts : ∀ K, prsZ .bgn K (T.drop i) i = if R.2 = 0 then (none, i + 1) else tagE R.1 K (T.drop (i + 1 + R.2)) (i + 1 + R.2) := fun K => by rw [hR9]; exact tag_start hA hch K
                    have hle := (numR_le 255 (T.drop (i + 1)) 0 0).2
                    rw [← hR9, List.length_drop] at hle
                    refine W.drawC 7 [6] (RsN g v171) (WdN B g T (i + 1) (i + 1 + R.2) v171 (N ++ [⟨6, 0, 1⟩]) (decide (R.2 = 0))) [(0, fun v _ => v = (Value.pointer (some ⟨g, 0, none⟩))), (2, fun v _ => v = (Value.int .i64 (N.length : Int)))] rfl (by kernel_rfl) (by kernel_rfl) (RsN.e g _) (RsN.a hng) (RsN.t g _) (WdN.ext (j := i + 1) (j2 := i + 1 + R.2)) (show RdR _ B g T (i + 1) _ _ false from hwd ▸ h) ⟨Mono.eq, Mono.eq, trivial⟩ ⟨h0, h2, trivial⟩ ?_
                    refine WDS.p rfl (by decide) (fun e w hR hh => by obtain ⟨h0, -⟩ := hh; exact SG.n (o_mvh h0 ⟨rfl, Only.refl No _⟩)) ?_
                    refine WDS.p rfl (by decide) (fun e w hR hh => by obtain ⟨h176, -⟩ := hh; exact SG.n (o_nil h176 ⟨rfl, Only.refl No _⟩)) ?_
                    refine WDS.p rfl (by decide) (fun e w hR hh => by obtain ⟨h177, -⟩ := hh; exact SG.n (o_fa 2 TI134 rfl TI30 rfl h177 ⟨rfl, Only.refl No _⟩)) ?_
                    refine WDS.p rfl (by decide) (fun e w hR hh => by obtain ⟨h178, -⟩ := hh; rw [← hwd] at hR; exact SG.n (o_ld TI30 rfl h178 (hR.2 _ (cell_of h.cell rfl)) ⟨rfl, Only.refl No _⟩)) ?_
                    refine WDS.p rfl (by decide) (fun e w hR hh => by obtain ⟨h2, -⟩ := hh; exact SG.n (o_mvh h2 ⟨rfl, Only.refl No _⟩)) ?_
                    refine WDS.p rfl (by decide) (fun e w hR hh => by obtain ⟨h0, -⟩ := hh; exact SG.n (o_mvh h0 ⟨rfl, Only.refl No _⟩)) ?_
                    refine WDS.m 0 0 (fun v _ => v = _) (Mono.eq) (by kernel_rfl) rfl rfl (fun e w hR hW hh => by obtain ⟨h181, -⟩ := hh; rw [← hwd] at hR; exact SGX.n (OP.x (o_call Tryd.call70 (lc h181 (lc rfl ln)) ((rrnumber_spec B g T (i + 1) v171 (N ++ [⟨6, 0, 1⟩]) 255 w (show RdR w B g T (i + 1) v171 (N ++ [⟨6, 0, 1⟩]) false from hW) hA hT (by decide) (by decide)).mono (fun v w' ⟨h1, h2, h3⟩ => by rw [← hR9] at h1 h2; exact ⟨h1, ⟨h3.mono (fun _ _ hq => .inl hq), fun v hv => by have e1 := cell_of (RdR.cell (show RdR w B g T (i + 1) v171 (N ++ [⟨6, 0, 1⟩]) false from hW)) (show _[0 + 2]? = some v171 from rfl); rw [hv] at e1; cases e1; exact cell_of h2.cell rfl⟩, h2⟩))))) ?_
                    rintro e w hR hW ⟨h182, h181, h180, h179, h178, h177, h176, h0, h2, -⟩
                    rw [← hwd] at hR
                    have h2 : RdR w B g T (i + 1 + R.2) v171 (N ++ [⟨6, 0, 1⟩]) (decide (R.2 = 0)) := hW
                    have hrow := h2.nod
                    rw [hvu] at hrow
                    have hvb : ∀ q, v171.ownBlock = some q → B ≤ q := fun q hq => (h.nod.lt q hq).1
                    replace ho := ho.trans' hR.1 (fun _ h => h) (fun q _ hq => by rcases hq with rfl | hq; exact h.hb; exact hvb q hq)
                    refine WL.c rfl (o_ixB (i := N.length) TI30 TI69 (h179.trans hvu) h180 (by simp) ?_)
                    refine WL.c rfl (o_fa 1 TI69 rfl TI43 rfl rfl ?_)
                    refine WL.u (o_stRj TI43 rfl (show 0 + N.length * 3 + 1 = N.length * 3 + 1 by omega) h182 rfl hrow rfl (by simp; omega) ?_)
                    intro w184 hr184 ho184 hs184
                    rw [nds_setn] at hr184
                    have e1 : (N ++ [(⟨6, R.1, 1⟩ : Nd)]).length = (N ++ [(⟨6, 0, 1⟩ : Nd)]).length := by simp
                    rw [← hvu] at ho184
                    have h9 : RdR w184 B g T (i + 1 + R.2) v171 (N ++ [(⟨6, R.1, 1⟩ : Nd)]) (decide (R.2 = 0)) := h2.put (by rw [e1, hvu]; exact hr184) (ho184.blk h2.cell h2.offn)
                    replace ho := ho.trans' ho184 (fun _ h => h) (fun q _ hq => hvb q hq)
                    clear h
                    have h := h9
                    clear h9 h2 hrow
                    refine WL.nil ?_
                    refine W.seq ?_
                    rcases (show R.2 = 0 ∨ (¬ R.2 = 0 ∧ (wordC [58] (T.drop (i + 1 + R.2))).2 = false) ∨ (¬ R.2 = 0 ∧ (wordC [58] (T.drop (i + 1 + R.2))).2 = true) by by_cases hz : R.2 = 0; exact .inl hz; rcases Bool.eq_false_or_eq_true (wordC [58] (T.drop (i + 1 + R.2))).2 with h7 | h7; exact .inr (.inr ⟨hz, h7⟩); exact .inr (.inl ⟨hz, h7⟩)) with hz | ⟨hz, hw⟩ | ⟨hz, hw⟩
                    · skip
                      rw [decide_eq_true hz] at h
                      refine W.region ?_
                      refine WL.c rfl (o_mvh h0 ?_)
                      refine WL.c rfl (o_call Tryd.call71 (lc rfl (lc rfl ln)) ((rword_bad B g T _ _ _ [58] _ h (by omega) hT (by decide)).mono ?_))
                      rintro v186 w186 rfl
                      refine WL.nil ?_
                      refine W.seq ?_
                      refine W.region ?_
                      refine WL.c rfl (o_mvh h0 ?_)
                      refine WL.c rfl (o_call Tryd.call66 (lc rfl ln) ((rvalue_bad B g T _ _ _ _ h (by omega) hT).mono ?_))
                      rintro v188 w188 ⟨h9, ho188⟩
                      replace ho := ho.trans' ho188 (fun _ h => h) (fun q _ hq => by subst hq; exact h.hb)
                      clear h
                      have h := h9
                      clear h9
                      refine WL.nil ?_
                      refine W.region ?_
                      refine WL.c rfl (o_mvh h0 ?_)
                      refine WL.c rfl (o_call Tryd.call71 (lc rfl (lc rfl ln)) ((rword_bad B g T _ _ _ [62] _ h (by omega) hT (by decide)).mono ?_))
                      rintro v190 w190 rfl
                      have hpost : VPost B g T i (fun K => prsZ .bgn K (T.drop i) i) N N w0 _ := bad_post (by omega) (by omega) h ⟨_, rfl⟩ (by simp; omega) (fun K => by rw [hts K, if_pos hz, hz]) ho
                      refine WL.nil ?_
                      exact ret0 rfl hpost
                    · skip
                      rw [decide_eq_false hz] at h
                      refine W.region ?_
                      refine WL.c rfl (o_mvh h0 ?_)
                      refine WL.c rfl (o_call Tryd.call71 (lc rfl (lc rfl ln)) ((rword_spec B g T _ _ _ [58] _ h (by omega) hT (by decide)).mono ?_))
                      rintro v186 w186 ⟨h9, ho186⟩
                      rw [hw, one_none hw] at h9
                      replace ho := ho.trans' ho186 (fun _ h => h) (fun q _ hq => by subst hq; exact h.hb)
                      clear h
                      have h := h9
                      clear h9
                      refine WL.nil ?_
                      refine W.seq ?_
                      refine W.region ?_
                      refine WL.c rfl (o_mvh h0 ?_)
                      refine WL.c rfl (o_call Tryd.call66 (lc rfl ln) ((rvalue_bad B g T _ _ _ _ h (by omega) hT).mono ?_))
                      rintro v188 w188 ⟨h9, ho188⟩
                      replace ho := ho.trans' ho188 (fun _ h => h) (fun q _ hq => by subst hq; exact h.hb)
                      clear h
                      have h := h9
                      clear h9
                      refine WL.nil ?_
                      refine W.region ?_
                      refine WL.c rfl (o_mvh h0 ?_)
                      refine WL.c rfl (o_call Tryd.call71 (lc rfl (lc rfl ln)) ((rword_bad B g T _ _ _ [62] _ h (by omega) hT (by decide)).mono ?_))
                      rintro v190 w190 rfl
                      have hpost : VPost B g T i (fun K => prsZ .bgn K (T.drop i) i) N N w0 _ := bad_post (by omega) (by omega) h ⟨_, rfl⟩ (by simp; omega) (fun K => by rw [hts K, if_neg hz, tagE, if_neg (by rw [hw]; decide)]; rfl) ho
                      refine WL.nil ?_
                      exact ret0 rfl hpost
                    · skip
                      rw [decide_eq_false hz] at h
                      have hwl := wordC_le [58] (T.drop (i + 1 + R.2))
                      rw [one_word hw, List.length_drop] at hwl
                      refine W.region ?_
                      refine WL.c rfl (o_mvh h0 ?_)
                      refine WL.c rfl (o_call Tryd.call71 (lc rfl (lc rfl ln)) ((rword_spec B g T _ _ _ [58] _ h (by omega) hT (by decide)).mono ?_))
                      rintro v186 w186 ⟨h9, ho186⟩
                      rw [hw, one_word hw] at h9
                      replace ho := ho.trans' ho186 (fun _ h => h) (fun q _ hq => by subst hq; exact h.hb)
                      clear h
                      have h := h9
                      clear h9
                      refine WL.nil ?_
                      refine W.seq ?_
                      refine W.region ?_
                      refine WL.c rfl (o_mvh h0 ?_)
                      refine WL.c rfl (o_call Tryd.call66 (lc rfl ln) ((IHv (i + 1 + R.2 + 1) (by omega) _ _ _ h (by omega) (by simp; omega)).mono ?_))
                      rintro v188 w188 ⟨j5, nv5, N5, bad5, h5, hij5, hjT5, ⟨M, rfl⟩, hl5, hlt5, hvg5, ho5⟩
                      replace ho := ho.trans ho5
                      have hr0 : ∀ K, prsZ .bgn K (T.drop i) i = prsZ .bgn (⟨6, R.1, .nil⟩ :: K) (T.drop (i + 1 + R.2 + 1)) (i + 1 + R.2 + 1) := fun K => by rw [hts K, if_neg hz, tagE, if_pos hw, List.drop_drop]
                      refine WL.nil ?_
                      rcases bad5 with _ | _
                      · skip
                        obtain ⟨t, ht5, hr5⟩ := hvg5.2 rfl
                        have hlt6 := hlt5 rfl
                        have hwl5 := wordC_le [62] (T.drop j5)
                        rw [List.length_drop] at hwl5
                        refine W.region ?_
                        refine WL.c rfl (o_mvh h0 ?_)
                        refine WL.c rfl (o_call Tryd.call71 (lc rfl (lc rfl ln)) ((rword_spec B g T j5 nv5 _ [62] _ h5 hjT5 hT (by decide)).mono ?_))
                        rintro v190 w190 ⟨h9, ho190⟩
                        have hcr := fun K => cls_run (f := ⟨6, R.1, .nil⟩) (t := t) (K := K) (s := 62) rfl (T.drop j5) j5 (fun _ h3 => by rcases h3.1 with h4 | h4 <;> (have h7 : (6 : Int) = _ := h4; omega))
                        have hpost : VPost B g T i (fun K => prsZ .bgn K (T.drop i) i) N N w0 w190 := by
                          refine ⟨j5 + (wordC [62] (T.drop j5)).1, nv5, _, _, h9, by omega, by omega, ⟨[(⟨6, R.1, 1⟩ : Nd)] ++ M, by simp⟩, by omega, fun _ => by omega, ⟨fun hb K => ?_, fun hb => ⟨clz ⟨6, R.1, .nil⟩ t, by rw [ht5, clz_flat]; simp [Vts.len, Vts.flat], fun K => ?_⟩⟩, ho.trans' ho190 (fun _ h => h) (fun q _ hq => by subst hq; exact h5.hb)⟩
                          · have hb2 : (wordC [62] (T.drop j5)).2 = false := by simpa using hb
                            show prsZ .bgn K (T.drop i) i = _
                            rw [hr0 K, one_none hb2]
                            refine (hr5 _).trans ?_
                            rw [hcr K, if_neg (by rw [hb2]; decide)]
                            rfl
                          · have hb2 : (wordC [62] (T.drop j5)).2 = true := by simpa using hb
                            show prsZ .bgn K (T.drop i) i = _
                            rw [hr0 K, one_word hb2]
                            refine (hr5 _).trans ?_
                            rw [hcr K, if_pos hb2, List.drop_drop]
                        refine WL.nil ?_
                        exact ret0 rfl hpost
                      · skip
                        skip
                        refine W.region ?_
                        refine WL.c rfl (o_mvh h0 ?_)
                        refine WL.c rfl (o_call Tryd.call71 (lc rfl (lc rfl ln)) ((rword_bad B g T j5 nv5 _ [62] _ h5 hjT5 hT (by decide)).mono ?_))
                        rintro v190 w190 rfl
                        have hpost : VPost B g T i (fun K => prsZ .bgn K (T.drop i) i) N N w0 _ := bad_post (by omega) hjT5 h5 ⟨[(⟨6, R.1, 1⟩ : Nd)] ++ M, by simp⟩ hl5 (fun K => (hr0 K).trans (hvg5.1 rfl _)) ho
                        refine WL.nil ?_
                        exact ret0 rfl hpost
                  · try simp only [decide_eq_true_eq, decide_eq_false_iff_not, Bool.not_eq_true', Bool.not_eq_false', Bool.and_eq_true, Bool.or_eq_true, Bool.and_eq_false_iff, Bool.or_eq_false_iff] at c161
                    have hn60 : T[i] ≠ 60 := ch_ne (d := 60) (by simpa using c161)
                    refine W.region ?_
                    refine WL.c rfl (o_mvh h0 ?_)
                    refine WL.c rfl (o_nil rfl ?_)
                    refine WL.c rfl (o_fa 3 TI134 rfl TI4 rfl rfl ?_)
                    refine WL.u (o_stB TI4 rfl (show _ = Value.bool _ from rfl) rfl h.cell (show 3 < 4 by decide) ?_)
                    intro w39 hB39 ho39 hs39
                    replace h := h.move (j2 := i) (bad2 := true) hB39 ho39
                    replace ho := ho.trans' ho39 (fun _ h => h) (fun q _ hq => by subst hq; exact h.hb)
                    clear hB39 ho39 hs39
                    have hpost : VPost B g T i (fun K => prsZ .bgn K (T.drop i) i) N N w0 _ := bad_post (Nat.le_refl _) hi h ⟨[], by simp⟩ hN (fun K => by rw [drop_at hA rfl]; exact prs_none (show stepZ .bgn K _ = none from bgnS_cases K _ hn116 hn102 hn110 hn115 hn91 hn123 hn60 hd) _ _) ho
                    refine WL.nil ?_
                    exact ret0 rfl hpost
  · skip
    skip
    refine W.quiet rfl (by kernel_rfl) ?_
    refine WQ.c rfl ((QO.o rfl fun _ => o_mvh (by first | exact (show _ = Value.pointer _ from rfl) | exact rfl) ⟨rfl, rfl⟩)) ?_
    refine WQ.c rfl ((QO.r fun _ => r_nil rfl)) ?_
    refine WQ.c rfl ((QO.o rfl fun _ => o_fa 3 TI134 rfl TI4 rfl rfl ⟨rfl, rfl⟩)) ?_
    refine WQ.c rfl ((QO.o rfl fun _ => o_ld TI4 rfl rfl (cell_of h.cell rfl) ⟨rfl, rfl⟩)) ?_
    refine WQ.c rfl ((QO.o rfl fun _ => o_mvh (show _ = Value.bool _ from rfl) ⟨rfl, rfl⟩)) ?_
    refine WQ.g rfl (by simp) rfl ((QO.o rfl fun _ => o_mvh (by first | exact (show _ = Value.pointer _ from rfl) | exact rfl) ⟨rfl, rfl⟩)) ?_
    refine WQ.g rfl (by simp) rfl ((QO.r fun _ => r_nil rfl)) ?_
    refine WQ.g rfl (by simp) rfl ((QO.o rfl fun _ => o_fa 1 TI134 rfl TI3 rfl rfl ⟨rfl, rfl⟩)) ?_
    refine WQ.g rfl (by simp) rfl ((QO.o rfl fun _ => o_ld TI3 rfl rfl (cell_of h.cell rfl) ⟨rfl, rfl⟩)) ?_
    refine WQ.g rfl (by simp) rfl ((QO.o rfl fun _ => o_mvh (by first | exact (show _ = Value.pointer _ from rfl) | exact rfl) ⟨rfl, rfl⟩)) ?_
    refine WQ.g rfl (by simp) rfl ((QO.r fun _ => r_nil rfl)) ?_
    refine WQ.g rfl (by simp) rfl ((QO.o rfl fun _ => o_fa 0 TI134 rfl TI9 rfl rfl ⟨rfl, rfl⟩)) ?_
    refine WQ.g rfl (by simp) rfl ((QO.o rfl fun _ => o_ld TI9 rfl rfl (cell_of h.cell rfl) ⟨rfl, rfl⟩)) ?_
    refine WQ.g rfl (by simp) rfl ((QO.r fun _ => r_lenT TI9 rfl)) ?_
    refine WQ.g rfl (by simp) rfl ((QO.o rfl fun _ => o_ge rfl rfl ⟨rfl, rfl⟩)) ?_
    refine WQ.c rfl ((QO.r fun _ => r_pickO rfl rfl)) ?_
    refine WQ.nil ?_
    intro nq
    have hq := Only.drewN w0 nq
    replace h := h.ext hq
    replace ho := ho.trans' hq (fun _ h => h) (fun _ _ h => h.elim)
    generalize World.drewN w0 nq = wq0 at *
    clear hq
    refine W.condT' rfl (by simp; omega) ?_
    refine W.seq ?_
    refine W.region ?_
    refine WL.c rfl (o_mvh (by first | exact (show _ = Value.pointer _ from rfl) | exact rfl) ?_)
    refine WL.c rfl (o_nil rfl ?_)
    refine WL.c rfl (o_fa 3 TI134 rfl TI4 rfl rfl ?_)
    refine WL.u (o_stB TI4 rfl (show _ = Value.bool _ from rfl) rfl h.cell (show 3 < 4 by decide) ?_)
    intro w22 hB22 ho22 hs22
    replace h := h.move (j2 := i) (bad2 := true) hB22 ho22
    replace ho := ho.trans' ho22 (fun _ h => h) (fun q _ hq => by subst hq; exact h.hb)
    clear hB22 ho22 hs22
    refine WL.nil ?_
    refine W.ret ?_
    refine ret0 rfl ?_
    obtain rfl : i = T.length := by omega
    exact bad_post (Nat.le_refl _) (Nat.le_refl _) h ⟨[], by simp⟩ hN (fun K => by rw [List.drop_length]; exact prs_nil_none rfl _) ho
end Go.Proofs.YtgmjfcekeglhjaaDoor

set_option linter.unusedSimpArgs false
set_option linter.unusedVariables false
set_option maxRecDepth 100000
namespace Go.Proofs.YtgmjfcekeglhjaaDoor
open Go Go.Vc Go.RowKit Go.Proofs

theorem rval_all (B g : Nat) (T : List UInt8) (hT : T.length ≤ 1048576) : ∀ m i, T.length ≤ m + i → SVal B g T i
  | 0, i, hm => fun nv N w0 h hi hN => rval_step B g T i hT (fun i' hi' => fun nv N w0 h h2 => absurd h2 (by omega)) (fun i' hi' => fun k c nv N w0 hk hs h h2 => absurd h2 (by omega)) nv N w0 h hi hN
  | m + 1, i, hm => fun nv N w0 h hi hN => rval_step B g T i hT (fun i' hi' => rval_all B g T hT m i' (by omega)) (fun i' hi' => fun k c nv N w0 hk hs h h2 hN => rkids_step B g T i' hT (fun i2 h3 => rval_all B g T hT m i2 (by omega)) k c nv N w0 hk hs h h2 hN) nv N w0 h hi hN
theorem par_end {T : List UInt8} {j : Nat} {t : Vt} (h : prsZ .bgn [] (T.drop 0) 0 = prsZ (.aft t) [] (T.drop j) j) (hj : j ≤ T.length) : (j < T.length → parZ T = (none, j)) ∧ (¬ j < T.length → parZ T = (some t, 0)) := by
  have h0 : parZ T = prsZ (.aft t) [] (T.drop j) j := h
  refine ⟨fun hl => ?_, fun hl => ?_⟩
  · rw [h0, ← List.getElem_cons_drop hl]
    exact prs_none rfl _ _
  · rw [h0, List.drop_eq_nil_of_le (by omega)]
    rfl
/-- a list lent out, a mark behind it -/
def mkQ : Nd := ⟨23130, 0, 0⟩
def Lent (w : World) (B g c : Nat) (L : List Nd) : Prop := w.ownsRow B 69 3 (.slice (some ⟨g, 0, none⟩) (L.length + 1) c) (L.length + 1) (nds (L ++ [mkQ]))
theorem Lent.sl {w : World} {B g c : Nat} {L : List Nd} (h : Lent w B g c L) : Sl w 3 (.slice (some ⟨g, 0, none⟩) L.length c) L.length (nds L) := by
  have h1 := Sl.own (own_take (m := L.length) h (by omega))
  have e : nds (L ++ [mkQ]) = nds L ++ ndV mkQ := nds_snoc L mkQ
  rw [e, List.take_left' (nds_len L)] at h1
  exact h1
theorem Lent.only {w w' : World} {F : Nat → Prop} {B g c : Nat} {L : List Nd} (h : Lent w B g c L) (ho : Only F w w') (hn : ¬ F g) : Lent w' B g c L := own_only h ho (fun k hk => by cases hk; exact hn)
theorem Lent.ext {w w' : World} {B g c : Nat} {L : List Nd} (h : Lent w B g c L) (ho : Ext w w') : Lent w' B g c L := own_ext h ho
theorem nds_oneA (L : List Nd) : ∀ a ∈ nds L, a.oneCell' = true := fun a ha => by
  obtain ⟨x, -, h⟩ := List.mem_flatMap.1 ha
  exact one_all (l := ndV x) rfl a h
theorem Lent.lt {w : World} {B g c : Nat} {L : List Nd} (h : Lent w B g c L) : B ≤ g ∧ g < w.heap.size := by
  have h1 : w.ownsRow B 69 3 _ _ _ := h
  exact h1.lt g rfl
theorem Lent.cap {w : World} {B g c : Nat} {L : List Nd} (h : Lent w B g c L) : L.length + 1 ≤ c := by obtain ⟨a, c', h1, h2⟩ := own_form h; cases h1; exact h2

set_option maxHeartbeats 2000000 in
theorem rparse_spec (T : List UInt8) (w0 : World) (hl : T.length ≤ 9223372036854775807) : Ca Tryd.prog 55 #[st T] w0 (fun r w' => Ext w0 w' ∧ (1048576 < T.length → r = .tuple #[.slice none 0 0, .int .i64 4, .int .i64 0]) ∧ (T.length ≤ 1048576 → ((parZ T).1 = none → r = .tuple #[.slice none 0 0, .int .i64 41, .int .i64 ((parZ T).2 : Int)]) ∧ ∀ u, (parZ T).1 = some u → ∃ nv, r = .tuple #[nv, .int .i64 0, .int .i64 0] ∧ w'.ownsRow w0.heap.size 69 3 nv u.flat.length (nds u.flat))) := by
  refine Ca.of Tryd.func55 Tryd.ntmps55 rfl rfl ?_
  refine W.seq ?_
  refine W.region ?_
  refine WL.c rfl (o_ash (by first | exact (show _ = Value.slice _ _ _ from rfl) | exact rfl) ?_)
  refine WL.c rfl (o_ash (show _ = Value.int _ _ from rfl) ?_)
  refine WL.c rfl (o_ash (show _ = Value.int _ _ from rfl) ?_)
  refine WL.nil ?_
  refine W.seq ?_
  refine W.seq ?_
  refine W.region ?_
  refine WL.c rfl (o_mvh (show _ = Value.string _ from rfl) ?_)
  refine WL.c rfl (o_lenT TI9 rfl ?_)
  refine WL.c rfl (o_gt rfl rfl ?_)
  refine WL.nil ?_
  refine W.cond rfl (fun c8 => ?_) (fun c8 => ?_)
  · try simp only [decide_eq_true_eq, decide_eq_false_iff_not, Bool.not_eq_true', Bool.not_eq_false', Bool.and_eq_true, Bool.or_eq_true, Bool.and_eq_false_iff, Bool.or_eq_false_iff] at c8
    refine W.seq ?_
    refine W.region ?_
    refine WL.c rfl (o_ash (by first | exact (show _ = Value.slice _ _ _ from rfl) | exact rfl) ?_)
    refine WL.c rfl (o_ash (show _ = Value.int _ _ from rfl) ?_)
    refine WL.c rfl (o_ash (show _ = Value.int _ _ from rfl) ?_)
    refine WL.nil ?_
    refine W.ret ?_
    refine ret3v rfl rfl (show _ = Value.int _ _ from rfl) (show _ = Value.int _ _ from rfl) ?_
    exact ⟨Only.refl _ _, fun _ => rfl, fun h => absurd h (by omega)⟩
  · try simp only [decide_eq_true_eq, decide_eq_false_iff_not, Bool.not_eq_true', Bool.not_eq_false', Bool.and_eq_true, Bool.or_eq_true, Bool.and_eq_false_iff, Bool.or_eq_false_iff] at c8
    have hT : T.length ≤ 1048576 := by omega
    refine W.skip ?_
    refine W.seq ?_
    refine W.region ?_
    refine WL.c rfl (o_mvh (show _ = Value.string _ from rfl) ?_)
    refine WL.c rfl (o_bldC (cs := [_, (.int .i64 0), (.slice none 0 0), (.bool false)]) TI134 (Sizes.cons TI9 (Sizes.cons TI3 (Sizes.cons TI30 (Sizes.cons TI4 Sizes.nil)))) rfl (lcp (show _ = Value.string _ from rfl) lnp) rfl rfl ?_)
    refine WL.c rfl (o_boxB rfl ?_)
    intro w11 hC11 hx11 hs11
    obtain ⟨b11, hb11⟩ : ∃ b, b = w0.heap.size := ⟨_, rfl⟩
    rw [← hb11] at hC11 ⊢
    replace hC11 : w11.heap[b11]? = some (.cells ([st T, .int .i64 0, .slice none 0 0, .bool false]).toArray 134 (0, 0)) := hC11
    have hR0 : RdR w11 w0.heap.size b11 T 0 (.slice none 0 0) [] false := ⟨hC11, World.ownsRow_nil _ _ _ _, by omega⟩
    refine WL.c rfl (o_ash (by first | exact (show _ = Value.pointer _ from rfl) | exact rfl) ?_)
    refine WL.nil ?_
    refine W.seq ?_
    refine W.region ?_
    refine WL.c rfl (o_mvh (by first | exact (show _ = Value.pointer _ from rfl) | exact rfl) ?_)
    refine WL.c rfl (o_call Tryd.call66 (lc rfl ln) ((rval_all w0.heap.size b11 T hT T.length 0 (by omega) _ _ _ hR0 (Nat.zero_le _) (Nat.le_refl _)).mono ?_))
    rintro v13 w13 ⟨j, nv, N2, bad, h, -, hjT, -, hNj, -, hvg, ho⟩
    have hx13 : Ext w0 w13 := hx11.trans' ho (fun _ h => h) (fun k hk hF => by omega)
    refine WL.nil ?_
    refine W.seq ?_
    refine W.seq ?_
    refine W.region ?_
    refine WL.c rfl (o_mvh (by first | exact (show _ = Value.pointer _ from rfl) | exact rfl) ?_)
    refine WL.c rfl (o_nil rfl ?_)
    refine WL.c rfl (o_fa 3 TI134 rfl TI4 rfl rfl ?_)
    refine WL.c rfl (o_ld TI4 rfl rfl (cell_of h.cell rfl) ?_)
    refine WL.c rfl (o_mvh (show _ = Value.bool _ from rfl) ?_)
    refine WL.sp 4 rfl (fun g18 => ?_) (fun g18 => ?_)
    · skip
      refine WL.s rfl (g18) rfl ?_
      refine WL.s rfl (g18) rfl ?_
      refine WL.s rfl (g18) rfl ?_
      refine WL.s rfl (g18) rfl ?_
      refine WL.s rfl (g18) rfl ?_
      refine WL.s rfl (g18) rfl ?_
      refine WL.s rfl (g18) rfl ?_
      refine WL.c rfl (o_pickT rfl (g18) ?_)
      refine WL.nil ?_
      have hres : (bad = true ∨ j < T.length → parZ T = (none, j)) ∧ (¬ (bad = true ∨ j < T.length) → ∃ u : Vt, N2 = u.flat ∧ parZ T = (some u, 0)) := by
        cases bad with
        | true => exact ⟨fun _ => hvg.1 rfl [], fun h => absurd (.inl rfl) h⟩
        | false =>
          obtain ⟨t, ht, hr⟩ := hvg.2 rfl
          have hp := par_end (hr []) hjT
          refine ⟨fun h => hp.1 (by rcases h with h | h; cases h; exact h), fun h => ⟨t, by simpa using ht, hp.2 (fun h2 => h (.inr h2))⟩⟩
      refine W.cond rfl (fun c26 => ?_) (fun c26 => ?_)
      · try simp only [decide_eq_true_eq, decide_eq_false_iff_not, Bool.not_eq_true', Bool.not_eq_false', Bool.and_eq_true, Bool.or_eq_true, Bool.and_eq_false_iff, Bool.or_eq_false_iff] at c26
        have hz := hres.1 (by first | (left; simp_all; done) | (right; simp_all; done) | (right; simp_all; omega) | (simp_all; omega))
        refine W.seq ?_
        obtain ⟨wd, hwd⟩ : ∃ wd, wd = World.drew w13 := ⟨_, rfl⟩
        refine W.quiet rfl (by kernel_rfl) ?_
        refine WQ.c rfl ((QO.o rfl fun _ => o_mvh (by first | exact (show _ = Value.pointer _ from rfl) | exact rfl) ⟨rfl, rfl⟩)) ?_
        refine WQ.c rfl ((QO.r fun _ => r_nil rfl)) ?_
        refine WQ.c rfl ((QO.o rfl fun _ => o_fa 1 TI134 rfl TI3 rfl rfl ⟨rfl, rfl⟩)) ?_
        refine WQ.c rfl ((QO.o rfl fun _ => o_ld TI3 rfl rfl (cell_of (h.ext (Only.drewN _ _)).cell rfl) ⟨rfl, rfl⟩)) ?_
        refine WQ.c rfl ((QO.o rfl fun _ => o_ash (by first | exact (show _ = Value.slice _ _ _ from rfl) | exact rfl) ⟨rfl, rfl⟩)) ?_
        refine WQ.c rfl ((QO.o rfl fun _ => o_ash (show _ = Value.int _ _ from rfl) ⟨rfl, rfl⟩)) ?_
        refine WQ.c rfl ((QO.o rfl fun _ => o_ash (show _ = Value.int _ _ from rfl) ⟨rfl, rfl⟩)) ?_
        refine WQ.nil ?_
        intro nq
        refine W.ret ?_
        refine ret3v rfl rfl (show _ = Value.int _ _ from rfl) (show _ = Value.int _ _ from rfl) ?_
        exact ⟨hx13.tr (Only.drewN _ _), fun h => absurd h (by omega), fun _ => ⟨fun _ => (by rw [hz]; rfl), fun u hu => (by rw [hz] at hu; cases hu)⟩⟩
      · try simp only [decide_eq_true_eq, decide_eq_false_iff_not, Bool.not_eq_true', Bool.not_eq_false', Bool.and_eq_true, Bool.or_eq_true, Bool.and_eq_false_iff, Bool.or_eq_false_iff] at c26
        obtain ⟨u, rfl, hz⟩ := hres.2 (by first | (simp_all; done) | (simp_all; omega))
        refine W.skip ?_
        refine W.seq ?_
        refine W.region ?_
        refine WL.c rfl (o_mvh (by first | exact (show _ = Value.pointer _ from rfl) | exact rfl) ?_)
        refine WL.c rfl (o_nil rfl ?_)
        refine WL.c rfl (o_fa 2 TI134 rfl TI30 rfl rfl ?_)
        refine WL.c rfl (o_ld TI30 rfl rfl (cell_of h.cell rfl) ?_)
        refine WL.c rfl (o_ash (by first | exact (show _ = Value.slice _ _ _ from rfl) | exact rfl) ?_)
        refine WL.c rfl (o_ash (show _ = Value.int _ _ from rfl) ?_)
        refine WL.c rfl (o_ash (show _ = Value.int _ _ from rfl) ?_)
        refine WL.nil ?_
        refine W.ret ?_
        refine ret3v rfl rfl (show _ = Value.int _ _ from rfl) (show _ = Value.int _ _ from rfl) ?_
        exact ⟨hx13, fun h => absurd h (by omega), fun _ => ⟨fun hn => (by rw [hz] at hn; cases hn), fun u2 hu => (by rw [hz] at hu; cases hu; exact ⟨nv, rfl, by rw [hb11]; exact h.nod⟩)⟩⟩
    · skip
      refine WL.g rfl (g18) rfl (o_mvh (by first | exact (show _ = Value.pointer _ from rfl) | exact rfl) ?_)
      refine WL.g rfl (g18) rfl (o_nil rfl ?_)
      refine WL.g rfl (g18) rfl (o_fa 1 TI134 rfl TI3 rfl rfl ?_)
      refine WL.g rfl (g18) rfl (o_ld TI3 rfl rfl (cell_of h.cell rfl) ?_)
      refine WL.g rfl (g18) rfl (o_mvh (show _ = Value.string _ from rfl) ?_)
      refine WL.g rfl (g18) rfl (o_lenT TI9 rfl ?_)
      refine WL.g rfl (g18) rfl (o_lt rfl rfl ?_)
      refine WL.c rfl (o_pickO rfl rfl ?_)
      refine WL.nil ?_
      have hres : (bad = true ∨ j < T.length → parZ T = (none, j)) ∧ (¬ (bad = true ∨ j < T.length) → ∃ u : Vt, N2 = u.flat ∧ parZ T = (some u, 0)) := by
        cases bad with
        | true => exact ⟨fun _ => hvg.1 rfl [], fun h => absurd (.inl rfl) h⟩
        | false =>
          obtain ⟨t, ht, hr⟩ := hvg.2 rfl
          have hp := par_end (hr []) hjT
          refine ⟨fun h => hp.1 (by rcases h with h | h; cases h; exact h), fun h => ⟨t, by simpa using ht, hp.2 (fun h2 => h (.inr h2))⟩⟩
      refine W.cond rfl (fun c26 => ?_) (fun c26 => ?_)
      · try simp only [decide_eq_true_eq, decide_eq_false_iff_not, Bool.not_eq_true', Bool.not_eq_false', Bool.and_eq_true, Bool.or_eq_true, Bool.and_eq_false_iff, Bool.or_eq_false_iff] at c26
        have hz := hres.1 (by first | (left; simp_all; done) | (right; simp_all; done) | (right; simp_all; omega) | (simp_all; omega))
        refine W.seq ?_
        obtain ⟨wd, hwd⟩ : ∃ wd, wd = World.drew w13 := ⟨_, rfl⟩
        refine W.quiet rfl (by kernel_rfl) ?_
        refine WQ.c rfl ((QO.o rfl fun _ => o_mvh (by first | exact (show _ = Value.pointer _ from rfl) | exact rfl) ⟨rfl, rfl⟩)) ?_
        refine WQ.c rfl ((QO.r fun _ => r_nil rfl)) ?_
        refine WQ.c rfl ((QO.o rfl fun _ => o_fa 1 TI134 rfl TI3 rfl rfl ⟨rfl, rfl⟩)) ?_
        refine WQ.c rfl ((QO.o rfl fun _ => o_ld TI3 rfl rfl (cell_of (h.ext (Only.drewN _ _)).cell rfl) ⟨rfl, rfl⟩)) ?_
        refine WQ.c rfl ((QO.o rfl fun _ => o_ash (by first | exact (show _ = Value.slice _ _ _ from rfl) | exact rfl) ⟨rfl, rfl⟩)) ?_
        refine WQ.c rfl ((QO.o rfl fun _ => o_ash (show _ = Value.int _ _ from rfl) ⟨rfl, rfl⟩)) ?_
        refine WQ.c rfl ((QO.o rfl fun _ => o_ash (show _ = Value.int _ _ from rfl) ⟨rfl, rfl⟩)) ?_
        refine WQ.nil ?_
        intro nq
        refine W.ret ?_
        refine ret3v rfl rfl (show _ = Value.int _ _ from rfl) (show _ = Value.int _ _ from rfl) ?_
        exact ⟨hx13.tr (Only.drewN _ _), fun h => absurd h (by omega), fun _ => ⟨fun _ => (by rw [hz]; rfl), fun u hu => (by rw [hz] at hu; cases hu)⟩⟩
      · try simp only [decide_eq_true_eq, decide_eq_false_iff_not, Bool.not_eq_true', Bool.not_eq_false', Bool.and_eq_true, Bool.or_eq_true, Bool.and_eq_false_iff, Bool.or_eq_false_iff] at c26
        obtain ⟨u, rfl, hz⟩ := hres.2 (by first | (simp_all; done) | (simp_all; omega))
        refine W.skip ?_
        refine W.seq ?_
        refine W.region ?_
        refine WL.c rfl (o_mvh (by first | exact (show _ = Value.pointer _ from rfl) | exact rfl) ?_)
        refine WL.c rfl (o_nil rfl ?_)
        refine WL.c rfl (o_fa 2 TI134 rfl TI30 rfl rfl ?_)
        refine WL.c rfl (o_ld TI30 rfl rfl (cell_of h.cell rfl) ?_)
        refine WL.c rfl (o_ash (by first | exact (show _ = Value.slice _ _ _ from rfl) | exact rfl) ?_)
        refine WL.c rfl (o_ash (show _ = Value.int _ _ from rfl) ?_)
        refine WL.c rfl (o_ash (show _ = Value.int _ _ from rfl) ?_)
        refine WL.nil ?_
        refine W.ret ?_
        refine ret3v rfl rfl (show _ = Value.int _ _ from rfl) (show _ = Value.int _ _ from rfl) ?_
        exact ⟨hx13, fun h => absurd h (by omega), fun _ => ⟨fun hn => (by rw [hz] at hn; cases hn), fun u2 hu => (by rw [hz] at hu; cases hu; exact ⟨nv, rfl, by rw [hb11]; exact h.nod⟩)⟩⟩
theorem cut_spec (L : List Nd) (v : Value) (w0 : World) (hS : Sl w0 3 v L.length (nds L)) (hl : L.length ≤ 9223372036854775807) : Ca Tryd.prog 35 #[v] w0 (fun r w' => Sl w0 3 r (L.take 400).length (nds (L.take 400)) ∧ r.ownBlock = v.ownBlock ∧ w' = w0) := by
  refine Ca.of Tryd.func35 Tryd.ntmps35 rfl rfl ?_
  refine W.seq ?_
  refine W.region ?_
  refine WL.c rfl (o_ash (by first | exact (show _ = Value.slice _ _ _ from rfl) | exact rfl) ?_)
  refine WL.nil ?_
  refine W.seq ?_
  refine W.seq ?_
  refine W.region ?_
  refine WL.c rfl (o_mvh (by first | exact (show _ = Value.slice _ _ _ from rfl) | exact rfl) ?_)
  refine WL.c rfl (o_lenR TI30 rfl hS ?_)
  refine WL.c rfl (o_gt rfl rfl ?_)
  refine WL.nil ?_
  refine W.cond rfl (fun c5 => ?_) (fun c5 => ?_)
  · try simp only [decide_eq_true_eq, decide_eq_false_iff_not, Bool.not_eq_true', Bool.not_eq_false', Bool.and_eq_true, Bool.or_eq_true, Bool.and_eq_false_iff, Bool.or_eq_false_iff] at c5
    refine W.seq ?_
    refine W.region ?_
    refine WL.c rfl (o_mvh (by first | exact (show _ = Value.slice _ _ _ from rfl) | exact rfl) ?_)
    refine WL.c rfl (o_sl TI30 TI69 rfl hS Lo.n (Hi.s (h := 400) rfl) (by omega) (by omega) ?_)
    intro v7 hb7 hS7
    replace hS7 : Sl w0 3 v7 (L.take 400).length (nds (L.take 400)) := by rw [List.length_take, Nat.min_eq_left (by omega), ← nds_take]; simpa using hS7
    refine WL.c rfl (o_ash (by first | exact (show _ = Value.slice _ _ _ from rfl) | exact rfl) ?_)
    refine WL.nil ?_
    refine W.ret ?_
    refine ret1v rfl rfl ?_
    exact ⟨hS7, hb7, rfl⟩
  · try simp only [decide_eq_true_eq, decide_eq_false_iff_not, Bool.not_eq_true', Bool.not_eq_false', Bool.and_eq_true, Bool.or_eq_true, Bool.and_eq_false_iff, Bool.or_eq_false_iff] at c5
    refine W.skip ?_
    refine W.seq ?_
    refine W.region ?_
    refine WL.c rfl (o_mvh (by first | exact (show _ = Value.slice _ _ _ from rfl) | exact rfl) ?_)
    refine WL.c rfl (o_ash (by first | exact (show _ = Value.slice _ _ _ from rfl) | exact rfl) ?_)
    refine WL.nil ?_
    refine W.ret ?_
    refine ret1v rfl rfl ?_
    exact ⟨by rw [List.take_of_length_le (by omega)]; exact hS, rfl, rfl⟩
set_option maxHeartbeats 1000000 in
theorem lent_spec (L : List Nd) (v : Value) (w0 : World) (hS : Sl w0 3 v L.length (nds L)) (hl : L.length ≤ 1000000) : Ca Tryd.prog 36 #[v] w0 (fun r w' => Ext w0 w' ∧ ∃ g c, r = .slice (some ⟨g, 0, none⟩) L.length c ∧ Lent w' w0.heap.size g c L) := by
  refine Ca.of Tryd.func36 Tryd.ntmps36 rfl rfl ?_
  refine W.seq ?_
  refine W.region ?_
  refine WL.c rfl (o_ash (by first | exact (show _ = Value.slice _ _ _ from rfl) | exact rfl) ?_)
  refine WL.nil ?_
  refine W.seq ?_
  refine W.region ?_
  refine WL.c rfl (o_mvh (by first | exact (show _ = Value.slice _ _ _ from rfl) | exact rfl) ?_)
  refine WL.c rfl (o_apO (w0.heap.size) TI30 TI69 (show _ = Value.slice _ _ _ from rfl) rfl (World.ownsRow_nil _ _ _ _) hS rfl (by decide) (nds_oneA L) (by rw [maxLen_eq]; omega) (by omega) (Nat.le_refl _) ?_)
  intro v4 w4 h4 ho4 _hb4 _hk4
  rw [List.nil_append, Nat.zero_add] at h4
  replace ho4 : Ext w0 w4 := ho4.mono (fun k _ hk => by cases hk)
  refine WL.c rfl (o_bldC (cs := [(.int .i64 23130), (.int .u64 0), (.int .i64 0)]) TI69 (Sizes.cons TI3 (Sizes.cons TI43 (Sizes.cons TI3 Sizes.nil))) rfl (lcp (show _ = Value.int _ _ from rfl) lnp) rfl rfl ?_)
  refine WL.ap1 (w0.heap.size) rfl rfl TI30 TI69 rfl rfl h4 (by decide) (by decide) rfl (one_all (by first | rfl | decide)) rfl (by rw [maxLen_eq]; omega) (by omega) ho4.size ?_
  intro v7 w7 h7 ho7
  replace h7 : w7.ownsRow w0.heap.size 69 3 v7 (L.length + 1) (nds (L ++ [mkQ])) := by rw [nds_snoc]; exact h7
  obtain ⟨g, c, rfl, hg⟩ := own_some h7 (by omega)
  have hL : Lent w7 w0.heap.size g c L := h7
  have hcap := hL.cap
  replace ho4 : Ext w0 w7 := ho4.trans' ho7 (fun _ h => h) (fun k hk hF => by have := (h4.lt k hF).1; omega)
  replace hS := hS.ext ho4
  refine WL.c rfl (o_mvh (by first | exact (show _ = Value.slice _ _ _ from rfl) | exact rfl) ?_)
  refine WL.c rfl (o_lenR TI30 rfl hS ?_)
  refine WL.c rfl (o_sl0 TI30 TI69 (h := L.length) rfl rfl (by omega) ?_)
  refine WL.c rfl (o_ash (by first | exact (show _ = Value.slice _ _ _ from rfl) | exact rfl) ?_)
  refine WL.nil ?_
  refine W.ret ?_
  refine ret1v rfl rfl ?_
  exact ⟨ho4, g, c, rfl, hL⟩
set_option maxHeartbeats 1000000 in
theorem kept_spec (B g c : Nat) (L M : List Nd) (v : Value) (w0 : World) (hL : Lent w0 B g c L) (hS : Sl w0 3 v M.length (nds M)) (hl : L.length ≤ 1000000) : Ca Tryd.prog 38 #[.slice (some ⟨g, 0, none⟩) L.length c, v] w0 (fun r w' => r = .bool (decide (L = M)) ∧ Ext w0 w') := by
  refine Ca.of Tryd.func38 Tryd.ntmps38 rfl rfl ?_
  refine W.seq ?_
  refine W.region ?_
  refine WL.c rfl (o_ash (show _ = Value.bool _ from rfl) ?_)
  refine WL.nil ?_
  refine W.seq ?_
  by_cases hLM : L = M
  · skip
    subst hLM
    refine W.region ?_
    refine WL.c rfl (o_mvh (by first | exact (show _ = Value.slice _ _ _ from rfl) | exact rfl) ?_)
    refine WL.c rfl (o_mvh (by first | exact (show _ = Value.slice _ _ _ from rfl) | exact rfl) ?_)
    refine WL.c rfl (o_call Tryd.call18 (lc rfl (lc rfl ln)) ((requal_spec L L _ v _ hL.sl hS (by omega)).mono ?_))
    rintro v7 w7 ⟨rfl, hx7⟩
    replace hL := hL.ext hx7
    replace hS := hS.ext hx7
    have hcap := hL.cap
    refine WL.c rfl (o_mvh (show _ = Value.bool _ from rfl) ?_)
    refine WL.g rfl (by simp) rfl (o_mvh (by first | exact (show _ = Value.slice _ _ _ from rfl) | exact rfl) ?_)
    refine WL.g rfl (by simp) rfl (o_mvh (by first | exact (show _ = Value.slice _ _ _ from rfl) | exact rfl) ?_)
    refine WL.g rfl (by simp) rfl (o_lenR TI30 rfl hS ?_)
    refine WL.g rfl (by simp) rfl (o_addi rfl rfl (by omega) ?_)
    refine WL.g rfl (by simp) rfl (o_sl0 TI30 TI69 (h := L.length + 1) rfl (show _ = Value.int .i64 ((L.length + 1 : Nat) : Int) from by first | rfl | (show Value.int _ _ = Value.int _ _; congr 1)) (by omega) ?_)
    refine WL.g rfl (by simp) rfl (o_mvh (by first | exact (show _ = Value.slice _ _ _ from rfl) | exact rfl) ?_)
    refine WL.g rfl (by simp) rfl (o_lenR TI30 rfl hS ?_)
    refine WL.g rfl (by simp) rfl (o_ixB (i := L.length) TI30 TI69 rfl rfl (by omega) ?_)
    refine WL.g rfl (by simp) rfl (o_fa 0 TI69 rfl TI3 rfl rfl ?_)
    refine WL.g rfl (by simp) rfl (o_ld TI3 rfl rfl (own_cell (j := 0 + L.length * 3 + 0) hL (by rw [Nat.zero_add]; exact (nds_at (by simp) (by decide)).trans (by simp; rfl))) ?_)
    refine WL.g rfl (by simp) rfl (o_eq rfl rfl ?_)
    refine WL.c rfl (o_pickA rfl rfl ?_)
    refine WL.c rfl (o_ash (show _ = Value.bool _ from rfl) ?_)
    refine WL.nil ?_
    refine W.ret ?_
    refine ret1v rfl (show _ = Value.bool _ from rfl) ?_
    exact ⟨congrArg Value.bool (by simp [mkQ]), hx7⟩
  · skip
    skip
    refine W.region ?_
    refine WL.c rfl (o_mvh (by first | exact (show _ = Value.slice _ _ _ from rfl) | exact rfl) ?_)
    refine WL.c rfl (o_mvh (by first | exact (show _ = Value.slice _ _ _ from rfl) | exact rfl) ?_)
    refine WL.c rfl (o_call Tryd.call18 (lc rfl (lc rfl ln)) ((requal_spec L M _ v _ hL.sl hS (by omega)).mono ?_))
    rintro v7 w7 ⟨rfl, hx7⟩
    replace hL := hL.ext hx7
    replace hS := hS.ext hx7
    have hcap := hL.cap
    refine WL.c rfl (o_mvh (show _ = Value.bool _ from rfl) ?_)
    refine WL.s rfl (by simpa using hLM) rfl ?_
    refine WL.s rfl (by simpa using hLM) rfl ?_
    refine WL.s rfl (by simpa using hLM) rfl ?_
    refine WL.s rfl (by simpa using hLM) rfl ?_
    refine WL.s rfl (by simpa using hLM) rfl ?_
    refine WL.s rfl (by simpa using hLM) rfl ?_
    refine WL.s rfl (by simpa using hLM) rfl ?_
    refine WL.s rfl (by simpa using hLM) rfl ?_
    refine WL.s rfl (by simpa using hLM) rfl ?_
    refine WL.s rfl (by simpa using hLM) rfl ?_
    refine WL.s rfl (by simpa using hLM) rfl ?_
    refine WL.c rfl (o_pickF rfl (by simpa using hLM) ?_)
    refine WL.c rfl (o_ash (show _ = Value.bool _ from rfl) ?_)
    refine WL.nil ?_
    refine W.ret ?_
    refine ret1v rfl (show _ = Value.bool _ from rfl) ?_
    exact ⟨congrArg Value.bool (by simp [hLM]), hx7⟩
end Go.Proofs.YtgmjfcekeglhjaaDoor

set_option linter.unusedSimpArgs false
set_option linter.unusedVariables false
set_option maxRecDepth 100000
namespace Go.Proofs.YtgmjfcekeglhjaaDoor
open Go Go.Vc Go.RowKit Go.Proofs

def F8 (wb w : World) (k : Nat) : Prop := wb.heap.size ≤ k ∧ kindAt w k = some (some 5)
theorem F8.step {wb w0 w w' : World} {G : Nat → Prop} (h : Only (F8 wb w0) w0 w) (h2 : Only G w w') (hG : ∀ k, G k → F8 wb w k) : Only (F8 wb w0) w0 w' :=
  h.trans' h2 (fun _ h => h) (fun k hk hF => by
    obtain ⟨h3, h4⟩ := hG k hF
    refine Classical.byContradiction (fun hn => hn ⟨h3, ?_⟩)
    have h5 := h.blk (Array.getElem?_eq_getElem hk) hn
    rw [kindAt, h5] at h4
    rw [kindAt, Array.getElem?_eq_getElem hk]
    exact h4)
theorem F8.row {wb w : World} {n : Nat} {v : Value} {xs : List Value} (h : w.ownsRow wb.heap.size 5 1 v n xs) : ∀ k, v.ownBlock = some k → F8 wb w k := fun k hk => by
  obtain ⟨cap, cur, -, hb, hc, -⟩ := own_blk h hk
  exact ⟨hb, by rw [kindAt, hc]⟩
theorem F8.ext {wb w0 w : World} (hx : Ext wb w0) (h : Only (F8 wb w0) w0 w) : Ext wb w := hx.trans' h (fun _ h => h) (fun k hk hF => by have := hF.1; omega)
theorem F8.off {wb w : World} {b : Nat} {cs : Array Value} {T : TypeId} {fr : Nat × Nat} (h : w.heap[b]? = some (.cells cs T fr)) (hT : T ≠ 5) : ¬ F8 wb w b := fun hF => by
  have := hF.2
  rw [kindAt, h] at this
  cases this
  exact hT rfl
def STX (wb : World) (v : Value) (L : List Nd) (t : Vt) : Prop := ∀ (A C : List Nd) (u : Value) (bs : List UInt8) (w0 : World), L = A ++ (t.flat ++ C) → t.wf → Ext wb w0 → w0.ownsRow wb.heap.size 5 1 u (bs).length ((bs).map bv) → bs.length + t.txt.length ≤ 140737488355328 →
  Ca Tryd.prog 67 #[u, v, .int .i64 (A.length : Int)] w0 (fun r w' => ∃ u', r = .tuple #[u', .int .i64 ((A.length + t.flat.length : Nat) : Int)] ∧ w'.ownsRow wb.heap.size 5 1 u' (bs ++ t.txt).length ((bs ++ t.txt).map bv) ∧ Only (F8 wb w0) w0 w')
theorem leaf_nil {x : Nd} {ks : Vts} (hw : (Vt.node x ks).wf) (h : x.kind = 1 ∨ x.kind = 2 ∨ x.kids = 0) : ks = .nil := by
  obtain ⟨h1, h2, -⟩ := hw
  refine Vts.nil_of ?_
  simp only [rightN, Bool.and_eq_true, decide_eq_true_eq] at h1
  have : x.kids ≤ 0 := by
    rcases h with h | h | h
    · have := h1.2; rw [h] at this; simpa [mostK] using this
    · have := h1.2; rw [h] at this; simpa [mostK] using this
    · omega
  omega
theorem kind_in {x : Nd} {ks : Vts} (hw : (Vt.node x ks).wf) : x.kind = 1 ∨ x.kind = 2 ∨ x.kind = 3 ∨ x.kind = 4 ∨ x.kind = 5 ∨ x.kind = 6 := by
  have h1 := hw.1
  simp only [rightN, numB, Bool.and_eq_true, Bool.or_eq_true, decide_eq_true_eq] at h1
  omega
theorem Sl.top {w : World} {v : Value} {L A F : List Nd} {x : Nd} (h : Sl w 3 v L.length (nds L)) (hL : L = A ++ x :: F) : ∃ b o c, v = .slice (some ⟨b, o, none⟩) L.length c ∧ Cells w b (o + A.length * 3) (ndV x) := by
  have hk : A.length < L.length := by rw [hL]; simp
  obtain ⟨b, o, c, h1, h2⟩ := Sl.nd h hk
  have e : L[A.length] = x := by subst hL; simp
  rw [e] at h2
  exact ⟨b, o, c, h1, h2⟩

set_option maxHeartbeats 8000000 in
theorem text_step (wb : World) (v : Value) (L : List Nd) (hS0 : Sl wb 3 v L.length (nds L)) (hN : NOk L) (hTb : Tab wb) (h00 : 0 < wb.heap.size) (hLl : L.length ≤ 5864062014805) (x : Nd) (ks : Vts) (IH : ∀ t : Vt, t.flat.length ≤ ks.flat.length → STX wb v L t) (A C : List Nd) (u : Value) (bs : List UInt8) (w0 : World) (hL : L = A ++ ((Vt.node x ks).flat ++ C)) (hw : (Vt.node x ks).wf) (hx : Ext wb w0) (hu : w0.ownsRow wb.heap.size 5 1 u (bs).length ((bs).map bv)) (hsz : bs.length + (Vt.node x ks).txt.length ≤ 140737488355328) : Ca Tryd.prog 67 #[u, v, .int .i64 (A.length : Int)] w0 (fun r w' => ∃ u', r = .tuple #[u', .int .i64 ((A.length + (Vt.node x ks).flat.length : Nat) : Int)] ∧ w'.ownsRow wb.heap.size 5 1 u' (bs ++ (Vt.node x ks).txt).length ((bs ++ (Vt.node x ks).txt).map bv) ∧ Only (F8 wb w0) w0 w') := by
  rw [Vt.flat, List.cons_append] at hL
  obtain ⟨sb, so, sc, rfl, hsc⟩ := Sl.top hS0 hL
  have hLA : A.length < L.length := by rw [hL]; simp
  have hxn : x.n < 18446744073709551616 := hN x (by rw [hL]; simp)
  have hkin := kind_in hw
  have hkl : (ks.len : Int) = x.kids := hw.2.1
  have hkm := right_kids hw.1
  rw [Vt.txt] at hsz ⊢
  have ho : Only (F8 wb w0) w0 w0 := Only.refl _ _
  refine Ca.of Tryd.func67 Tryd.ntmps67 rfl rfl ?_
  refine W.seq ?_
  refine W.region ?_
  refine WL.c rfl (o_ash (by first | exact (show _ = Value.slice _ _ _ from rfl) | exact rfl) ?_)
  refine WL.c rfl (o_ash (show _ = Value.int _ _ from rfl) ?_)
  refine WL.nil ?_
  refine W.seq ?_
  refine W.region ?_
  refine WL.c rfl (o_mvh (by first | exact (show _ = Value.slice _ _ _ from rfl) | exact rfl) ?_)
  refine WL.c rfl (o_mvh (show _ = Value.int _ _ from rfl) ?_)
  refine WL.c rfl (o_ixB (i := A.length) TI30 TI69 (show _ = Value.slice (some ⟨sb, so, none⟩) L.length sc from by first | rfl | assumption) rfl (by omega) ?_)
  refine WL.c rfl (o_ldA TI69 rfl rfl (hsc.only hx (fun h => h)) rfl ?_)
  refine WL.c rfl (o_alB TI69 ?_)
  intro wa hCa hxa hsa
  refine WL.u (o_stA TI69 rfl (show _ = Value.agg (ndV x).toArray from rfl) rfl rfl hCa rfl ?_)
  intro wb8 hC8 hob hsb
  have hxb := Ext.own hxa (Nat.le_refl _) hob
  obtain ⟨b8, hb8⟩ : ∃ b, b = w0.heap.size := ⟨_, rfl⟩
  rw [← hb8] at hC8 ⊢
  clear hCa hxa hsa hob hsb
  replace hx := hx.tr hxb
  replace hu := own_ext hu hxb
  replace ho := ho.trans' hxb (fun _ h => h) (fun _ _ h => h.elim)
  clear hxb
  refine WL.nil ?_
  refine W.seq ?_
  refine W.region ?_
  refine WL.c rfl (o_ash (show _ = Value.string _ from rfl) ?_)
  refine WL.nil ?_
  refine W.seq ?_
  refine W.region ?_
  refine WL.c rfl (o_ash (show _ = Value.string _ from rfl) ?_)
  refine WL.nil ?_
  refine W.seq ?_
  refine W.seq ?_
  refine W.region ?_
  refine WL.c rfl (o_fa 0 TI69 rfl TI3 rfl rfl ?_)
  refine WL.c rfl (o_ld TI3 rfl rfl (cell_of hC8 rfl) ?_)
  refine WL.nil ?_
  refine W.block ?_
  refine W.seq ?_
  refine W.region ?_
  refine WL.c rfl (o_eq rfl rfl ?_)
  refine WL.c rfl (o_ash (show _ = Value.bool _ from rfl) ?_)
  refine WL.nil ?_
  refine W.cond rfl (fun c24 => ?_) (fun c24 => ?_)
  · try simp only [decide_eq_true_eq, decide_eq_false_iff_not, Bool.not_eq_true', Bool.not_eq_false', Bool.and_eq_true, Bool.or_eq_true, Bool.and_eq_false_iff, Bool.or_eq_false_iff] at c24
    have hk1 : x.kind = 1 := by simpa using c24
    obtain rfl := leaf_nil hw (.inl hk1)
    have htx : leafT x ++ (Vts.nil.txtS false ++ shutT x.kind) = digL x.n := by simp [leafT, shutT, hk1, Vts.txtS]
    rw [htx] at hsz ⊢
    refine W.seq ?_
    refine W.region ?_
    refine WL.c rfl (o_mvh (by first | exact (show _ = Value.slice _ _ _ from rfl) | exact rfl) ?_)
    refine WL.c rfl (o_fa 1 TI69 rfl TI43 rfl rfl ?_)
    refine WL.c rfl (o_ld TI43 rfl rfl (cell_of hC8 rfl) ?_)
    refine WL.c rfl (o_call Tryd.call61 (lc rfl (lc rfl ln)) ((fmtu_spec x.n hxn _ (hTb.ext hx) (by have := hx.size; omega)).mono ?_))
    rintro v29 w29 ⟨rfl, hx29⟩
    replace hx := hx.tr hx29
    replace hu := own_ext hu hx29
    replace ho := ho.trans' hx29 (fun _ h => h) (fun _ _ h => h.elim)
    replace hC8 := hx29.blk hC8 (fun h => h)
    have h20 := digL_20 hxn
    refine WL.c rfl (o_apS (wb.heap.size) TI73 TI5 TI9 rfl rfl hu rfl (by rw [maxLen_eq]; first | omega | (simp at hsz ⊢; omega)) (by first | omega | (simp at hsz ⊢; omega)) hx.size ?_)
    intro v30 w30 hown ho30
    have hul : ∀ k, (u).ownBlock = some k → wb.heap.size ≤ k := fun k hk => (hu.lt k hk).1
    have hu9 : w30.ownsRow wb.heap.size 5 1 v30 (bs ++ digL x.n).length ((bs ++ digL x.n).map bv) := by rw [List.length_append, List.map_append]; exact hown
    replace hC8 := ho30.blk hC8 (own_off hu hC8 (by decide))
    replace ho := F8.step ho ho30 (F8.row hu)
    replace hx := hx.trans' ho30 (fun _ h => h) (fun k hk hF => by have := hul k hF; omega)
    clear hu hown ho30 hul
    have hu := hu9
    clear hu9
    refine WL.c rfl (o_mvh (show _ = Value.int _ _ from rfl) ?_)
    refine WL.c rfl (o_addi rfl rfl (by omega) ?_)
    refine WL.c rfl (o_ash (by first | exact (show _ = Value.slice _ _ _ from rfl) | exact rfl) ?_)
    refine WL.c rfl (o_ash (show _ = Value.int _ _ from rfl) ?_)
    refine WL.nil ?_
    refine W.ret ?_
    refine ret2v rfl rfl (show _ = Value.int _ _ from rfl) ?_
    exact ⟨_, congrArg (fun z => Value.tuple #[_, .int .i64 z]) (by push_cast; simp [Vt.flat, Vts.flat]), hu, ho⟩
  · try simp only [decide_eq_true_eq, decide_eq_false_iff_not, Bool.not_eq_true', Bool.not_eq_false', Bool.and_eq_true, Bool.or_eq_true, Bool.and_eq_false_iff, Bool.or_eq_false_iff] at c24
    refine W.seq ?_
    refine W.region ?_
    refine WL.c rfl (o_eq rfl rfl ?_)
    refine WL.c rfl (o_ash (show _ = Value.bool _ from rfl) ?_)
    refine WL.nil ?_
    refine W.cond rfl (fun c33 => ?_) (fun c33 => ?_)
    · try simp only [decide_eq_true_eq, decide_eq_false_iff_not, Bool.not_eq_true', Bool.not_eq_false', Bool.and_eq_true, Bool.or_eq_true, Bool.and_eq_false_iff, Bool.or_eq_false_iff] at c33
      have hk1 : x.kind = 2 := by simpa using c33
      obtain rfl := leaf_nil hw (.inr (.inl hk1))
      refine W.seq ?_
      refine W.seq ?_
      refine W.region ?_
      refine WL.c rfl (o_fa 1 TI69 rfl TI43 rfl rfl ?_)
      refine WL.c rfl (o_ld TI43 rfl rfl (cell_of hC8 rfl) ?_)
      refine WL.c rfl (o_eq rfl rfl ?_)
      refine WL.nil ?_
      refine W.cond rfl (fun c37 => ?_) (fun c37 => ?_)
      · try simp only [decide_eq_true_eq, decide_eq_false_iff_not, Bool.not_eq_true', Bool.not_eq_false', Bool.and_eq_true, Bool.or_eq_true, Bool.and_eq_false_iff, Bool.or_eq_false_iff] at c37
        have hn1 : x.n = 1 := by omega
        have htx : leafT x ++ (Vts.nil.txtS false ++ shutT x.kind) = [116, 114, 117, 101] := by simp [leafT, shutT, hk1, hn1, Vts.txtS]
        rw [htx] at hsz ⊢
        refine W.seq ?_
        refine W.region ?_
        refine WL.c rfl (o_mvh (by first | exact (show _ = Value.slice _ _ _ from rfl) | exact rfl) ?_)
        refine WL.c rfl (o_apS (wb.heap.size) TI73 TI5 TI9 rfl rfl hu rfl (by rw [maxLen_eq]; first | omega | (simp at hsz ⊢; omega)) (by first | omega | (simp at hsz ⊢; omega)) hx.size ?_)
        intro v39 w39 hown ho39
        have hul : ∀ k, (u).ownBlock = some k → wb.heap.size ≤ k := fun k hk => (hu.lt k hk).1
        have hu9 : w39.ownsRow wb.heap.size 5 1 v39 (bs ++ [116, 114, 117, 101]).length ((bs ++ [116, 114, 117, 101]).map bv) := by rw [List.length_append, List.map_append]; exact hown
        replace hC8 := ho39.blk hC8 (own_off hu hC8 (by decide))
        replace ho := F8.step ho ho39 (F8.row hu)
        replace hx := hx.trans' ho39 (fun _ h => h) (fun k hk hF => by have := hul k hF; omega)
        clear hu hown ho39 hul
        have hu := hu9
        clear hu9
        refine WL.c rfl (o_mvh (show _ = Value.int _ _ from rfl) ?_)
        refine WL.c rfl (o_addi rfl rfl (by omega) ?_)
        refine WL.c rfl (o_ash (by first | exact (show _ = Value.slice _ _ _ from rfl) | exact rfl) ?_)
        refine WL.c rfl (o_ash (show _ = Value.int _ _ from rfl) ?_)
        refine WL.nil ?_
        refine W.ret ?_
        refine ret2v rfl rfl (show _ = Value.int _ _ from rfl) ?_
        exact ⟨_, congrArg (fun z => Value.tuple #[_, .int .i64 z]) (by push_cast; simp [Vt.flat, Vts.flat]), hu, ho⟩
      · try simp only [decide_eq_true_eq, decide_eq_false_iff_not, Bool.not_eq_true', Bool.not_eq_false', Bool.and_eq_true, Bool.or_eq_true, Bool.and_eq_false_iff, Bool.or_eq_false_iff] at c37
        have hn1 : ¬ x.n = 1 := by omega
        have htx : leafT x ++ (Vts.nil.txtS false ++ shutT x.kind) = [102, 97, 108, 115, 101] := by simp [leafT, shutT, hk1, hn1, Vts.txtS]
        rw [htx] at hsz ⊢
        refine W.skip ?_
        refine W.seq ?_
        refine W.region ?_
        refine WL.c rfl (o_mvh (by first | exact (show _ = Value.slice _ _ _ from rfl) | exact rfl) ?_)
        refine WL.c rfl (o_apS (wb.heap.size) TI73 TI5 TI9 rfl rfl hu rfl (by rw [maxLen_eq]; first | omega | (simp at hsz ⊢; omega)) (by first | omega | (simp at hsz ⊢; omega)) hx.size ?_)
        intro v43 w43 hown ho43
        have hul : ∀ k, (u).ownBlock = some k → wb.heap.size ≤ k := fun k hk => (hu.lt k hk).1
        have hu9 : w43.ownsRow wb.heap.size 5 1 v43 (bs ++ [102, 97, 108, 115, 101]).length ((bs ++ [102, 97, 108, 115, 101]).map bv) := by rw [List.length_append, List.map_append]; exact hown
        replace hC8 := ho43.blk hC8 (own_off hu hC8 (by decide))
        replace ho := F8.step ho ho43 (F8.row hu)
        replace hx := hx.trans' ho43 (fun _ h => h) (fun k hk hF => by have := hul k hF; omega)
        clear hu hown ho43 hul
        have hu := hu9
        clear hu9
        refine WL.c rfl (o_mvh (show _ = Value.int _ _ from rfl) ?_)
        refine WL.c rfl (o_addi rfl rfl (by omega) ?_)
        refine WL.c rfl (o_ash (by first | exact (show _ = Value.slice _ _ _ from rfl) | exact rfl) ?_)
        refine WL.c rfl (o_ash (show _ = Value.int _ _ from rfl) ?_)
        refine WL.nil ?_
        refine W.ret ?_
        refine ret2v rfl rfl (show _ = Value.int _ _ from rfl) ?_
        exact ⟨_, congrArg (fun z => Value.tuple #[_, .int .i64 z]) (by push_cast; simp [Vt.flat, Vts.flat]), hu, ho⟩
    · try simp only [decide_eq_true_eq, decide_eq_false_iff_not, Bool.not_eq_true', Bool.not_eq_false', Bool.and_eq_true, Bool.or_eq_true, Bool.and_eq_false_iff, Bool.or_eq_false_iff] at c33
      refine W.seq ?_
      refine W.region ?_
      refine WL.c rfl (o_eq rfl rfl ?_)
      refine WL.c rfl (o_ash (show _ = Value.bool _ from rfl) ?_)
      refine WL.nil ?_
      refine W.cut (fun e1 w1 => e1 9 = st (leafT x) ∧ e1 10 = st (shutT x.kind) ∧ e1 0 = u ∧ e1 1 = Value.slice (some ⟨sb, so, none⟩) L.length sc ∧ e1 2 = .int .i64 (A.length : Int) ∧ e1 8 = .pointer (some ⟨b8, 0, none⟩) ∧ w1.heap[b8]? = some (.cells (ndV x).toArray 69 (0, 0)) ∧ w1.ownsRow wb.heap.size 5 1 u (bs).length ((bs).map bv) ∧ Ext wb w1 ∧ Only (F8 wb w0) w0 w1) ?_ ?_
      · -- both ways
        refine W.cond rfl (fun c46 => ?_) (fun c46 => ?_)
        · try simp only [decide_eq_true_eq, decide_eq_false_iff_not, Bool.not_eq_true', Bool.not_eq_false', Bool.and_eq_true, Bool.or_eq_true, Bool.and_eq_false_iff, Bool.or_eq_false_iff] at c46
          have hk1 : x.kind = 3 := by simpa using c46
          refine W.seq ?_
          refine W.region ?_
          refine WL.c rfl (o_ash (show _ = Value.string _ from rfl) ?_)
          refine WL.nil ?_
          refine W.region ?_
          refine WL.c rfl (o_ash (show _ = Value.string _ from rfl) ?_)
          refine WL.nil ?_
          first | exact ⟨by simp [leafT, hk1]; rfl, by simp [shutT, hk1]; rfl, rfl, rfl, rfl, rfl, hC8, hu, hx, ho⟩ | exact ⟨by simp [leafT, hk1, hk0]; rfl, by simp [shutT, hk1]; rfl, rfl, rfl, rfl, rfl, hC8, hu, hx, ho⟩
        · try simp only [decide_eq_true_eq, decide_eq_false_iff_not, Bool.not_eq_true', Bool.not_eq_false', Bool.and_eq_true, Bool.or_eq_true, Bool.and_eq_false_iff, Bool.or_eq_false_iff] at c46
          refine W.seq ?_
          refine W.region ?_
          refine WL.c rfl (o_eq rfl rfl ?_)
          refine WL.c rfl (o_ash (show _ = Value.bool _ from rfl) ?_)
          refine WL.nil ?_
          refine W.cond rfl (fun c48 => ?_) (fun c48 => ?_)
          · try simp only [decide_eq_true_eq, decide_eq_false_iff_not, Bool.not_eq_true', Bool.not_eq_false', Bool.and_eq_true, Bool.or_eq_true, Bool.and_eq_false_iff, Bool.or_eq_false_iff] at c48
            have hk1 : x.kind = 4 := by simpa using c48
            refine W.seq ?_
            refine W.region ?_
            refine WL.c rfl (o_ash (show _ = Value.string _ from rfl) ?_)
            refine WL.nil ?_
            refine W.region ?_
            refine WL.c rfl (o_ash (show _ = Value.string _ from rfl) ?_)
            refine WL.nil ?_
            first | exact ⟨by simp [leafT, hk1]; rfl, by simp [shutT, hk1]; rfl, rfl, rfl, rfl, rfl, hC8, hu, hx, ho⟩ | exact ⟨by simp [leafT, hk1, hk0]; rfl, by simp [shutT, hk1]; rfl, rfl, rfl, rfl, rfl, hC8, hu, hx, ho⟩
          · try simp only [decide_eq_true_eq, decide_eq_false_iff_not, Bool.not_eq_true', Bool.not_eq_false', Bool.and_eq_true, Bool.or_eq_true, Bool.and_eq_false_iff, Bool.or_eq_false_iff] at c48
            refine W.seq ?_
            refine W.region ?_
            refine WL.c rfl (o_eq rfl rfl ?_)
            refine WL.c rfl (o_ash (show _ = Value.bool _ from rfl) ?_)
            refine WL.nil ?_
            refine W.cond rfl (fun c50 => ?_) (fun c50 => ?_)
            · try simp only [decide_eq_true_eq, decide_eq_false_iff_not, Bool.not_eq_true', Bool.not_eq_false', Bool.and_eq_true, Bool.or_eq_true, Bool.and_eq_false_iff, Bool.or_eq_false_iff] at c50
              have hk1 : x.kind = 5 := by simpa using c50
              refine W.seq ?_
              refine W.seq ?_
              refine W.region ?_
              refine WL.c rfl (o_fa 2 TI69 rfl TI3 rfl rfl ?_)
              refine WL.c rfl (o_ld TI3 rfl rfl (cell_of hC8 rfl) ?_)
              refine WL.c rfl (o_eq rfl rfl ?_)
              refine WL.nil ?_
              refine W.cond rfl (fun c54 => ?_) (fun c54 => ?_)
              · try simp only [decide_eq_true_eq, decide_eq_false_iff_not, Bool.not_eq_true', Bool.not_eq_false', Bool.and_eq_true, Bool.or_eq_true, Bool.and_eq_false_iff, Bool.or_eq_false_iff] at c54
                have hk0 : x.kids = 0 := by omega
                obtain rfl := leaf_nil hw (.inr (.inr hk0))
                have htx : leafT x ++ (Vts.nil.txtS false ++ shutT x.kind) = [110, 111, 110, 101] := by simp [leafT, shutT, hk1, hk0, Vts.txtS]
                rw [htx] at hsz ⊢
                refine W.seq ?_
                refine W.region ?_
                refine WL.c rfl (o_mvh (by first | exact (show _ = Value.slice _ _ _ from rfl) | exact rfl) ?_)
                refine WL.c rfl (o_apS (wb.heap.size) TI73 TI5 TI9 rfl rfl hu rfl (by rw [maxLen_eq]; first | omega | (simp at hsz ⊢; omega)) (by first | omega | (simp at hsz ⊢; omega)) hx.size ?_)
                intro v56 w56 hown ho56
                have hul : ∀ k, (u).ownBlock = some k → wb.heap.size ≤ k := fun k hk => (hu.lt k hk).1
                have hu9 : w56.ownsRow wb.heap.size 5 1 v56 (bs ++ [110, 111, 110, 101]).length ((bs ++ [110, 111, 110, 101]).map bv) := by rw [List.length_append, List.map_append]; exact hown
                replace hC8 := ho56.blk hC8 (own_off hu hC8 (by decide))
                replace ho := F8.step ho ho56 (F8.row hu)
                replace hx := hx.trans' ho56 (fun _ h => h) (fun k hk hF => by have := hul k hF; omega)
                clear hu hown ho56 hul
                have hu := hu9
                clear hu9
                refine WL.c rfl (o_mvh (show _ = Value.int _ _ from rfl) ?_)
                refine WL.c rfl (o_addi rfl rfl (by omega) ?_)
                refine WL.c rfl (o_ash (by first | exact (show _ = Value.slice _ _ _ from rfl) | exact rfl) ?_)
                refine WL.c rfl (o_ash (show _ = Value.int _ _ from rfl) ?_)
                refine WL.nil ?_
                refine W.ret ?_
                refine ret2v rfl rfl (show _ = Value.int _ _ from rfl) ?_
                exact ⟨_, congrArg (fun z => Value.tuple #[_, .int .i64 z]) (by push_cast; simp [Vt.flat, Vts.flat]), hu, ho⟩
              · try simp only [decide_eq_true_eq, decide_eq_false_iff_not, Bool.not_eq_true', Bool.not_eq_false', Bool.and_eq_true, Bool.or_eq_true, Bool.and_eq_false_iff, Bool.or_eq_false_iff] at c54
                have hk0 : ¬ x.kids = 0 := by omega
                refine W.skip ?_
                refine W.region ?_
                refine WL.c rfl (o_ash (show _ = Value.string _ from rfl) ?_)
                refine WL.nil ?_
                first | exact ⟨by simp [leafT, hk1]; rfl, by simp [shutT, hk1]; rfl, rfl, rfl, rfl, rfl, hC8, hu, hx, ho⟩ | exact ⟨by simp [leafT, hk1, hk0]; rfl, by simp [shutT, hk1]; rfl, rfl, rfl, rfl, rfl, hC8, hu, hx, ho⟩
            · try simp only [decide_eq_true_eq, decide_eq_false_iff_not, Bool.not_eq_true', Bool.not_eq_false', Bool.and_eq_true, Bool.or_eq_true, Bool.and_eq_false_iff, Bool.or_eq_false_iff] at c50
              refine W.seq ?_
              have hk1 : x.kind = 6 := by omega
              refine W.region ?_
              refine WL.c rfl (o_fa 1 TI69 rfl TI43 rfl rfl ?_)
              refine WL.c rfl (o_ld TI43 rfl rfl (cell_of hC8 rfl) ?_)
              refine WL.c rfl (o_call Tryd.call61 (lc rfl (lc rfl ln)) ((fmtu_spec x.n hxn _ (hTb.ext hx) (by have := hx.size; omega)).mono ?_))
              rintro v21 w21 ⟨rfl, hx21⟩
              replace hx := hx.tr hx21
              replace hu := own_ext hu hx21
              replace ho := ho.trans' hx21 (fun _ h => h) (fun _ _ h => h.elim)
              replace hC8 := hx21.blk hC8 (fun h => h)
              have h20 := digL_20 hxn
              refine WL.c rfl (o_addT rfl rfl (by simp; omega) ?_)
              refine WL.c rfl (o_addT rfl rfl (by simp; omega) ?_)
              refine WL.c rfl (o_ash (show _ = Value.string _ from rfl) ?_)
              refine WL.nil ?_
              refine W.region ?_
              refine WL.c rfl (o_ash (show _ = Value.string _ from rfl) ?_)
              refine WL.nil ?_
              first | exact ⟨by simp [leafT, hk1]; rfl, by simp [shutT, hk1]; rfl, rfl, rfl, rfl, rfl, hC8, hu, hx, ho⟩ | exact ⟨by simp [leafT, hk1, hk0]; rfl, by simp [shutT, hk1]; rfl, rfl, rfl, rfl, rfl, hC8, hu, hx, ho⟩
      rintro e w ⟨h9, h10, h0, h1, h2, h8, hC8, hu, hx, ho⟩
      refine W.seq ?_
      refine W.region ?_
      refine WL.c rfl (o_mvh h0 ?_)
      refine WL.c rfl (o_mvh h9 ?_)
      refine WL.c rfl (o_apS (wb.heap.size) TI73 TI5 TI9 rfl rfl hu rfl (by rw [maxLen_eq]; first | omega | (simp at hsz ⊢; omega)) (by first | omega | (simp at hsz ⊢; omega)) hx.size ?_)
      intro v61 w61 hown ho61
      have hul : ∀ k, (u).ownBlock = some k → wb.heap.size ≤ k := fun k hk => (hu.lt k hk).1
      have hu9 : w61.ownsRow wb.heap.size 5 1 v61 (bs ++ leafT x).length ((bs ++ leafT x).map bv) := by rw [List.length_append, List.map_append]; exact hown
      replace hC8 := ho61.blk hC8 (own_off hu hC8 (by decide))
      replace ho := F8.step ho ho61 (F8.row hu)
      replace hx := hx.trans' ho61 (fun _ h => h) (fun k hk hF => by have := hul k hF; omega)
      clear hu hown ho61 hul
      have hu := hu9
      clear hu9
      refine WL.c rfl (o_ash (by first | exact (show _ = Value.slice _ _ _ from rfl) | exact rfl) ?_)
      refine WL.nil ?_
      refine W.seq ?_
      refine W.region ?_
      refine WL.c rfl (o_mvh h2 ?_)
      refine WL.c rfl (o_addi rfl rfl (by omega) ?_)
      refine WL.c rfl (o_ash (show _ = Value.int _ _ from rfl) ?_)
      refine WL.nil ?_
      refine W.seq ?_
      refine W.seq ?_
      refine W.region ?_
      refine WL.c rfl (o_ash (show _ = Value.int _ _ from rfl) ?_)
      refine WL.nil ?_
      refine W.block ?_
      refine W.loop (fun e w => ∃ (k : Nat) (P : List Nd) (rest : Vts) (b : List UInt8) (uu : Value), k + rest.len = ks.len ∧ ks.flat = P ++ rest.flat ∧ rest.wf ∧ leafT x ++ ks.txtS false = b ++ rest.txtS (decide (0 < k)) ∧ e 0 = uu ∧ e 1 = Value.slice (some ⟨sb, so, none⟩) L.length sc ∧ e 2 = .int .i64 (A.length : Int) ∧ e 8 = .pointer (some ⟨b8, 0, none⟩) ∧ e 10 = st (shutT x.kind) ∧ e 11 = .int .i64 ((A.length + 1 + P.length : Nat) : Int) ∧ e 12 = .int .i64 (k : Int) ∧ w.heap[b8]? = some (.cells (ndV x).toArray 69 (0, 0)) ∧ w.ownsRow wb.heap.size 5 1 uu (bs ++ b).length ((bs ++ b).map bv) ∧ Ext wb w ∧ Only (F8 wb w0) w0 w) (fun e w => ks.len - (intOf (e 12)).toNat) ?_ ?_
      · exact ⟨0, [], ks, leafT x, _, by omega, rfl, hw.2.2, rfl, rfl, h1, h2, h8, h10, rfl, rfl, hC8, hu, hx, ho⟩
      rintro e w ⟨k, P, rest, b, uu, hkl2, hq, hrw, hqs, h0, h1, h2, h8, h10, h11, h12, hC8, hu, hx, ho⟩
      have hm12 := h12
      have hqb := congrArg List.length hq
      rw [List.length_append] at hqb
      have hqc := congrArg List.length hqs
      rw [List.length_append, List.length_append] at hqc
      have hLl2 := congrArg List.length hL
      simp only [List.length_append, List.length_cons] at hLl2 hsz
      refine W.seq ?_
      refine W.seq ?_
      rcases rest with _ | ⟨t, ts⟩
      · skip
        have hk0 : k = ks.len := by simpa [Vts.len] using hkl2
        have hqz : leafT x ++ ks.txtS false = b := by rw [hqs]; simp [Vts.txtS]
        have hqf : ks.flat = P := by rw [hq]; simp [Vts.flat]
        refine W.region ?_
        refine WL.c rfl (o_mvh h12 ?_)
        refine WL.c rfl (o_fa 2 TI69 rfl TI3 rfl h8 ?_)
        refine WL.c rfl (o_ld TI3 rfl rfl (cell_of hC8 rfl) ?_)
        refine WL.c rfl (o_lt rfl rfl ?_)
        refine WL.nil ?_
        refine W.condF' rfl (by simp; omega) ?_
        refine W.exit ?_
        refine W.seq ?_
        refine W.region ?_
        refine WL.c rfl (o_mvh h0 ?_)
        refine WL.c rfl (o_mvh h10 ?_)
        refine WL.c rfl (o_apS (wb.heap.size) TI73 TI5 TI9 rfl rfl hu rfl (by rw [maxLen_eq]; simp only [List.length_append, List.length_cons, List.length_nil] at hsz hqc ⊢; omega) (by simp only [List.length_append, List.length_cons, List.length_nil] at hsz hqc ⊢; omega) hx.size ?_)
        intro v83 w83 hown ho83
        have hul : ∀ k, (uu).ownBlock = some k → wb.heap.size ≤ k := fun k hk => (hu.lt k hk).1
        have hu9 : w83.ownsRow wb.heap.size 5 1 v83 (bs ++ b ++ shutT x.kind).length ((bs ++ b ++ shutT x.kind).map bv) := by rw [List.length_append, List.map_append]; exact hown
        replace hC8 := ho83.blk hC8 (own_off hu hC8 (by decide))
        replace ho := F8.step ho ho83 (F8.row hu)
        replace hx := hx.trans' ho83 (fun _ h => h) (fun k hk hF => by have := hul k hF; omega)
        clear hu hown ho83 hul
        have hu := hu9
        clear hu9
        refine WL.c rfl (o_mvh h11 ?_)
        refine WL.c rfl (o_ash (by first | exact (show _ = Value.slice _ _ _ from rfl) | exact rfl) ?_)
        refine WL.c rfl (o_ash (show _ = Value.int _ _ from rfl) ?_)
        refine WL.nil ?_
        refine W.ret ?_
        refine ret2v rfl rfl (show _ = Value.int _ _ from rfl) ?_
        refine ⟨v83, congrArg (fun z => Value.tuple #[_, .int .i64 z]) (by rw [Vt.flat, List.length_cons, hqf]; push_cast; omega), ?_, ho⟩
        rw [← List.append_assoc (leafT x), hqz, ← List.append_assoc]
        exact hu
      · skip
        have hk1 : k + ts.len + 1 = ks.len := by simp only [Vts.len] at hkl2; omega
        have hsr : (Vts.cons t ts).txtS (decide (0 < k)) = (if decide (0 < k) = true then [44, 32] else []) ++ (t.txt ++ ts.txtS true) := rfl
        rw [hsr] at hqc
        simp only [List.length_append, Vts.flat] at hqc hqb
        refine W.region ?_
        refine WL.c rfl (o_mvh h12 ?_)
        refine WL.c rfl (o_fa 2 TI69 rfl TI3 rfl h8 ?_)
        refine WL.c rfl (o_ld TI3 rfl rfl (cell_of hC8 rfl) ?_)
        refine WL.c rfl (o_lt rfl rfl ?_)
        refine WL.nil ?_
        refine W.condT' rfl (by simp; omega) ?_
        refine W.skip ?_
        refine W.seq ?_
        refine W.block ?_
        refine W.seq ?_
        refine W.seq ?_
        refine W.region ?_
        refine WL.c rfl (o_mvh h12 ?_)
        refine WL.c rfl (o_gt rfl rfl ?_)
        refine WL.nil ?_
        refine W.cut (fun e1 w1 => ∃ (uu : Value) (b2 : List UInt8), b2 = b ++ (if decide (0 < k) = true then [44, 32] else []) ∧ e1 0 = uu ∧ e1 1 = Value.slice (some ⟨sb, so, none⟩) L.length sc ∧ e1 2 = .int .i64 (A.length : Int) ∧ e1 8 = .pointer (some ⟨b8, 0, none⟩) ∧ e1 10 = st (shutT x.kind) ∧ e1 11 = .int .i64 ((A.length + 1 + P.length : Nat) : Int) ∧ e1 12 = .int .i64 (k : Int) ∧ w1.heap[b8]? = some (.cells (ndV x).toArray 69 (0, 0)) ∧ w1.ownsRow wb.heap.size 5 1 uu (bs ++ b2).length ((bs ++ b2).map bv) ∧ Ext wb w1 ∧ Only (F8 wb w0) w0 w1) ?_ ?_
        · -- both ways
          refine W.cond rfl (fun c71 => ?_) (fun c71 => ?_)
          · try simp only [decide_eq_true_eq, decide_eq_false_iff_not, Bool.not_eq_true', Bool.not_eq_false', Bool.and_eq_true, Bool.or_eq_true, Bool.and_eq_false_iff, Bool.or_eq_false_iff] at c71
            have hkz : 0 < k := by omega
            rw [if_pos (decide_eq_true hkz)] at hqc
            simp only [List.length_cons, List.length_nil] at hqc
            refine W.region ?_
            refine WL.c rfl (o_mvh h0 ?_)
            refine WL.c rfl (o_apS (wb.heap.size) TI73 TI5 TI9 rfl rfl hu rfl (by rw [maxLen_eq]; simp only [List.length_append, List.length_cons, List.length_nil] at hsz hqc ⊢; omega) (by simp only [List.length_append, List.length_cons, List.length_nil] at hsz hqc ⊢; omega) hx.size ?_)
            intro v73 w73 hown ho73
            have hul : ∀ k, (uu).ownBlock = some k → wb.heap.size ≤ k := fun k hk => (hu.lt k hk).1
            have hu9 : w73.ownsRow wb.heap.size 5 1 v73 (bs ++ b ++ [44, 32]).length ((bs ++ b ++ [44, 32]).map bv) := by rw [List.length_append, List.map_append]; exact hown
            replace hC8 := ho73.blk hC8 (own_off hu hC8 (by decide))
            replace ho := F8.step ho ho73 (F8.row hu)
            replace hx := hx.trans' ho73 (fun _ h => h) (fun k hk hF => by have := hul k hF; omega)
            clear hu hown ho73 hul
            have hu := hu9
            clear hu9
            refine WL.c rfl (o_ash (by first | exact (show _ = Value.slice _ _ _ from rfl) | exact rfl) ?_)
            refine WL.nil ?_
            first | exact ⟨v73, b ++ [44, 32], by rw [if_pos (decide_eq_true hkz)], rfl, h1, h2, h8, h10, h11, h12, hC8, by rw [← List.append_assoc]; exact hu, hx, ho⟩ | exact ⟨uu, b, by rw [if_neg (by simpa using hkz), List.append_nil], h0, h1, h2, h8, h10, h11, h12, hC8, hu, hx, ho⟩
          · try simp only [decide_eq_true_eq, decide_eq_false_iff_not, Bool.not_eq_true', Bool.not_eq_false', Bool.and_eq_true, Bool.or_eq_true, Bool.and_eq_false_iff, Bool.or_eq_false_iff] at c71
            have hkz : ¬ 0 < k := by omega
            refine W.skip ?_
            first | exact ⟨v73, b ++ [44, 32], by rw [if_pos (decide_eq_true hkz)], rfl, h1, h2, h8, h10, h11, h12, hC8, by rw [← List.append_assoc]; exact hu, hx, ho⟩ | exact ⟨uu, b, by rw [if_neg (by simpa using hkz), List.append_nil], h0, h1, h2, h8, h10, h11, h12, hC8, hu, hx, ho⟩
        rintro e w ⟨uu, b2, hb2, h0, h1, h2, h8, h10, h11, h12, hC8, hu, hx, ho⟩
        have hb2l := congrArg List.length hb2
        rw [List.length_append] at hb2l
        refine W.region ?_
        refine WL.c rfl (o_mvh h0 ?_)
        refine WL.c rfl (o_mvh h1 ?_)
        refine WL.c rfl (o_mvh h11 ?_)
        have hIH := IH t (by omega) (A ++ x :: P) (ts.flat ++ C) uu (bs ++ b2) _ (by rw [hL, hq]; simp [Vts.flat]) hrw.1 hx hu (by simp only [List.length_append]; first | omega | (split at hb2l <;> simp at hb2l hqc <;> omega))
        rw [show (A ++ x :: P).length = A.length + 1 + P.length by simp; omega] at hIH
        refine WL.c rfl (o_call Tryd.call67 (lc rfl (lc rfl (lc rfl ln))) ((hIH).mono ?_))
        rintro v78 w78 ⟨u78, rfl, hu78, ho78⟩
        clear hu
        have hu := hu78
        clear hu78
        rw [List.append_assoc] at hu
        replace hC8 := ho78.blk hC8 (F8.off hC8 (by decide))
        replace ho := F8.step ho ho78 (fun _ h => h)
        replace hx := F8.ext hx ho78
        refine WL.c rfl (o_mvh (by first | exact (show _ = Value.tuple _ from rfl) | exact rfl) ?_)
        refine WL.c rfl (o_ext rfl rfl ?_)
        refine WL.c rfl (o_ext rfl rfl ?_)
        refine WL.c rfl (o_ash (by first | exact (show _ = Value.slice _ _ _ from rfl) | exact rfl) ?_)
        refine WL.c rfl (o_ash (show _ = Value.int _ _ from rfl) ?_)
        refine WL.nil ?_
        refine W.region ?_
        refine WL.c rfl (o_mvh h12 ?_)
        refine WL.c rfl (o_addi rfl rfl (by omega) ?_)
        refine WL.c rfl (o_ash (show _ = Value.int _ _ from rfl) ?_)
        refine WL.nil ?_
        refine ⟨⟨k + 1, P ++ t.flat, ts, b2 ++ t.txt, _, by omega, by rw [hq]; simp [Vts.flat], hrw.2, ?_, rfl, h1, h2, h8, h10, ?_, rfl, hC8, hu, hx, ho⟩, ?_⟩
        · rw [hqs, hb2, Vts.txtS, decide_eq_true (show 0 < k + 1 by omega)]; simp [List.append_assoc]
        · refine congrArg (fun z : Nat => Value.int .i64 (z : Int)) ?_
          simp; omega
        · show ks.len - ((k : Int) + 1).toNat < _
          rw [hm12]; simp [intOf]; omega

theorem text_all (wb : World) (v : Value) (L : List Nd) (hS0 : Sl wb 3 v L.length (nds L)) (hN : NOk L) (hTb : Tab wb) (h00 : 0 < wb.heap.size) (hLl : L.length ≤ 5864062014805) : ∀ n (t : Vt), t.flat.length ≤ n → STX wb v L t
  | 0, t, h => by have := t.flat_pos; omega
  | n + 1, .node x ks, h => fun A C u bs w0 hL hw hx hu hsz => text_step wb v L hS0 hN hTb h00 hLl x ks (fun t2 h2 => text_all wb v L hS0 hN hTb h00 hLl n t2 (by rw [Vt.flat, List.length_cons] at h; omega)) A C u bs w0 hL hw hx hu hsz

set_option maxHeartbeats 1000000 in
theorem rprint_spec (L : List Nd) (v : Value) (w0 : World) (hS : Sl w0 3 v L.length (nds L)) (hl : L.length ≤ 1000000) (hN : NOk L) (hT : Tab w0) (h00 : 0 < w0.heap.size) : Ca Tryd.prog 59 #[v] w0 (fun r w' => Ext w0 w' ∧ (¬ (chkV L).1 = 0 → r = .tuple #[st [], .int .i64 (chkV L).1]) ∧ ∀ t : Vt, t.wf → t.flat = L → r = .tuple (if 1048576 < t.txt.length then #[st [], .int .i64 4] else #[st t.txt, .int .i64 0])) := by
  refine Ca.of Tryd.func59 Tryd.ntmps59 rfl rfl ?_
  refine W.seq ?_
  refine W.region ?_
  refine WL.c rfl (o_ash (show _ = Value.string _ from rfl) ?_)
  refine WL.c rfl (o_ash (show _ = Value.int _ _ from rfl) ?_)
  refine WL.nil ?_
  refine W.seq ?_
  refine W.region ?_
  refine WL.c rfl (o_mvh (by first | exact (show _ = Value.slice _ _ _ from rfl) | exact rfl) ?_)
  refine WL.c rfl (o_call Tryd.call53 (lc rfl ln) ((rcheck_spec L v _ hS (by omega)).mono ?_))
  rintro v10 w10 ⟨rfl, hx10⟩
  refine WL.c rfl (o_mvh (by first | exact (show _ = Value.tuple _ from rfl) | exact rfl) ?_)
  refine WL.c rfl (o_ext rfl rfl ?_)
  refine WL.c rfl (o_ext rfl rfl ?_)
  refine WL.c rfl (o_ash (show _ = Value.int _ _ from rfl) ?_)
  refine WL.c rfl (o_ash (show _ = Value.int _ _ from rfl) ?_)
  refine WL.nil ?_
  refine W.seq ?_
  refine W.seq ?_
  refine W.region ?_
  refine WL.c rfl (o_mvh (show _ = Value.int _ _ from rfl) ?_)
  refine WL.c rfl (o_ne rfl rfl ?_)
  refine WL.nil ?_
  refine W.cond rfl (fun c14 => ?_) (fun c14 => ?_)
  · try simp only [decide_eq_true_eq, decide_eq_false_iff_not, Bool.not_eq_true', Bool.not_eq_false', Bool.and_eq_true, Bool.or_eq_true, Bool.and_eq_false_iff, Bool.or_eq_false_iff] at c14
    have hc : ¬ (chkV L).1 = 0 := by simpa using c14
    refine W.seq ?_
    refine W.region ?_
    refine WL.c rfl (o_mvh (show _ = Value.int _ _ from rfl) ?_)
    refine WL.c rfl (o_ash (show _ = Value.string _ from rfl) ?_)
    refine WL.c rfl (o_ash (show _ = Value.int _ _ from rfl) ?_)
    refine WL.nil ?_
    refine W.ret ?_
    refine ret2v rfl (show _ = Value.string _ from rfl) (show _ = Value.int _ _ from rfl) ?_
    exact ⟨hx10, fun _ => rfl, fun t hw hf => absurd (chk_ok.2 ⟨t, hw, hf⟩) hc⟩
  · try simp only [decide_eq_true_eq, decide_eq_false_iff_not, Bool.not_eq_true', Bool.not_eq_false', Bool.and_eq_true, Bool.or_eq_true, Bool.and_eq_false_iff, Bool.or_eq_false_iff] at c14
    have hc : (chkV L).1 = 0 := by simpa using c14
    obtain ⟨t, hw, hft⟩ := chk_ok.1 hc
    have htl := txt_len t (by rw [hft]; exact hN)
    rw [hft] at htl
    refine W.skip ?_
    refine W.seq ?_
    refine W.region ?_
    refine WL.c rfl (o_mvh (by first | exact (show _ = Value.slice _ _ _ from rfl) | exact rfl) ?_)
    refine WL.c rfl (o_call Tryd.call67 (lc rfl (lc rfl (lc rfl ln))) ((text_all w10 v L (hS.ext hx10) hN (hT.ext hx10) (by have := hx10.size; omega) (by omega) _ t (Nat.le_refl _) [] [] (.slice none 0 0) [] _ (by rw [hft]; simp) hw (Only.refl _ _) (World.ownsRow_nil _ _ _ _) (by simp; omega)).mono ?_))
    rintro v18 w18 ⟨u, rfl, hu, ho18⟩
    rw [List.nil_append] at hu
    have hx := hx10.tr (F8.ext (Only.refl _ _) ho18)
    have huniq : ∀ t2 : Vt, t2.wf → t2.flat = L → t2 = t := fun t2 hw2 hf2 => flat_inj hw2 hw (hf2.trans hft.symm)
    refine WL.c rfl (o_mvh (by first | exact (show _ = Value.tuple _ from rfl) | exact rfl) ?_)
    refine WL.c rfl (o_ext rfl rfl ?_)
    refine WL.c rfl (o_ext rfl rfl ?_)
    refine WL.c rfl (o_ash (by first | exact (show _ = Value.slice _ _ _ from rfl) | exact rfl) ?_)
    refine WL.c rfl (o_ash (show _ = Value.int _ _ from rfl) ?_)
    refine WL.nil ?_
    refine W.seq ?_
    refine W.seq ?_
    refine W.region ?_
    refine WL.c rfl (o_mvh (by first | exact (show _ = Value.slice _ _ _ from rfl) | exact rfl) ?_)
    refine WL.c rfl (o_lenR TI73 rfl (Sl.own hu) ?_)
    refine WL.c rfl (o_gt rfl rfl ?_)
    refine WL.nil ?_
    refine W.cond rfl (fun c23 => ?_) (fun c23 => ?_)
    · try simp only [decide_eq_true_eq, decide_eq_false_iff_not, Bool.not_eq_true', Bool.not_eq_false', Bool.and_eq_true, Bool.or_eq_true, Bool.and_eq_false_iff, Bool.or_eq_false_iff] at c23
      have hbig : 1048576 < t.txt.length := by omega
      refine W.seq ?_
      refine W.region ?_
      refine WL.c rfl (o_ash (show _ = Value.string _ from rfl) ?_)
      refine WL.c rfl (o_ash (show _ = Value.int _ _ from rfl) ?_)
      refine WL.nil ?_
      refine W.ret ?_
      refine ret2v rfl (show _ = Value.string _ from rfl) (show _ = Value.int _ _ from rfl) ?_
      exact ⟨hx, fun h => absurd hc h, fun t2 hw2 hf2 => by rw [huniq t2 hw2 hf2, if_pos hbig]⟩
    · try simp only [decide_eq_true_eq, decide_eq_false_iff_not, Bool.not_eq_true', Bool.not_eq_false', Bool.and_eq_true, Bool.or_eq_true, Bool.and_eq_false_iff, Bool.or_eq_false_iff] at c23
      have hbig : ¬ 1048576 < t.txt.length := by omega
      refine W.skip ?_
      refine W.seq ?_
      refine W.region ?_
      refine WL.c rfl (o_mvh (by first | exact (show _ = Value.slice _ _ _ from rfl) | exact rfl) ?_)
      refine WL.c rfl (o_cvBS TI73 TI5 TI9 rfl (Sl.own hu) ?_)
      refine WL.c rfl (o_ash (show _ = Value.string _ from rfl) ?_)
      refine WL.c rfl (o_ash (show _ = Value.int _ _ from rfl) ?_)
      refine WL.nil ?_
      refine W.ret ?_
      refine ret2v rfl (show _ = Value.string _ from rfl) (show _ = Value.int _ _ from rfl) ?_
      exact ⟨hx, fun h => absurd hc h, fun t2 hw2 hf2 => by rw [huniq t2 hw2 hf2, if_neg hbig]⟩
end Go.Proofs.YtgmjfcekeglhjaaDoor
