/-
  Walks and lemmas. Written by program out of specs of mine.
-/
import Derived.WalkKit
import Derived.WalkSpells
import Derived.WalkLawsBesides
import Derived.Deep.Quiet
import Derived.StillTail
import Derived.StringKeys
import Derived.Laws.StructEq
import Derived.Laws.Externs
import Derived.Laws.Tables
import Derived.Scope
import Derived.Test.YtanimeifmicmoaaDoorProg
import Derived.Laws.AppendOwn
import Derived.Maps.AppendAt
import Derived.Recover
import Derived.Lib.Bytealg
import Derived.SizedLaws
import Derived.ChangeArms
import Derived.ChangeSlices
import Derived.Lib.Builder
import Derived.Lib.UnsafeStr
import Derived.Shelf.Strconv.Itoa0
import Derived.Shelf.Strconv.Itoa1
import Derived.Shelf.LaysM
import Derived.Shelf.Strconv.Itoa2
import Derived.Shelf.Strconv.Itoa3
import Derived.Test.YtanimeifmicmoaaDoorRows
import Derived.ProofKit
import Derived.OpenShut
import Derived.ShutString
import Derived.ChangeOld
import Derived.Below
import Derived.JoinedCond
import Derived.SliceStrings
import Derived.Test.YtanimeifmicmoaaDoorCards
import Derived.Test.YtanimeifmicmoaaDoorTie
import Derived.Deep.DeepHandedRow
import Derived.Lib.LaidTab
import Derived.Test.YtanimeifmicmoaaDoorKe2
set_option linter.unusedSimpArgs false
set_option linter.unusedVariables false
set_option maxRecDepth 100000
set_option linter.unusedSimpArgs false
set_option linter.unusedVariables false
set_option maxRecDepth 100000
namespace Go.Proofs.YtanimeifmicmoaaDoor
open Go Go.Vc Go.RowKit Go.Proofs

/-- one element less -/
def shr : Value → Value
  | .slice a n c => .slice a (n - 1) c
  | v => v
theorem shr_s {a : Option Addr} {n c : Nat} : shr (.slice a (n + 1) c) = .slice a n c := rfl
theorem shr_blk (v : Value) : (shr v).ownBlock = v.ownBlock := by
  cases v with
  | slice a n c => cases a <;> rfl
  | _ => rfl
theorem own_shr {w : World} {base : Nat} {el : TypeId} {s n : Nat} {v : Value} {xs ys : List Value} (h : w.ownsRow base el s v (n + 1) (xs ++ ys)) (hl : xs.length = n * s) : w.ownsRow base el s (shr v) n xs := by
  obtain ⟨g, cap, rfl, hb⟩ := own_some h (by omega)
  have := own_take h (m := n) (by omega)
  rw [List.take_left' hl] at this
  exact this
def exK : Ex := ⟨-77, 0, [], [], 0, 0, 0⟩
def markD : List Value := [st [109, 97, 114, 107], .int .i64 (-78), .slice none 0 0]
def drowsK (D : List Df) (V : Nat → Value) (k : Nat) : List Value := (List.range k).flatMap fun j => dcell (D.getD j df0) (V j)
theorem drowsK_succ (D : List Df) (V : Nat → Value) {k : Nat} (v : Value) : drowsK D (fun j => if j = k then v else V j) (k + 1) = drowsK D V k ++ dcell (D.getD k df0) v := by
  rw [drowsK, List.range_succ, List.flatMap_append, List.flatMap_singleton, if_pos rfl]
  congr 1
  refine dfm_congr fun j hj => ?_
  have hj := List.mem_range.1 hj
  rw [if_neg (by omega)]
theorem drows_len (D : List Df) (V : Nat → Value) : (drows D V).length = D.length * 3 := by
  rw [drows]
  have : ∀ l : List Nat, (l.flatMap fun j => dcell (D.getD j df0) (V j)).length = l.length * 3 := by
    intro l
    induction l with
    | nil => rfl
    | cons a l ih => rw [List.flatMap_cons, List.length_append, ih, dcell_len, List.length_cons]; omega
  rw [this, List.length_range]
/-- sizes that a machine can hold -/
structure DOk (D : List Df) : Prop where
  len : D.length * 48 ≤ 140737488351232
  ty : ∀ d ∈ D, d.ty.length * 72 ≤ 140737488351232
  nm : ∀ d ∈ D, d.name.length ≤ 9223372036854775807
  ex : ∀ d ∈ D, ∀ x ∈ d.ty, x.name.length ≤ 9223372036854775807 ∧ x.label.length ≤ 9223372036854775807
theorem DOk.lim {D : List Df} (h : DOk D) : DLim D := fun d hd => ⟨h.nm d hd, by have := h.ty d hd; omega, h.ex d hd⟩
abbrev lenM (D : List Df) (j : Nat) : Nat := (tyD D j).length + 1
abbrev rowM (D : List Df) (j : Nat) : List Value := exs (tyD D j) ++ exV exK
/-- definitions in rows of our own, a mark behind each -/
structure Lent (w : World) (H : Nat) (D : List Df) (gv : Value) (W : Nat → Value) : Prop where
  row : w.ownsRow H 34 3 gv (D.length + 1) (drows D (fun j => shr (W j)) ++ markD)
  tys : Many w H 36 7 D.length W (lenM D) (rowM D)
theorem Lent.defs {w : World} {H : Nat} {D : List Df} {gv : Value} {W : Nat → Value} (h : Lent w H D gv W) : Defs w H D (shr gv) (fun j => shr (W j)) :=
  ⟨own_shr h.row (drows_len _ _), ⟨fun j hj => own_shr (h.tys.row j hj) (exs_len _), fun i j hi hj hij k hk => by rw [shr_blk] at hk ⊢; exact h.tys.off i j hi hj hij k hk⟩⟩
theorem Lent.only {w w' : World} {H : Nat} {D : List Df} {gv : Value} {W : Nat → Value} {F : Nat → Prop} (h : Lent w H D gv W) (ho : Only F w w') (hn : ∀ k, DF gv W D.length k → ¬ F k) : Lent w' H D gv W :=
  ⟨own_only h.row ho (fun k hk => hn k (.inl hk)), h.tys.only ho (fun j hj k hk => hn k (.inr ⟨j, hj, hk⟩))⟩
theorem Lent.ext {w w' : World} {H : Nat} {D : List Df} {gv : Value} {W : Nat → Value} (h : Lent w H D gv W) (ho : Ext w w') : Lent w' H D gv W := h.only ho (fun _ _ h => h)
theorem Lent.lt {w : World} {H : Nat} {D : List Df} {gv : Value} {W : Nat → Value} (h : Lent w H D gv W) : ∀ k, DF gv W D.length k → H ≤ k ∧ k < w.heap.size := fun k hk => by
  rcases hk with hk | ⟨j, hj, hk⟩
  · exact h.row.lt k hk
  · exact h.tys.lt hj hk
theorem one_exs (L : List Ex) : ∀ a ∈ exs L, a.oneCell' = true := by
  intro a ha
  obtain ⟨x, -, hx⟩ := List.mem_flatMap.1 ha
  have : ∀ a ∈ exV x, a.oneCell' = true := by simp [exV, Value.oneCell', st]
  exact this a hx
end Go.Proofs.YtanimeifmicmoaaDoor

set_option linter.unusedSimpArgs false
set_option linter.unusedVariables false
set_option maxRecDepth 100000
namespace Go.Proofs.YtanimeifmicmoaaDoor
open Go Go.Vc Go.RowKit Go.Proofs

def rgtB (x : Ex) : Bool := okB x && namB x
def plcB (x : Ex) (above : Int) : Bool := labB x above && tagB x above
theorem rightB_two (x : Ex) (above : Int) : rightB x above = (rgtB x && plcB x above) := by simp only [rightB, rgtB, plcB, Bool.and_assoc]
theorem chkE_pz {z : Opn} {S : List Opn} {i : Nat} {l : List Ex} (h : z.left = 0) : chkE (z :: S) i l = chkE S i l := by
  cases l with
  | nil => rw [chkE_nil, chkE_nil, leftB, List.any_cons, h]; rfl
  | cons x xs => rw [chkE_cons, chkE_cons, popZ_z h]

set_option maxHeartbeats 2000000 in
theorem rright_spec (x : Ex) (w0 : World) (hn : x.name.length ≤ 9223372036854775807) : Ca Tryd.prog 66 #[.agg (exV x).toArray] w0 (fun v w' => v = .bool (rgtB x) ∧ Ext w0 w') := by
  refine Ca.of Tryd.func66 Tryd.ntmps66 rfl rfl ?_
  refine W.seq ?_
  refine W.region ?_
  refine WL.c rfl (o_boxB rfl ?_)
  intro w1 hC1 hx hs1
  obtain ⟨c1, hc1⟩ : ∃ c, c = w0.heap.size := ⟨_, rfl⟩
  rw [← hc1] at hC1 ⊢
  replace hC1 : w1.heap[c1]? = some (.cells (exV x).toArray 36 (0, 0)) := hC1
  refine WL.c rfl (o_ash (show _ = Value.bool _ from rfl) ?_)
  refine WL.nil ?_
  refine W.seq ?_
  refine W.region ?_
  refine WL.c rfl (o_fa 2 TI36 rfl TI9 rfl rfl ?_)
  refine WL.c rfl (o_ld TI9 rfl rfl (cell_of hC1 rfl) ?_)
  refine WL.c rfl (o_eqT rfl rfl ?_)
  refine WL.c rfl (o_ash (show _ = Value.bool _ from rfl) ?_)
  refine WL.nil ?_
  refine W.seq ?_
  refine W.seq ?_
  refine W.region ?_
  refine WL.c rfl (o_fa 0 TI36 rfl TI3 rfl rfl ?_)
  refine WL.c rfl (o_ld TI3 rfl rfl (cell_of hC1 rfl) ?_)
  refine WL.nil ?_
  refine W.block ?_
  refine W.seq ?_
  refine W.region ?_
  refine WL.c rfl (o_eq rfl rfl ?_)
  refine WL.c rfl (o_ash (show _ = Value.bool _ from rfl) ?_)
  refine WL.nil ?_
  refine W.cond rfl (fun c9 => ?_) (fun c9 => ?_)
  · try simp only [decide_eq_true_eq, decide_eq_false_iff_not, Bool.not_eq_true', Bool.not_eq_false', Bool.and_eq_true, Bool.or_eq_true, Bool.and_eq_false_iff, Bool.or_eq_false_iff] at c9
    refine W.seq ?_
    refine W.region ?_
    refine WL.c rfl (o_mvh (show _ = Value.bool _ from rfl) ?_)
    refine WL.c rfl (o_mvh (show _ = Value.bool _ from rfl) ?_)
    refine WL.sp 1 rfl (fun g12 => ?_) (fun g12 => ?_)
    · skip
      refine WL.g rfl (g12) rfl (o_fa 5 TI36 rfl TI3 rfl rfl ?_)
      refine WL.g rfl (g12) rfl (o_ld TI3 rfl rfl (cell_of hC1 rfl) ?_)
      refine WL.g rfl (g12) rfl (o_eq rfl rfl ?_)
      refine WL.c rfl (o_pickA rfl rfl ?_)
      refine WL.c rfl (o_mvh (show _ = Value.bool _ from rfl) ?_)
      refine WL.sp 6 rfl (fun g17 => ?_) (fun g17 => ?_)
      · skip
        refine WL.g rfl (g17) rfl (o_fa 1 TI36 rfl TI3 rfl rfl ?_)
        refine WL.g rfl (g17) rfl (o_ld TI3 rfl rfl (cell_of hC1 rfl) ?_)
        refine WL.g rfl (g17) rfl (o_eq rfl rfl ?_)
        refine WL.g rfl (g17) rfl (o_mvh (show _ = Value.bool _ from rfl) ?_)
        refine WL.sp 10 rfl (fun g21 => ?_) (fun g21 => ?_)
        · skip
          refine WL.s rfl (g21) rfl ?_
          refine WL.s rfl (g21) rfl ?_
          refine WL.s rfl (g21) rfl ?_
          refine WL.g rfl (g17) rfl (o_pickT rfl (g21) ?_)
          refine WL.g rfl (g17) rfl (o_mvh (show _ = Value.bool _ from rfl) ?_)
          refine WL.s rfl (rfl) rfl ?_
          refine WL.s rfl (rfl) rfl ?_
          refine WL.s rfl (rfl) rfl ?_
          refine WL.g rfl (g17) rfl (o_pickT rfl (rfl) ?_)
          refine WL.g rfl (g17) rfl (o_mvh (show _ = Value.bool _ from rfl) ?_)
          refine WL.s rfl (rfl) rfl ?_
          refine WL.s rfl (rfl) rfl ?_
          refine WL.s rfl (rfl) rfl ?_
          refine WL.g rfl (g17) rfl (o_pickT rfl (rfl) ?_)
          refine WL.c rfl (o_pickA rfl rfl ?_)
          refine WL.c rfl (o_ash (show _ = Value.bool _ from rfl) ?_)
          refine WL.nil ?_
          refine W.ret ?_
          refine ret1v rfl (show _ = Value.bool _ from rfl) ?_
          exact ⟨congrArg Value.bool (by rw [Bool.eq_iff_iff]; simp_all [rgtB, okB, namB, nameB_nil] <;> omega), hx⟩
        · skip
          refine WL.g rfl (g21) rfl (o_fa 1 TI36 rfl TI3 rfl rfl ?_)
          refine WL.g rfl (g21) rfl (o_ld TI3 rfl rfl (cell_of hC1 rfl) ?_)
          refine WL.g rfl (g21) rfl (o_eq rfl rfl ?_)
          refine WL.g rfl (g17) rfl (o_pickO rfl rfl ?_)
          refine WL.g rfl (g17) rfl (o_mvh (show _ = Value.bool _ from rfl) ?_)
          refine WL.sp 15 rfl (fun g26 => ?_) (fun g26 => ?_)
          · skip
            refine WL.s rfl (g26) rfl ?_
            refine WL.s rfl (g26) rfl ?_
            refine WL.s rfl (g26) rfl ?_
            refine WL.g rfl (g17) rfl (o_pickT rfl (g26) ?_)
            refine WL.g rfl (g17) rfl (o_mvh (show _ = Value.bool _ from rfl) ?_)
            refine WL.s rfl (rfl) rfl ?_
            refine WL.s rfl (rfl) rfl ?_
            refine WL.s rfl (rfl) rfl ?_
            refine WL.g rfl (g17) rfl (o_pickT rfl (rfl) ?_)
            refine WL.c rfl (o_pickA rfl rfl ?_)
            refine WL.c rfl (o_ash (show _ = Value.bool _ from rfl) ?_)
            refine WL.nil ?_
            refine W.ret ?_
            refine ret1v rfl (show _ = Value.bool _ from rfl) ?_
            exact ⟨congrArg Value.bool (by rw [Bool.eq_iff_iff]; simp_all [rgtB, okB, namB, nameB_nil] <;> omega), hx⟩
          · skip
            refine WL.g rfl (g26) rfl (o_fa 1 TI36 rfl TI3 rfl rfl ?_)
            refine WL.g rfl (g26) rfl (o_ld TI3 rfl rfl (cell_of hC1 rfl) ?_)
            refine WL.g rfl (g26) rfl (o_eq rfl rfl ?_)
            refine WL.g rfl (g17) rfl (o_pickO rfl rfl ?_)
            refine WL.g rfl (g17) rfl (o_mvh (show _ = Value.bool _ from rfl) ?_)
            refine WL.sp 20 rfl (fun g31 => ?_) (fun g31 => ?_)
            · skip
              refine WL.s rfl (g31) rfl ?_
              refine WL.s rfl (g31) rfl ?_
              refine WL.s rfl (g31) rfl ?_
              refine WL.g rfl (g17) rfl (o_pickT rfl (g31) ?_)
              refine WL.c rfl (o_pickA rfl rfl ?_)
              refine WL.c rfl (o_ash (show _ = Value.bool _ from rfl) ?_)
              refine WL.nil ?_
              refine W.ret ?_
              refine ret1v rfl (show _ = Value.bool _ from rfl) ?_
              exact ⟨congrArg Value.bool (by rw [Bool.eq_iff_iff]; simp_all [rgtB, okB, namB, nameB_nil] <;> omega), hx⟩
            · skip
              refine WL.g rfl (g31) rfl (o_fa 1 TI36 rfl TI3 rfl rfl ?_)
              refine WL.g rfl (g31) rfl (o_ld TI3 rfl rfl (cell_of hC1 rfl) ?_)
              refine WL.g rfl (g31) rfl (o_eq rfl rfl ?_)
              refine WL.g rfl (g17) rfl (o_pickO rfl rfl ?_)
              refine WL.c rfl (o_pickA rfl rfl ?_)
              refine WL.c rfl (o_ash (show _ = Value.bool _ from rfl) ?_)
              refine WL.nil ?_
              refine W.ret ?_
              refine ret1v rfl (show _ = Value.bool _ from rfl) ?_
              exact ⟨congrArg Value.bool (by rw [Bool.eq_iff_iff]; simp_all [rgtB, okB, namB, nameB_nil] <;> omega), hx⟩
      · skip
        refine WL.s rfl (g17) rfl ?_
        refine WL.s rfl (g17) rfl ?_
        refine WL.s rfl (g17) rfl ?_
        refine WL.s rfl (g17) rfl ?_
        refine WL.z rfl rfl ?_
        refine WL.z rfl rfl ?_
        refine WL.z rfl rfl ?_
        refine WL.s rfl (g17) rfl ?_
        refine WL.s rfl (g17) rfl ?_
        refine WL.z rfl rfl ?_
        refine WL.z rfl rfl ?_
        refine WL.z rfl rfl ?_
        refine WL.s rfl (g17) rfl ?_
        refine WL.s rfl (g17) rfl ?_
        refine WL.z rfl rfl ?_
        refine WL.z rfl rfl ?_
        refine WL.z rfl rfl ?_
        refine WL.s rfl (g17) rfl ?_
        refine WL.c rfl (o_pickF rfl (g17) ?_)
        refine WL.c rfl (o_ash (show _ = Value.bool _ from rfl) ?_)
        refine WL.nil ?_
        refine W.ret ?_
        refine ret1v rfl (show _ = Value.bool _ from rfl) ?_
        exact ⟨congrArg Value.bool (by rw [Bool.eq_iff_iff]; simp_all [rgtB, okB, namB, nameB_nil] <;> omega), hx⟩
    · skip
      refine WL.s rfl (g12) rfl ?_
      refine WL.s rfl (g12) rfl ?_
      refine WL.s rfl (g12) rfl ?_
      refine WL.c rfl (o_pickF rfl (g12) ?_)
      refine WL.c rfl (o_mvh (show _ = Value.bool _ from rfl) ?_)
      refine WL.s rfl (rfl) rfl ?_
      refine WL.s rfl (rfl) rfl ?_
      refine WL.s rfl (rfl) rfl ?_
      refine WL.s rfl (rfl) rfl ?_
      refine WL.z rfl rfl ?_
      refine WL.z rfl rfl ?_
      refine WL.z rfl rfl ?_
      refine WL.s rfl (rfl) rfl ?_
      refine WL.s rfl (rfl) rfl ?_
      refine WL.z rfl rfl ?_
      refine WL.z rfl rfl ?_
      refine WL.z rfl rfl ?_
      refine WL.s rfl (rfl) rfl ?_
      refine WL.s rfl (rfl) rfl ?_
      refine WL.z rfl rfl ?_
      refine WL.z rfl rfl ?_
      refine WL.z rfl rfl ?_
      refine WL.s rfl (rfl) rfl ?_
      refine WL.c rfl (o_pickF rfl (rfl) ?_)
      refine WL.c rfl (o_ash (show _ = Value.bool _ from rfl) ?_)
      refine WL.nil ?_
      refine W.ret ?_
      refine ret1v rfl (show _ = Value.bool _ from rfl) ?_
      exact ⟨congrArg Value.bool (by rw [Bool.eq_iff_iff]; simp_all [rgtB, okB, namB, nameB_nil] <;> omega), hx⟩
  · try simp only [decide_eq_true_eq, decide_eq_false_iff_not, Bool.not_eq_true', Bool.not_eq_false', Bool.and_eq_true, Bool.or_eq_true, Bool.and_eq_false_iff, Bool.or_eq_false_iff] at c9
    refine W.seq ?_
    refine W.seq ?_
    refine W.region ?_
    refine WL.c rfl (o_eq rfl rfl ?_)
    refine WL.c rfl (o_ash (show _ = Value.bool _ from rfl) ?_)
    refine WL.nil ?_
    refine W.cond rfl (fun c37 => ?_) (fun c37 => ?_)
    · try simp only [decide_eq_true_eq, decide_eq_false_iff_not, Bool.not_eq_true', Bool.not_eq_false', Bool.and_eq_true, Bool.or_eq_true, Bool.and_eq_false_iff, Bool.or_eq_false_iff] at c37
      refine W.skip ?_
      refine W.cond rfl (fun c37 => ?_) (fun c37 => ?_)
      · try simp only [decide_eq_true_eq, decide_eq_false_iff_not, Bool.not_eq_true', Bool.not_eq_false', Bool.and_eq_true, Bool.or_eq_true, Bool.and_eq_false_iff, Bool.or_eq_false_iff] at c37
        refine W.seq ?_
        refine W.region ?_
        refine WL.c rfl (o_mvh (show _ = Value.bool _ from rfl) ?_)
        refine WL.c rfl (o_mvh (show _ = Value.bool _ from rfl) ?_)
        refine WL.sp 1 rfl (fun g41 => ?_) (fun g41 => ?_)
        · skip
          refine WL.g rfl (g41) rfl (o_fa 5 TI36 rfl TI3 rfl rfl ?_)
          refine WL.g rfl (g41) rfl (o_ld TI3 rfl rfl (cell_of hC1 rfl) ?_)
          refine WL.g rfl (g41) rfl (o_eq rfl rfl ?_)
          refine WL.c rfl (o_pickA rfl rfl ?_)
          refine WL.c rfl (o_mvh (show _ = Value.bool _ from rfl) ?_)
          refine WL.sp 6 rfl (fun g46 => ?_) (fun g46 => ?_)
          · skip
            refine WL.g rfl (g46) rfl (o_fa 1 TI36 rfl TI3 rfl rfl ?_)
            refine WL.g rfl (g46) rfl (o_ld TI3 rfl rfl (cell_of hC1 rfl) ?_)
            refine WL.g rfl (g46) rfl (o_eq rfl rfl ?_)
            refine WL.c rfl (o_pickA rfl rfl ?_)
            refine WL.c rfl (o_ash (show _ = Value.bool _ from rfl) ?_)
            refine WL.nil ?_
            refine W.ret ?_
            refine ret1v rfl (show _ = Value.bool _ from rfl) ?_
            exact ⟨congrArg Value.bool (by rw [Bool.eq_iff_iff]; simp_all [rgtB, okB, namB, nameB_nil] <;> omega), hx⟩
          · skip
            refine WL.s rfl (g46) rfl ?_
            refine WL.s rfl (g46) rfl ?_
            refine WL.s rfl (g46) rfl ?_
            refine WL.c rfl (o_pickF rfl (g46) ?_)
            refine WL.c rfl (o_ash (show _ = Value.bool _ from rfl) ?_)
            refine WL.nil ?_
            refine W.ret ?_
            refine ret1v rfl (show _ = Value.bool _ from rfl) ?_
            exact ⟨congrArg Value.bool (by rw [Bool.eq_iff_iff]; simp_all [rgtB, okB, namB, nameB_nil] <;> omega), hx⟩
        · skip
          refine WL.s rfl (g41) rfl ?_
          refine WL.s rfl (g41) rfl ?_
          refine WL.s rfl (g41) rfl ?_
          refine WL.c rfl (o_pickF rfl (g41) ?_)
          refine WL.c rfl (o_mvh (show _ = Value.bool _ from rfl) ?_)
          refine WL.s rfl (rfl) rfl ?_
          refine WL.s rfl (rfl) rfl ?_
          refine WL.s rfl (rfl) rfl ?_
          refine WL.c rfl (o_pickF rfl (rfl) ?_)
          refine WL.c rfl (o_ash (show _ = Value.bool _ from rfl) ?_)
          refine WL.nil ?_
          refine W.ret ?_
          refine ret1v rfl (show _ = Value.bool _ from rfl) ?_
          exact ⟨congrArg Value.bool (by rw [Bool.eq_iff_iff]; simp_all [rgtB, okB, namB, nameB_nil] <;> omega), hx⟩
      · try simp only [decide_eq_true_eq, decide_eq_false_iff_not, Bool.not_eq_true', Bool.not_eq_false', Bool.and_eq_true, Bool.or_eq_true, Bool.and_eq_false_iff, Bool.or_eq_false_iff] at c37
        refine W.seq ?_
        refine W.seq ?_
        refine W.region ?_
        refine WL.c rfl (o_eq rfl rfl ?_)
        refine WL.c rfl (o_ash (show _ = Value.bool _ from rfl) ?_)
        refine WL.nil ?_
        refine W.cond rfl (fun c51 => ?_) (fun c51 => ?_)
        · try simp only [decide_eq_true_eq, decide_eq_false_iff_not, Bool.not_eq_true', Bool.not_eq_false', Bool.and_eq_true, Bool.or_eq_true, Bool.and_eq_false_iff, Bool.or_eq_false_iff] at c51
          refine W.skip ?_
          refine W.cond rfl (fun c51 => ?_) (fun c51 => ?_)
          · try simp only [decide_eq_true_eq, decide_eq_false_iff_not, Bool.not_eq_true', Bool.not_eq_false', Bool.and_eq_true, Bool.or_eq_true, Bool.and_eq_false_iff, Bool.or_eq_false_iff] at c51
            refine W.seq ?_
            refine W.region ?_
            refine WL.c rfl (o_mvh (show _ = Value.bool _ from rfl) ?_)
            refine WL.c rfl (o_mvh (show _ = Value.bool _ from rfl) ?_)
            refine WL.sp 1 rfl (fun g55 => ?_) (fun g55 => ?_)
            · skip
              refine WL.g rfl (g55) rfl (o_fa 5 TI36 rfl TI3 rfl rfl ?_)
              refine WL.g rfl (g55) rfl (o_ld TI3 rfl rfl (cell_of hC1 rfl) ?_)
              refine WL.g rfl (g55) rfl (o_eq rfl rfl ?_)
              refine WL.c rfl (o_pickA rfl rfl ?_)
              refine WL.c rfl (o_mvh (show _ = Value.bool _ from rfl) ?_)
              refine WL.sp 6 rfl (fun g60 => ?_) (fun g60 => ?_)
              · skip
                refine WL.g rfl (g60) rfl (o_fa 1 TI36 rfl TI3 rfl rfl ?_)
                refine WL.g rfl (g60) rfl (o_ld TI3 rfl rfl (cell_of hC1 rfl) ?_)
                refine WL.g rfl (g60) rfl (o_ge rfl rfl ?_)
                refine WL.c rfl (o_pickA rfl rfl ?_)
                refine WL.c rfl (o_mvh (show _ = Value.bool _ from rfl) ?_)
                refine WL.sp 11 rfl (fun g65 => ?_) (fun g65 => ?_)
                · skip
                  refine WL.g rfl (g65) rfl (o_fa 1 TI36 rfl TI3 rfl rfl ?_)
                  refine WL.g rfl (g65) rfl (o_ld TI3 rfl rfl (cell_of hC1 rfl) ?_)
                  refine WL.g rfl (g65) rfl (o_le rfl rfl ?_)
                  refine WL.c rfl (o_pickA rfl rfl ?_)
                  refine WL.c rfl (o_ash (show _ = Value.bool _ from rfl) ?_)
                  refine WL.nil ?_
                  refine W.ret ?_
                  refine ret1v rfl (show _ = Value.bool _ from rfl) ?_
                  exact ⟨congrArg Value.bool (by rw [Bool.eq_iff_iff]; simp_all [rgtB, okB, namB, nameB_nil] <;> omega), hx⟩
                · skip
                  refine WL.s rfl (g65) rfl ?_
                  refine WL.s rfl (g65) rfl ?_
                  refine WL.s rfl (g65) rfl ?_
                  refine WL.c rfl (o_pickF rfl (g65) ?_)
                  refine WL.c rfl (o_ash (show _ = Value.bool _ from rfl) ?_)
                  refine WL.nil ?_
                  refine W.ret ?_
                  refine ret1v rfl (show _ = Value.bool _ from rfl) ?_
                  exact ⟨congrArg Value.bool (by rw [Bool.eq_iff_iff]; simp_all [rgtB, okB, namB, nameB_nil] <;> omega), hx⟩
              · skip
                refine WL.s rfl (g60) rfl ?_
                refine WL.s rfl (g60) rfl ?_
                refine WL.s rfl (g60) rfl ?_
                refine WL.c rfl (o_pickF rfl (g60) ?_)
                refine WL.c rfl (o_mvh (show _ = Value.bool _ from rfl) ?_)
                refine WL.s rfl (rfl) rfl ?_
                refine WL.s rfl (rfl) rfl ?_
                refine WL.s rfl (rfl) rfl ?_
                refine WL.c rfl (o_pickF rfl (rfl) ?_)
                refine WL.c rfl (o_ash (show _ = Value.bool _ from rfl) ?_)
                refine WL.nil ?_
                refine W.ret ?_
                refine ret1v rfl (show _ = Value.bool _ from rfl) ?_
                exact ⟨congrArg Value.bool (by rw [Bool.eq_iff_iff]; simp_all [rgtB, okB, namB, nameB_nil] <;> omega), hx⟩
            · skip
              refine WL.s rfl (g55) rfl ?_
              refine WL.s rfl (g55) rfl ?_
              refine WL.s rfl (g55) rfl ?_
              refine WL.c rfl (o_pickF rfl (g55) ?_)
              refine WL.c rfl (o_mvh (show _ = Value.bool _ from rfl) ?_)
              refine WL.s rfl (rfl) rfl ?_
              refine WL.s rfl (rfl) rfl ?_
              refine WL.s rfl (rfl) rfl ?_
              refine WL.c rfl (o_pickF rfl (rfl) ?_)
              refine WL.c rfl (o_mvh (show _ = Value.bool _ from rfl) ?_)
              refine WL.s rfl (rfl) rfl ?_
              refine WL.s rfl (rfl) rfl ?_
              refine WL.s rfl (rfl) rfl ?_
              refine WL.c rfl (o_pickF rfl (rfl) ?_)
              refine WL.c rfl (o_ash (show _ = Value.bool _ from rfl) ?_)
              refine WL.nil ?_
              refine W.ret ?_
              refine ret1v rfl (show _ = Value.bool _ from rfl) ?_
              exact ⟨congrArg Value.bool (by rw [Bool.eq_iff_iff]; simp_all [rgtB, okB, namB, nameB_nil] <;> omega), hx⟩
          · try simp only [decide_eq_true_eq, decide_eq_false_iff_not, Bool.not_eq_true', Bool.not_eq_false', Bool.and_eq_true, Bool.or_eq_true, Bool.and_eq_false_iff, Bool.or_eq_false_iff] at c51
            refine W.seq ?_
            refine W.region ?_
            refine WL.c rfl (o_eq rfl rfl ?_)
            refine WL.c rfl (o_ash (show _ = Value.bool _ from rfl) ?_)
            refine WL.nil ?_
            refine W.cond rfl (fun c70 => ?_) (fun c70 => ?_)
            · try simp only [decide_eq_true_eq, decide_eq_false_iff_not, Bool.not_eq_true', Bool.not_eq_false', Bool.and_eq_true, Bool.or_eq_true, Bool.and_eq_false_iff, Bool.or_eq_false_iff] at c70
              refine W.seq ?_
              refine W.region ?_
              refine WL.c rfl (o_mvh (show _ = Value.bool _ from rfl) ?_)
              refine WL.c rfl (o_mvh (show _ = Value.bool _ from rfl) ?_)
              refine WL.sp 1 rfl (fun g73 => ?_) (fun g73 => ?_)
              · skip
                refine WL.g rfl (g73) rfl (o_fa 5 TI36 rfl TI3 rfl rfl ?_)
                refine WL.g rfl (g73) rfl (o_ld TI3 rfl rfl (cell_of hC1 rfl) ?_)
                refine WL.g rfl (g73) rfl (o_eq rfl rfl ?_)
                refine WL.c rfl (o_pickA rfl rfl ?_)
                refine WL.c rfl (o_mvh (show _ = Value.bool _ from rfl) ?_)
                refine WL.sp 6 rfl (fun g78 => ?_) (fun g78 => ?_)
                · skip
                  refine WL.g rfl (g78) rfl (o_fa 1 TI36 rfl TI3 rfl rfl ?_)
                  refine WL.g rfl (g78) rfl (o_ld TI3 rfl rfl (cell_of hC1 rfl) ?_)
                  refine WL.g rfl (g78) rfl (o_eq rfl rfl ?_)
                  refine WL.c rfl (o_pickA rfl rfl ?_)
                  refine WL.c rfl (o_ash (show _ = Value.bool _ from rfl) ?_)
                  refine WL.nil ?_
                  refine W.ret ?_
                  refine ret1v rfl (show _ = Value.bool _ from rfl) ?_
                  exact ⟨congrArg Value.bool (by rw [Bool.eq_iff_iff]; simp_all [rgtB, okB, namB, nameB_nil] <;> omega), hx⟩
                · skip
                  refine WL.s rfl (g78) rfl ?_
                  refine WL.s rfl (g78) rfl ?_
                  refine WL.s rfl (g78) rfl ?_
                  refine WL.c rfl (o_pickF rfl (g78) ?_)
                  refine WL.c rfl (o_ash (show _ = Value.bool _ from rfl) ?_)
                  refine WL.nil ?_
                  refine W.ret ?_
                  refine ret1v rfl (show _ = Value.bool _ from rfl) ?_
                  exact ⟨congrArg Value.bool (by rw [Bool.eq_iff_iff]; simp_all [rgtB, okB, namB, nameB_nil] <;> omega), hx⟩
              · skip
                refine WL.s rfl (g73) rfl ?_
                refine WL.s rfl (g73) rfl ?_
                refine WL.s rfl (g73) rfl ?_
                refine WL.c rfl (o_pickF rfl (g73) ?_)
                refine WL.c rfl (o_mvh (show _ = Value.bool _ from rfl) ?_)
                refine WL.s rfl (rfl) rfl ?_
                refine WL.s rfl (rfl) rfl ?_
                refine WL.s rfl (rfl) rfl ?_
                refine WL.c rfl (o_pickF rfl (rfl) ?_)
                refine WL.c rfl (o_ash (show _ = Value.bool _ from rfl) ?_)
                refine WL.nil ?_
                refine W.ret ?_
                refine ret1v rfl (show _ = Value.bool _ from rfl) ?_
                exact ⟨congrArg Value.bool (by rw [Bool.eq_iff_iff]; simp_all [rgtB, okB, namB, nameB_nil] <;> omega), hx⟩
            · try simp only [decide_eq_true_eq, decide_eq_false_iff_not, Bool.not_eq_true', Bool.not_eq_false', Bool.and_eq_true, Bool.or_eq_true, Bool.and_eq_false_iff, Bool.or_eq_false_iff] at c70
              refine W.seq ?_
              refine W.seq ?_
              refine W.region ?_
              refine WL.c rfl (o_eq rfl rfl ?_)
              refine WL.c rfl (o_ash (show _ = Value.bool _ from rfl) ?_)
              refine WL.nil ?_
              refine W.cond rfl (fun c83 => ?_) (fun c83 => ?_)
              · try simp only [decide_eq_true_eq, decide_eq_false_iff_not, Bool.not_eq_true', Bool.not_eq_false', Bool.and_eq_true, Bool.or_eq_true, Bool.and_eq_false_iff, Bool.or_eq_false_iff] at c83
                refine W.skip ?_
                refine W.cond rfl (fun c83 => ?_) (fun c83 => ?_)
                · try simp only [decide_eq_true_eq, decide_eq_false_iff_not, Bool.not_eq_true', Bool.not_eq_false', Bool.and_eq_true, Bool.or_eq_true, Bool.and_eq_false_iff, Bool.or_eq_false_iff] at c83
                  refine W.seq ?_
                  refine W.region ?_
                  refine WL.c rfl (o_mvh (show _ = Value.bool _ from rfl) ?_)
                  refine WL.c rfl (o_mvh (show _ = Value.bool _ from rfl) ?_)
                  refine WL.sp 1 rfl (fun g87 => ?_) (fun g87 => ?_)
                  · skip
                    refine WL.g rfl (g87) rfl (o_fa 5 TI36 rfl TI3 rfl rfl ?_)
                    refine WL.g rfl (g87) rfl (o_ld TI3 rfl rfl (cell_of hC1 rfl) ?_)
                    refine WL.g rfl (g87) rfl (o_ge rfl rfl ?_)
                    refine WL.c rfl (o_pickA rfl rfl ?_)
                    refine WL.c rfl (o_mvh (show _ = Value.bool _ from rfl) ?_)
                    refine WL.sp 6 rfl (fun g92 => ?_) (fun g92 => ?_)
                    · skip
                      refine WL.g rfl (g92) rfl (o_fa 1 TI36 rfl TI3 rfl rfl ?_)
                      refine WL.g rfl (g92) rfl (o_ld TI3 rfl rfl (cell_of hC1 rfl) ?_)
                      refine WL.g rfl (g92) rfl (o_eq rfl rfl ?_)
                      refine WL.c rfl (o_pickA rfl rfl ?_)
                      refine WL.c rfl (o_ash (show _ = Value.bool _ from rfl) ?_)
                      refine WL.nil ?_
                      refine W.ret ?_
                      refine ret1v rfl (show _ = Value.bool _ from rfl) ?_
                      exact ⟨congrArg Value.bool (by rw [Bool.eq_iff_iff]; simp_all [rgtB, okB, namB, nameB_nil] <;> omega), hx⟩
                    · skip
                      refine WL.s rfl (g92) rfl ?_
                      refine WL.s rfl (g92) rfl ?_
                      refine WL.s rfl (g92) rfl ?_
                      refine WL.c rfl (o_pickF rfl (g92) ?_)
                      refine WL.c rfl (o_ash (show _ = Value.bool _ from rfl) ?_)
                      refine WL.nil ?_
                      refine W.ret ?_
                      refine ret1v rfl (show _ = Value.bool _ from rfl) ?_
                      exact ⟨congrArg Value.bool (by rw [Bool.eq_iff_iff]; simp_all [rgtB, okB, namB, nameB_nil] <;> omega), hx⟩
                  · skip
                    refine WL.s rfl (g87) rfl ?_
                    refine WL.s rfl (g87) rfl ?_
                    refine WL.s rfl (g87) rfl ?_
                    refine WL.c rfl (o_pickF rfl (g87) ?_)
                    refine WL.c rfl (o_mvh (show _ = Value.bool _ from rfl) ?_)
                    refine WL.s rfl (rfl) rfl ?_
                    refine WL.s rfl (rfl) rfl ?_
                    refine WL.s rfl (rfl) rfl ?_
                    refine WL.c rfl (o_pickF rfl (rfl) ?_)
                    refine WL.c rfl (o_ash (show _ = Value.bool _ from rfl) ?_)
                    refine WL.nil ?_
                    refine W.ret ?_
                    refine ret1v rfl (show _ = Value.bool _ from rfl) ?_
                    exact ⟨congrArg Value.bool (by rw [Bool.eq_iff_iff]; simp_all [rgtB, okB, namB, nameB_nil] <;> omega), hx⟩
                · try simp only [decide_eq_true_eq, decide_eq_false_iff_not, Bool.not_eq_true', Bool.not_eq_false', Bool.and_eq_true, Bool.or_eq_true, Bool.and_eq_false_iff, Bool.or_eq_false_iff] at c83
                  refine W.seq ?_
                  refine W.region ?_
                  refine WL.c rfl (o_eq rfl rfl ?_)
                  refine WL.c rfl (o_ash (show _ = Value.bool _ from rfl) ?_)
                  refine WL.nil ?_
                  refine W.cond rfl (fun c97 => ?_) (fun c97 => ?_)
                  · try simp only [decide_eq_true_eq, decide_eq_false_iff_not, Bool.not_eq_true', Bool.not_eq_false', Bool.and_eq_true, Bool.or_eq_true, Bool.and_eq_false_iff, Bool.or_eq_false_iff] at c97
                    refine W.seq ?_
                    refine W.region ?_
                    refine WL.c rfl (o_fa 2 TI36 rfl TI9 rfl rfl ?_)
                    refine WL.c rfl (o_ld TI9 rfl rfl (cell_of hC1 rfl) ?_)
                    refine WL.c rfl (o_call Tryd.call43 (lc rfl ln) ((rname_spec x.name _ hn).mono ?_))
                    rintro v101 w101 ⟨rfl, rfl⟩
                    refine WL.c rfl (o_mvh (show _ = Value.bool _ from rfl) ?_)
                    refine WL.sp 3 rfl (fun g102 => ?_) (fun g102 => ?_)
                    · skip
                      refine WL.g rfl (g102) rfl (o_fa 5 TI36 rfl TI3 rfl rfl ?_)
                      refine WL.g rfl (g102) rfl (o_ld TI3 rfl rfl (cell_of hC1 rfl) ?_)
                      refine WL.g rfl (g102) rfl (o_eq rfl rfl ?_)
                      refine WL.c rfl (o_pickA rfl rfl ?_)
                      refine WL.c rfl (o_mvh (show _ = Value.bool _ from rfl) ?_)
                      refine WL.sp 8 rfl (fun g107 => ?_) (fun g107 => ?_)
                      · skip
                        refine WL.g rfl (g107) rfl (o_fa 1 TI36 rfl TI3 rfl rfl ?_)
                        refine WL.g rfl (g107) rfl (o_ld TI3 rfl rfl (cell_of hC1 rfl) ?_)
                        refine WL.g rfl (g107) rfl (o_eq rfl rfl ?_)
                        refine WL.c rfl (o_pickA rfl rfl ?_)
                        refine WL.c rfl (o_ash (show _ = Value.bool _ from rfl) ?_)
                        refine WL.nil ?_
                        refine W.ret ?_
                        refine ret1v rfl (show _ = Value.bool _ from rfl) ?_
                        exact ⟨congrArg Value.bool (by rw [Bool.eq_iff_iff]; simp_all [rgtB, okB, namB, nameB_nil] <;> omega), hx⟩
                      · skip
                        refine WL.s rfl (g107) rfl ?_
                        refine WL.s rfl (g107) rfl ?_
                        refine WL.s rfl (g107) rfl ?_
                        refine WL.c rfl (o_pickF rfl (g107) ?_)
                        refine WL.c rfl (o_ash (show _ = Value.bool _ from rfl) ?_)
                        refine WL.nil ?_
                        refine W.ret ?_
                        refine ret1v rfl (show _ = Value.bool _ from rfl) ?_
                        exact ⟨congrArg Value.bool (by rw [Bool.eq_iff_iff]; simp_all [rgtB, okB, namB, nameB_nil] <;> omega), hx⟩
                    · skip
                      refine WL.s rfl (g102) rfl ?_
                      refine WL.s rfl (g102) rfl ?_
                      refine WL.s rfl (g102) rfl ?_
                      refine WL.c rfl (o_pickF rfl (g102) ?_)
                      refine WL.c rfl (o_mvh (show _ = Value.bool _ from rfl) ?_)
                      refine WL.s rfl (rfl) rfl ?_
                      refine WL.s rfl (rfl) rfl ?_
                      refine WL.s rfl (rfl) rfl ?_
                      refine WL.c rfl (o_pickF rfl (rfl) ?_)
                      refine WL.c rfl (o_ash (show _ = Value.bool _ from rfl) ?_)
                      refine WL.nil ?_
                      refine W.ret ?_
                      refine ret1v rfl (show _ = Value.bool _ from rfl) ?_
                      exact ⟨congrArg Value.bool (by rw [Bool.eq_iff_iff]; simp_all [rgtB, okB, namB, nameB_nil] <;> omega), hx⟩
                  · try simp only [decide_eq_true_eq, decide_eq_false_iff_not, Bool.not_eq_true', Bool.not_eq_false', Bool.and_eq_true, Bool.or_eq_true, Bool.and_eq_false_iff, Bool.or_eq_false_iff] at c97
                    refine W.skip ?_
                    refine W.seq ?_
                    refine W.region ?_
                    refine WL.c rfl (o_ash (show _ = Value.bool _ from rfl) ?_)
                    refine WL.nil ?_
                    refine W.ret ?_
                    refine ret1v rfl (show _ = Value.bool _ from rfl) ?_
                    exact ⟨congrArg Value.bool (by rw [Bool.eq_iff_iff]; simp_all [rgtB, okB, namB, nameB_nil] <;> omega), hx⟩
              · try simp only [decide_eq_true_eq, decide_eq_false_iff_not, Bool.not_eq_true', Bool.not_eq_false', Bool.and_eq_true, Bool.or_eq_true, Bool.and_eq_false_iff, Bool.or_eq_false_iff] at c83
                refine W.region ?_
                refine WL.c rfl (o_eq rfl rfl ?_)
                refine WL.c rfl (o_ash (show _ = Value.bool _ from rfl) ?_)
                refine WL.nil ?_
                refine W.cond rfl (fun c83 => ?_) (fun c83 => ?_)
                · try simp only [decide_eq_true_eq, decide_eq_false_iff_not, Bool.not_eq_true', Bool.not_eq_false', Bool.and_eq_true, Bool.or_eq_true, Bool.and_eq_false_iff, Bool.or_eq_false_iff] at c83
                  refine W.seq ?_
                  refine W.region ?_
                  refine WL.c rfl (o_mvh (show _ = Value.bool _ from rfl) ?_)
                  refine WL.c rfl (o_mvh (show _ = Value.bool _ from rfl) ?_)
                  refine WL.sp 1 rfl (fun g87 => ?_) (fun g87 => ?_)
                  · skip
                    refine WL.g rfl (g87) rfl (o_fa 5 TI36 rfl TI3 rfl rfl ?_)
                    refine WL.g rfl (g87) rfl (o_ld TI3 rfl rfl (cell_of hC1 rfl) ?_)
                    refine WL.g rfl (g87) rfl (o_ge rfl rfl ?_)
                    refine WL.c rfl (o_pickA rfl rfl ?_)
                    refine WL.c rfl (o_mvh (show _ = Value.bool _ from rfl) ?_)
                    refine WL.sp 6 rfl (fun g92 => ?_) (fun g92 => ?_)
                    · skip
                      refine WL.g rfl (g92) rfl (o_fa 1 TI36 rfl TI3 rfl rfl ?_)
                      refine WL.g rfl (g92) rfl (o_ld TI3 rfl rfl (cell_of hC1 rfl) ?_)
                      refine WL.g rfl (g92) rfl (o_eq rfl rfl ?_)
                      refine WL.c rfl (o_pickA rfl rfl ?_)
                      refine WL.c rfl (o_ash (show _ = Value.bool _ from rfl) ?_)
                      refine WL.nil ?_
                      refine W.ret ?_
                      refine ret1v rfl (show _ = Value.bool _ from rfl) ?_
                      exact ⟨congrArg Value.bool (by rw [Bool.eq_iff_iff]; simp_all [rgtB, okB, namB, nameB_nil] <;> omega), hx⟩
                    · skip
                      refine WL.s rfl (g92) rfl ?_
                      refine WL.s rfl (g92) rfl ?_
                      refine WL.s rfl (g92) rfl ?_
                      refine WL.c rfl (o_pickF rfl (g92) ?_)
                      refine WL.c rfl (o_ash (show _ = Value.bool _ from rfl) ?_)
                      refine WL.nil ?_
                      refine W.ret ?_
                      refine ret1v rfl (show _ = Value.bool _ from rfl) ?_
                      exact ⟨congrArg Value.bool (by rw [Bool.eq_iff_iff]; simp_all [rgtB, okB, namB, nameB_nil] <;> omega), hx⟩
                  · skip
                    refine WL.s rfl (g87) rfl ?_
                    refine WL.s rfl (g87) rfl ?_
                    refine WL.s rfl (g87) rfl ?_
                    refine WL.c rfl (o_pickF rfl (g87) ?_)
                    refine WL.c rfl (o_mvh (show _ = Value.bool _ from rfl) ?_)
                    refine WL.s rfl (rfl) rfl ?_
                    refine WL.s rfl (rfl) rfl ?_
                    refine WL.s rfl (rfl) rfl ?_
                    refine WL.c rfl (o_pickF rfl (rfl) ?_)
                    refine WL.c rfl (o_ash (show _ = Value.bool _ from rfl) ?_)
                    refine WL.nil ?_
                    refine W.ret ?_
                    refine ret1v rfl (show _ = Value.bool _ from rfl) ?_
                    exact ⟨congrArg Value.bool (by rw [Bool.eq_iff_iff]; simp_all [rgtB, okB, namB, nameB_nil] <;> omega), hx⟩
                · try simp only [decide_eq_true_eq, decide_eq_false_iff_not, Bool.not_eq_true', Bool.not_eq_false', Bool.and_eq_true, Bool.or_eq_true, Bool.and_eq_false_iff, Bool.or_eq_false_iff] at c83
                  refine W.seq ?_
                  refine W.region ?_
                  refine WL.c rfl (o_eq rfl rfl ?_)
                  refine WL.c rfl (o_ash (show _ = Value.bool _ from rfl) ?_)
                  refine WL.nil ?_
                  refine W.cond rfl (fun c97 => ?_) (fun c97 => ?_)
                  · try simp only [decide_eq_true_eq, decide_eq_false_iff_not, Bool.not_eq_true', Bool.not_eq_false', Bool.and_eq_true, Bool.or_eq_true, Bool.and_eq_false_iff, Bool.or_eq_false_iff] at c97
                    refine W.seq ?_
                    refine W.region ?_
                    refine WL.c rfl (o_fa 2 TI36 rfl TI9 rfl rfl ?_)
                    refine WL.c rfl (o_ld TI9 rfl rfl (cell_of hC1 rfl) ?_)
                    refine WL.c rfl (o_call Tryd.call43 (lc rfl ln) ((rname_spec x.name _ hn).mono ?_))
                    rintro v101 w101 ⟨rfl, rfl⟩
                    refine WL.c rfl (o_mvh (show _ = Value.bool _ from rfl) ?_)
                    refine WL.sp 3 rfl (fun g102 => ?_) (fun g102 => ?_)
                    · skip
                      refine WL.g rfl (g102) rfl (o_fa 5 TI36 rfl TI3 rfl rfl ?_)
                      refine WL.g rfl (g102) rfl (o_ld TI3 rfl rfl (cell_of hC1 rfl) ?_)
                      refine WL.g rfl (g102) rfl (o_eq rfl rfl ?_)
                      refine WL.c rfl (o_pickA rfl rfl ?_)
                      refine WL.c rfl (o_mvh (show _ = Value.bool _ from rfl) ?_)
                      refine WL.sp 8 rfl (fun g107 => ?_) (fun g107 => ?_)
                      · skip
                        refine WL.g rfl (g107) rfl (o_fa 1 TI36 rfl TI3 rfl rfl ?_)
                        refine WL.g rfl (g107) rfl (o_ld TI3 rfl rfl (cell_of hC1 rfl) ?_)
                        refine WL.g rfl (g107) rfl (o_eq rfl rfl ?_)
                        refine WL.c rfl (o_pickA rfl rfl ?_)
                        refine WL.c rfl (o_ash (show _ = Value.bool _ from rfl) ?_)
                        refine WL.nil ?_
                        refine W.ret ?_
                        refine ret1v rfl (show _ = Value.bool _ from rfl) ?_
                        exact ⟨congrArg Value.bool (by rw [Bool.eq_iff_iff]; simp_all [rgtB, okB, namB, nameB_nil] <;> omega), hx⟩
                      · skip
                        refine WL.s rfl (g107) rfl ?_
                        refine WL.s rfl (g107) rfl ?_
                        refine WL.s rfl (g107) rfl ?_
                        refine WL.c rfl (o_pickF rfl (g107) ?_)
                        refine WL.c rfl (o_ash (show _ = Value.bool _ from rfl) ?_)
                        refine WL.nil ?_
                        refine W.ret ?_
                        refine ret1v rfl (show _ = Value.bool _ from rfl) ?_
                        exact ⟨congrArg Value.bool (by rw [Bool.eq_iff_iff]; simp_all [rgtB, okB, namB, nameB_nil] <;> omega), hx⟩
                    · skip
                      refine WL.s rfl (g102) rfl ?_
                      refine WL.s rfl (g102) rfl ?_
                      refine WL.s rfl (g102) rfl ?_
                      refine WL.c rfl (o_pickF rfl (g102) ?_)
                      refine WL.c rfl (o_mvh (show _ = Value.bool _ from rfl) ?_)
                      refine WL.s rfl (rfl) rfl ?_
                      refine WL.s rfl (rfl) rfl ?_
                      refine WL.s rfl (rfl) rfl ?_
                      refine WL.c rfl (o_pickF rfl (rfl) ?_)
                      refine WL.c rfl (o_ash (show _ = Value.bool _ from rfl) ?_)
                      refine WL.nil ?_
                      refine W.ret ?_
                      refine ret1v rfl (show _ = Value.bool _ from rfl) ?_
                      exact ⟨congrArg Value.bool (by rw [Bool.eq_iff_iff]; simp_all [rgtB, okB, namB, nameB_nil] <;> omega), hx⟩
                  · try simp only [decide_eq_true_eq, decide_eq_false_iff_not, Bool.not_eq_true', Bool.not_eq_false', Bool.and_eq_true, Bool.or_eq_true, Bool.and_eq_false_iff, Bool.or_eq_false_iff] at c97
                    refine W.skip ?_
                    refine W.seq ?_
                    refine W.region ?_
                    refine WL.c rfl (o_ash (show _ = Value.bool _ from rfl) ?_)
                    refine WL.nil ?_
                    refine W.ret ?_
                    refine ret1v rfl (show _ = Value.bool _ from rfl) ?_
                    exact ⟨congrArg Value.bool (by rw [Bool.eq_iff_iff]; simp_all [rgtB, okB, namB, nameB_nil] <;> omega), hx⟩
        · try simp only [decide_eq_true_eq, decide_eq_false_iff_not, Bool.not_eq_true', Bool.not_eq_false', Bool.and_eq_true, Bool.or_eq_true, Bool.and_eq_false_iff, Bool.or_eq_false_iff] at c51
          refine W.region ?_
          refine WL.c rfl (o_eq rfl rfl ?_)
          refine WL.c rfl (o_ash (show _ = Value.bool _ from rfl) ?_)
          refine WL.nil ?_
          refine W.cond rfl (fun c51 => ?_) (fun c51 => ?_)
          · try simp only [decide_eq_true_eq, decide_eq_false_iff_not, Bool.not_eq_true', Bool.not_eq_false', Bool.and_eq_true, Bool.or_eq_true, Bool.and_eq_false_iff, Bool.or_eq_false_iff] at c51
            refine W.seq ?_
            refine W.region ?_
            refine WL.c rfl (o_mvh (show _ = Value.bool _ from rfl) ?_)
            refine WL.c rfl (o_mvh (show _ = Value.bool _ from rfl) ?_)
            refine WL.sp 1 rfl (fun g55 => ?_) (fun g55 => ?_)
            · skip
              refine WL.g rfl (g55) rfl (o_fa 5 TI36 rfl TI3 rfl rfl ?_)
              refine WL.g rfl (g55) rfl (o_ld TI3 rfl rfl (cell_of hC1 rfl) ?_)
              refine WL.g rfl (g55) rfl (o_eq rfl rfl ?_)
              refine WL.c rfl (o_pickA rfl rfl ?_)
              refine WL.c rfl (o_mvh (show _ = Value.bool _ from rfl) ?_)
              refine WL.sp 6 rfl (fun g60 => ?_) (fun g60 => ?_)
              · skip
                refine WL.g rfl (g60) rfl (o_fa 1 TI36 rfl TI3 rfl rfl ?_)
                refine WL.g rfl (g60) rfl (o_ld TI3 rfl rfl (cell_of hC1 rfl) ?_)
                refine WL.g rfl (g60) rfl (o_ge rfl rfl ?_)
                refine WL.c rfl (o_pickA rfl rfl ?_)
                refine WL.c rfl (o_mvh (show _ = Value.bool _ from rfl) ?_)
                refine WL.sp 11 rfl (fun g65 => ?_) (fun g65 => ?_)
                · skip
                  refine WL.g rfl (g65) rfl (o_fa 1 TI36 rfl TI3 rfl rfl ?_)
                  refine WL.g rfl (g65) rfl (o_ld TI3 rfl rfl (cell_of hC1 rfl) ?_)
                  refine WL.g rfl (g65) rfl (o_le rfl rfl ?_)
                  refine WL.c rfl (o_pickA rfl rfl ?_)
                  refine WL.c rfl (o_ash (show _ = Value.bool _ from rfl) ?_)
                  refine WL.nil ?_
                  refine W.ret ?_
                  refine ret1v rfl (show _ = Value.bool _ from rfl) ?_
                  exact ⟨congrArg Value.bool (by rw [Bool.eq_iff_iff]; simp_all [rgtB, okB, namB, nameB_nil] <;> omega), hx⟩
                · skip
                  refine WL.s rfl (g65) rfl ?_
                  refine WL.s rfl (g65) rfl ?_
                  refine WL.s rfl (g65) rfl ?_
                  refine WL.c rfl (o_pickF rfl (g65) ?_)
                  refine WL.c rfl (o_ash (show _ = Value.bool _ from rfl) ?_)
                  refine WL.nil ?_
                  refine W.ret ?_
                  refine ret1v rfl (show _ = Value.bool _ from rfl) ?_
                  exact ⟨congrArg Value.bool (by rw [Bool.eq_iff_iff]; simp_all [rgtB, okB, namB, nameB_nil] <;> omega), hx⟩
              · skip
                refine WL.s rfl (g60) rfl ?_
                refine WL.s rfl (g60) rfl ?_
                refine WL.s rfl (g60) rfl ?_
                refine WL.c rfl (o_pickF rfl (g60) ?_)
                refine WL.c rfl (o_mvh (show _ = Value.bool _ from rfl) ?_)
                refine WL.s rfl (rfl) rfl ?_
                refine WL.s rfl (rfl) rfl ?_
                refine WL.s rfl (rfl) rfl ?_
                refine WL.c rfl (o_pickF rfl (rfl) ?_)
                refine WL.c rfl (o_ash (show _ = Value.bool _ from rfl) ?_)
                refine WL.nil ?_
                refine W.ret ?_
                refine ret1v rfl (show _ = Value.bool _ from rfl) ?_
                exact ⟨congrArg Value.bool (by rw [Bool.eq_iff_iff]; simp_all [rgtB, okB, namB, nameB_nil] <;> omega), hx⟩
            · skip
              refine WL.s rfl (g55) rfl ?_
              refine WL.s rfl (g55) rfl ?_
              refine WL.s rfl (g55) rfl ?_
              refine WL.c rfl (o_pickF rfl (g55) ?_)
              refine WL.c rfl (o_mvh (show _ = Value.bool _ from rfl) ?_)
              refine WL.s rfl (rfl) rfl ?_
              refine WL.s rfl (rfl) rfl ?_
              refine WL.s rfl (rfl) rfl ?_
              refine WL.c rfl (o_pickF rfl (rfl) ?_)
              refine WL.c rfl (o_mvh (show _ = Value.bool _ from rfl) ?_)
              refine WL.s rfl (rfl) rfl ?_
              refine WL.s rfl (rfl) rfl ?_
              refine WL.s rfl (rfl) rfl ?_
              refine WL.c rfl (o_pickF rfl (rfl) ?_)
              refine WL.c rfl (o_ash (show _ = Value.bool _ from rfl) ?_)
              refine WL.nil ?_
              refine W.ret ?_
              refine ret1v rfl (show _ = Value.bool _ from rfl) ?_
              exact ⟨congrArg Value.bool (by rw [Bool.eq_iff_iff]; simp_all [rgtB, okB, namB, nameB_nil] <;> omega), hx⟩
          · try simp only [decide_eq_true_eq, decide_eq_false_iff_not, Bool.not_eq_true', Bool.not_eq_false', Bool.and_eq_true, Bool.or_eq_true, Bool.and_eq_false_iff, Bool.or_eq_false_iff] at c51
            refine W.seq ?_
            refine W.region ?_
            refine WL.c rfl (o_eq rfl rfl ?_)
            refine WL.c rfl (o_ash (show _ = Value.bool _ from rfl) ?_)
            refine WL.nil ?_
            refine W.cond rfl (fun c70 => ?_) (fun c70 => ?_)
            · try simp only [decide_eq_true_eq, decide_eq_false_iff_not, Bool.not_eq_true', Bool.not_eq_false', Bool.and_eq_true, Bool.or_eq_true, Bool.and_eq_false_iff, Bool.or_eq_false_iff] at c70
              refine W.seq ?_
              refine W.region ?_
              refine WL.c rfl (o_mvh (show _ = Value.bool _ from rfl) ?_)
              refine WL.c rfl (o_mvh (show _ = Value.bool _ from rfl) ?_)
              refine WL.sp 1 rfl (fun g73 => ?_) (fun g73 => ?_)
              · skip
                refine WL.g rfl (g73) rfl (o_fa 5 TI36 rfl TI3 rfl rfl ?_)
                refine WL.g rfl (g73) rfl (o_ld TI3 rfl rfl (cell_of hC1 rfl) ?_)
                refine WL.g rfl (g73) rfl (o_eq rfl rfl ?_)
                refine WL.c rfl (o_pickA rfl rfl ?_)
                refine WL.c rfl (o_mvh (show _ = Value.bool _ from rfl) ?_)
                refine WL.sp 6 rfl (fun g78 => ?_) (fun g78 => ?_)
                · skip
                  refine WL.g rfl (g78) rfl (o_fa 1 TI36 rfl TI3 rfl rfl ?_)
                  refine WL.g rfl (g78) rfl (o_ld TI3 rfl rfl (cell_of hC1 rfl) ?_)
                  refine WL.g rfl (g78) rfl (o_eq rfl rfl ?_)
                  refine WL.c rfl (o_pickA rfl rfl ?_)
                  refine WL.c rfl (o_ash (show _ = Value.bool _ from rfl) ?_)
                  refine WL.nil ?_
                  refine W.ret ?_
                  refine ret1v rfl (show _ = Value.bool _ from rfl) ?_
                  exact ⟨congrArg Value.bool (by rw [Bool.eq_iff_iff]; simp_all [rgtB, okB, namB, nameB_nil] <;> omega), hx⟩
                · skip
                  refine WL.s rfl (g78) rfl ?_
                  refine WL.s rfl (g78) rfl ?_
                  refine WL.s rfl (g78) rfl ?_
                  refine WL.c rfl (o_pickF rfl (g78) ?_)
                  refine WL.c rfl (o_ash (show _ = Value.bool _ from rfl) ?_)
                  refine WL.nil ?_
                  refine W.ret ?_
                  refine ret1v rfl (show _ = Value.bool _ from rfl) ?_
                  exact ⟨congrArg Value.bool (by rw [Bool.eq_iff_iff]; simp_all [rgtB, okB, namB, nameB_nil] <;> omega), hx⟩
              · skip
                refine WL.s rfl (g73) rfl ?_
                refine WL.s rfl (g73) rfl ?_
                refine WL.s rfl (g73) rfl ?_
                refine WL.c rfl (o_pickF rfl (g73) ?_)
                refine WL.c rfl (o_mvh (show _ = Value.bool _ from rfl) ?_)
                refine WL.s rfl (rfl) rfl ?_
                refine WL.s rfl (rfl) rfl ?_
                refine WL.s rfl (rfl) rfl ?_
                refine WL.c rfl (o_pickF rfl (rfl) ?_)
                refine WL.c rfl (o_ash (show _ = Value.bool _ from rfl) ?_)
                refine WL.nil ?_
                refine W.ret ?_
                refine ret1v rfl (show _ = Value.bool _ from rfl) ?_
                exact ⟨congrArg Value.bool (by rw [Bool.eq_iff_iff]; simp_all [rgtB, okB, namB, nameB_nil] <;> omega), hx⟩
            · try simp only [decide_eq_true_eq, decide_eq_false_iff_not, Bool.not_eq_true', Bool.not_eq_false', Bool.and_eq_true, Bool.or_eq_true, Bool.and_eq_false_iff, Bool.or_eq_false_iff] at c70
              refine W.seq ?_
              refine W.seq ?_
              refine W.region ?_
              refine WL.c rfl (o_eq rfl rfl ?_)
              refine WL.c rfl (o_ash (show _ = Value.bool _ from rfl) ?_)
              refine WL.nil ?_
              refine W.cond rfl (fun c83 => ?_) (fun c83 => ?_)
              · try simp only [decide_eq_true_eq, decide_eq_false_iff_not, Bool.not_eq_true', Bool.not_eq_false', Bool.and_eq_true, Bool.or_eq_true, Bool.and_eq_false_iff, Bool.or_eq_false_iff] at c83
                refine W.skip ?_
                refine W.cond rfl (fun c83 => ?_) (fun c83 => ?_)
                · try simp only [decide_eq_true_eq, decide_eq_false_iff_not, Bool.not_eq_true', Bool.not_eq_false', Bool.and_eq_true, Bool.or_eq_true, Bool.and_eq_false_iff, Bool.or_eq_false_iff] at c83
                  refine W.seq ?_
                  refine W.region ?_
                  refine WL.c rfl (o_mvh (show _ = Value.bool _ from rfl) ?_)
                  refine WL.c rfl (o_mvh (show _ = Value.bool _ from rfl) ?_)
                  refine WL.sp 1 rfl (fun g87 => ?_) (fun g87 => ?_)
                  · skip
                    refine WL.g rfl (g87) rfl (o_fa 5 TI36 rfl TI3 rfl rfl ?_)
                    refine WL.g rfl (g87) rfl (o_ld TI3 rfl rfl (cell_of hC1 rfl) ?_)
                    refine WL.g rfl (g87) rfl (o_ge rfl rfl ?_)
                    refine WL.c rfl (o_pickA rfl rfl ?_)
                    refine WL.c rfl (o_mvh (show _ = Value.bool _ from rfl) ?_)
                    refine WL.sp 6 rfl (fun g92 => ?_) (fun g92 => ?_)
                    · skip
                      refine WL.g rfl (g92) rfl (o_fa 1 TI36 rfl TI3 rfl rfl ?_)
                      refine WL.g rfl (g92) rfl (o_ld TI3 rfl rfl (cell_of hC1 rfl) ?_)
                      refine WL.g rfl (g92) rfl (o_eq rfl rfl ?_)
                      refine WL.c rfl (o_pickA rfl rfl ?_)
                      refine WL.c rfl (o_ash (show _ = Value.bool _ from rfl) ?_)
                      refine WL.nil ?_
                      refine W.ret ?_
                      refine ret1v rfl (show _ = Value.bool _ from rfl) ?_
                      exact ⟨congrArg Value.bool (by rw [Bool.eq_iff_iff]; simp_all [rgtB, okB, namB, nameB_nil] <;> omega), hx⟩
                    · skip
                      refine WL.s rfl (g92) rfl ?_
                      refine WL.s rfl (g92) rfl ?_
                      refine WL.s rfl (g92) rfl ?_
                      refine WL.c rfl (o_pickF rfl (g92) ?_)
                      refine WL.c rfl (o_ash (show _ = Value.bool _ from rfl) ?_)
                      refine WL.nil ?_
                      refine W.ret ?_
                      refine ret1v rfl (show _ = Value.bool _ from rfl) ?_
                      exact ⟨congrArg Value.bool (by rw [Bool.eq_iff_iff]; simp_all [rgtB, okB, namB, nameB_nil] <;> omega), hx⟩
                  · skip
                    refine WL.s rfl (g87) rfl ?_
                    refine WL.s rfl (g87) rfl ?_
                    refine WL.s rfl (g87) rfl ?_
                    refine WL.c rfl (o_pickF rfl (g87) ?_)
                    refine WL.c rfl (o_mvh (show _ = Value.bool _ from rfl) ?_)
                    refine WL.s rfl (rfl) rfl ?_
                    refine WL.s rfl (rfl) rfl ?_
                    refine WL.s rfl (rfl) rfl ?_
                    refine WL.c rfl (o_pickF rfl (rfl) ?_)
                    refine WL.c rfl (o_ash (show _ = Value.bool _ from rfl) ?_)
                    refine WL.nil ?_
                    refine W.ret ?_
                    refine ret1v rfl (show _ = Value.bool _ from rfl) ?_
                    exact ⟨congrArg Value.bool (by rw [Bool.eq_iff_iff]; simp_all [rgtB, okB, namB, nameB_nil] <;> omega), hx⟩
                · try simp only [decide_eq_true_eq, decide_eq_false_iff_not, Bool.not_eq_true', Bool.not_eq_false', Bool.and_eq_true, Bool.or_eq_true, Bool.and_eq_false_iff, Bool.or_eq_false_iff] at c83
                  refine W.seq ?_
                  refine W.region ?_
                  refine WL.c rfl (o_eq rfl rfl ?_)
                  refine WL.c rfl (o_ash (show _ = Value.bool _ from rfl) ?_)
                  refine WL.nil ?_
                  refine W.cond rfl (fun c97 => ?_) (fun c97 => ?_)
                  · try simp only [decide_eq_true_eq, decide_eq_false_iff_not, Bool.not_eq_true', Bool.not_eq_false', Bool.and_eq_true, Bool.or_eq_true, Bool.and_eq_false_iff, Bool.or_eq_false_iff] at c97
                    refine W.seq ?_
                    refine W.region ?_
                    refine WL.c rfl (o_fa 2 TI36 rfl TI9 rfl rfl ?_)
                    refine WL.c rfl (o_ld TI9 rfl rfl (cell_of hC1 rfl) ?_)
                    refine WL.c rfl (o_call Tryd.call43 (lc rfl ln) ((rname_spec x.name _ hn).mono ?_))
                    rintro v101 w101 ⟨rfl, rfl⟩
                    refine WL.c rfl (o_mvh (show _ = Value.bool _ from rfl) ?_)
                    refine WL.sp 3 rfl (fun g102 => ?_) (fun g102 => ?_)
                    · skip
                      refine WL.g rfl (g102) rfl (o_fa 5 TI36 rfl TI3 rfl rfl ?_)
                      refine WL.g rfl (g102) rfl (o_ld TI3 rfl rfl (cell_of hC1 rfl) ?_)
                      refine WL.g rfl (g102) rfl (o_eq rfl rfl ?_)
                      refine WL.c rfl (o_pickA rfl rfl ?_)
                      refine WL.c rfl (o_mvh (show _ = Value.bool _ from rfl) ?_)
                      refine WL.sp 8 rfl (fun g107 => ?_) (fun g107 => ?_)
                      · skip
                        refine WL.g rfl (g107) rfl (o_fa 1 TI36 rfl TI3 rfl rfl ?_)
                        refine WL.g rfl (g107) rfl (o_ld TI3 rfl rfl (cell_of hC1 rfl) ?_)
                        refine WL.g rfl (g107) rfl (o_eq rfl rfl ?_)
                        refine WL.c rfl (o_pickA rfl rfl ?_)
                        refine WL.c rfl (o_ash (show _ = Value.bool _ from rfl) ?_)
                        refine WL.nil ?_
                        refine W.ret ?_
                        refine ret1v rfl (show _ = Value.bool _ from rfl) ?_
                        exact ⟨congrArg Value.bool (by rw [Bool.eq_iff_iff]; simp_all [rgtB, okB, namB, nameB_nil] <;> omega), hx⟩
                      · skip
                        refine WL.s rfl (g107) rfl ?_
                        refine WL.s rfl (g107) rfl ?_
                        refine WL.s rfl (g107) rfl ?_
                        refine WL.c rfl (o_pickF rfl (g107) ?_)
                        refine WL.c rfl (o_ash (show _ = Value.bool _ from rfl) ?_)
                        refine WL.nil ?_
                        refine W.ret ?_
                        refine ret1v rfl (show _ = Value.bool _ from rfl) ?_
                        exact ⟨congrArg Value.bool (by rw [Bool.eq_iff_iff]; simp_all [rgtB, okB, namB, nameB_nil] <;> omega), hx⟩
                    · skip
                      refine WL.s rfl (g102) rfl ?_
                      refine WL.s rfl (g102) rfl ?_
                      refine WL.s rfl (g102) rfl ?_
                      refine WL.c rfl (o_pickF rfl (g102) ?_)
                      refine WL.c rfl (o_mvh (show _ = Value.bool _ from rfl) ?_)
                      refine WL.s rfl (rfl) rfl ?_
                      refine WL.s rfl (rfl) rfl ?_
                      refine WL.s rfl (rfl) rfl ?_
                      refine WL.c rfl (o_pickF rfl (rfl) ?_)
                      refine WL.c rfl (o_ash (show _ = Value.bool _ from rfl) ?_)
                      refine WL.nil ?_
                      refine W.ret ?_
                      refine ret1v rfl (show _ = Value.bool _ from rfl) ?_
                      exact ⟨congrArg Value.bool (by rw [Bool.eq_iff_iff]; simp_all [rgtB, okB, namB, nameB_nil] <;> omega), hx⟩
                  · try simp only [decide_eq_true_eq, decide_eq_false_iff_not, Bool.not_eq_true', Bool.not_eq_false', Bool.and_eq_true, Bool.or_eq_true, Bool.and_eq_false_iff, Bool.or_eq_false_iff] at c97
                    refine W.skip ?_
                    refine W.seq ?_
                    refine W.region ?_
                    refine WL.c rfl (o_ash (show _ = Value.bool _ from rfl) ?_)
                    refine WL.nil ?_
                    refine W.ret ?_
                    refine ret1v rfl (show _ = Value.bool _ from rfl) ?_
                    exact ⟨congrArg Value.bool (by rw [Bool.eq_iff_iff]; simp_all [rgtB, okB, namB, nameB_nil] <;> omega), hx⟩
              · try simp only [decide_eq_true_eq, decide_eq_false_iff_not, Bool.not_eq_true', Bool.not_eq_false', Bool.and_eq_true, Bool.or_eq_true, Bool.and_eq_false_iff, Bool.or_eq_false_iff] at c83
                refine W.region ?_
                refine WL.c rfl (o_eq rfl rfl ?_)
                refine WL.c rfl (o_ash (show _ = Value.bool _ from rfl) ?_)
                refine WL.nil ?_
                refine W.cond rfl (fun c83 => ?_) (fun c83 => ?_)
                · try simp only [decide_eq_true_eq, decide_eq_false_iff_not, Bool.not_eq_true', Bool.not_eq_false', Bool.and_eq_true, Bool.or_eq_true, Bool.and_eq_false_iff, Bool.or_eq_false_iff] at c83
                  refine W.seq ?_
                  refine W.region ?_
                  refine WL.c rfl (o_mvh (show _ = Value.bool _ from rfl) ?_)
                  refine WL.c rfl (o_mvh (show _ = Value.bool _ from rfl) ?_)
                  refine WL.sp 1 rfl (fun g87 => ?_) (fun g87 => ?_)
                  · skip
                    refine WL.g rfl (g87) rfl (o_fa 5 TI36 rfl TI3 rfl rfl ?_)
                    refine WL.g rfl (g87) rfl (o_ld TI3 rfl rfl (cell_of hC1 rfl) ?_)
                    refine WL.g rfl (g87) rfl (o_ge rfl rfl ?_)
                    refine WL.c rfl (o_pickA rfl rfl ?_)
                    refine WL.c rfl (o_mvh (show _ = Value.bool _ from rfl) ?_)
                    refine WL.sp 6 rfl (fun g92 => ?_) (fun g92 => ?_)
                    · skip
                      refine WL.g rfl (g92) rfl (o_fa 1 TI36 rfl TI3 rfl rfl ?_)
                      refine WL.g rfl (g92) rfl (o_ld TI3 rfl rfl (cell_of hC1 rfl) ?_)
                      refine WL.g rfl (g92) rfl (o_eq rfl rfl ?_)
                      refine WL.c rfl (o_pickA rfl rfl ?_)
                      refine WL.c rfl (o_ash (show _ = Value.bool _ from rfl) ?_)
                      refine WL.nil ?_
                      refine W.ret ?_
                      refine ret1v rfl (show _ = Value.bool _ from rfl) ?_
                      exact ⟨congrArg Value.bool (by rw [Bool.eq_iff_iff]; simp_all [rgtB, okB, namB, nameB_nil] <;> omega), hx⟩
                    · skip
                      refine WL.s rfl (g92) rfl ?_
                      refine WL.s rfl (g92) rfl ?_
                      refine WL.s rfl (g92) rfl ?_
                      refine WL.c rfl (o_pickF rfl (g92) ?_)
                      refine WL.c rfl (o_ash (show _ = Value.bool _ from rfl) ?_)
                      refine WL.nil ?_
                      refine W.ret ?_
                      refine ret1v rfl (show _ = Value.bool _ from rfl) ?_
                      exact ⟨congrArg Value.bool (by rw [Bool.eq_iff_iff]; simp_all [rgtB, okB, namB, nameB_nil] <;> omega), hx⟩
                  · skip
                    refine WL.s rfl (g87) rfl ?_
                    refine WL.s rfl (g87) rfl ?_
                    refine WL.s rfl (g87) rfl ?_
                    refine WL.c rfl (o_pickF rfl (g87) ?_)
                    refine WL.c rfl (o_mvh (show _ = Value.bool _ from rfl) ?_)
                    refine WL.s rfl (rfl) rfl ?_
                    refine WL.s rfl (rfl) rfl ?_
                    refine WL.s rfl (rfl) rfl ?_
                    refine WL.c rfl (o_pickF rfl (rfl) ?_)
                    refine WL.c rfl (o_ash (show _ = Value.bool _ from rfl) ?_)
                    refine WL.nil ?_
                    refine W.ret ?_
                    refine ret1v rfl (show _ = Value.bool _ from rfl) ?_
                    exact ⟨congrArg Value.bool (by rw [Bool.eq_iff_iff]; simp_all [rgtB, okB, namB, nameB_nil] <;> omega), hx⟩
                · try simp only [decide_eq_true_eq, decide_eq_false_iff_not, Bool.not_eq_true', Bool.not_eq_false', Bool.and_eq_true, Bool.or_eq_true, Bool.and_eq_false_iff, Bool.or_eq_false_iff] at c83
                  refine W.seq ?_
                  refine W.region ?_
                  refine WL.c rfl (o_eq rfl rfl ?_)
                  refine WL.c rfl (o_ash (show _ = Value.bool _ from rfl) ?_)
                  refine WL.nil ?_
                  refine W.cond rfl (fun c97 => ?_) (fun c97 => ?_)
                  · try simp only [decide_eq_true_eq, decide_eq_false_iff_not, Bool.not_eq_true', Bool.not_eq_false', Bool.and_eq_true, Bool.or_eq_true, Bool.and_eq_false_iff, Bool.or_eq_false_iff] at c97
                    refine W.seq ?_
                    refine W.region ?_
                    refine WL.c rfl (o_fa 2 TI36 rfl TI9 rfl rfl ?_)
                    refine WL.c rfl (o_ld TI9 rfl rfl (cell_of hC1 rfl) ?_)
                    refine WL.c rfl (o_call Tryd.call43 (lc rfl ln) ((rname_spec x.name _ hn).mono ?_))
                    rintro v101 w101 ⟨rfl, rfl⟩
                    refine WL.c rfl (o_mvh (show _ = Value.bool _ from rfl) ?_)
                    refine WL.sp 3 rfl (fun g102 => ?_) (fun g102 => ?_)
                    · skip
                      refine WL.g rfl (g102) rfl (o_fa 5 TI36 rfl TI3 rfl rfl ?_)
                      refine WL.g rfl (g102) rfl (o_ld TI3 rfl rfl (cell_of hC1 rfl) ?_)
                      refine WL.g rfl (g102) rfl (o_eq rfl rfl ?_)
                      refine WL.c rfl (o_pickA rfl rfl ?_)
                      refine WL.c rfl (o_mvh (show _ = Value.bool _ from rfl) ?_)
                      refine WL.sp 8 rfl (fun g107 => ?_) (fun g107 => ?_)
                      · skip
                        refine WL.g rfl (g107) rfl (o_fa 1 TI36 rfl TI3 rfl rfl ?_)
                        refine WL.g rfl (g107) rfl (o_ld TI3 rfl rfl (cell_of hC1 rfl) ?_)
                        refine WL.g rfl (g107) rfl (o_eq rfl rfl ?_)
                        refine WL.c rfl (o_pickA rfl rfl ?_)
                        refine WL.c rfl (o_ash (show _ = Value.bool _ from rfl) ?_)
                        refine WL.nil ?_
                        refine W.ret ?_
                        refine ret1v rfl (show _ = Value.bool _ from rfl) ?_
                        exact ⟨congrArg Value.bool (by rw [Bool.eq_iff_iff]; simp_all [rgtB, okB, namB, nameB_nil] <;> omega), hx⟩
                      · skip
                        refine WL.s rfl (g107) rfl ?_
                        refine WL.s rfl (g107) rfl ?_
                        refine WL.s rfl (g107) rfl ?_
                        refine WL.c rfl (o_pickF rfl (g107) ?_)
                        refine WL.c rfl (o_ash (show _ = Value.bool _ from rfl) ?_)
                        refine WL.nil ?_
                        refine W.ret ?_
                        refine ret1v rfl (show _ = Value.bool _ from rfl) ?_
                        exact ⟨congrArg Value.bool (by rw [Bool.eq_iff_iff]; simp_all [rgtB, okB, namB, nameB_nil] <;> omega), hx⟩
                    · skip
                      refine WL.s rfl (g102) rfl ?_
                      refine WL.s rfl (g102) rfl ?_
                      refine WL.s rfl (g102) rfl ?_
                      refine WL.c rfl (o_pickF rfl (g102) ?_)
                      refine WL.c rfl (o_mvh (show _ = Value.bool _ from rfl) ?_)
                      refine WL.s rfl (rfl) rfl ?_
                      refine WL.s rfl (rfl) rfl ?_
                      refine WL.s rfl (rfl) rfl ?_
                      refine WL.c rfl (o_pickF rfl (rfl) ?_)
                      refine WL.c rfl (o_ash (show _ = Value.bool _ from rfl) ?_)
                      refine WL.nil ?_
                      refine W.ret ?_
                      refine ret1v rfl (show _ = Value.bool _ from rfl) ?_
                      exact ⟨congrArg Value.bool (by rw [Bool.eq_iff_iff]; simp_all [rgtB, okB, namB, nameB_nil] <;> omega), hx⟩
                  · try simp only [decide_eq_true_eq, decide_eq_false_iff_not, Bool.not_eq_true', Bool.not_eq_false', Bool.and_eq_true, Bool.or_eq_true, Bool.and_eq_false_iff, Bool.or_eq_false_iff] at c97
                    refine W.skip ?_
                    refine W.seq ?_
                    refine W.region ?_
                    refine WL.c rfl (o_ash (show _ = Value.bool _ from rfl) ?_)
                    refine WL.nil ?_
                    refine W.ret ?_
                    refine ret1v rfl (show _ = Value.bool _ from rfl) ?_
                    exact ⟨congrArg Value.bool (by rw [Bool.eq_iff_iff]; simp_all [rgtB, okB, namB, nameB_nil] <;> omega), hx⟩
    · try simp only [decide_eq_true_eq, decide_eq_false_iff_not, Bool.not_eq_true', Bool.not_eq_false', Bool.and_eq_true, Bool.or_eq_true, Bool.and_eq_false_iff, Bool.or_eq_false_iff] at c37
      refine W.region ?_
      refine WL.c rfl (o_eq rfl rfl ?_)
      refine WL.c rfl (o_ash (show _ = Value.bool _ from rfl) ?_)
      refine WL.nil ?_
      refine W.cond rfl (fun c37 => ?_) (fun c37 => ?_)
      · try simp only [decide_eq_true_eq, decide_eq_false_iff_not, Bool.not_eq_true', Bool.not_eq_false', Bool.and_eq_true, Bool.or_eq_true, Bool.and_eq_false_iff, Bool.or_eq_false_iff] at c37
        refine W.seq ?_
        refine W.region ?_
        refine WL.c rfl (o_mvh (show _ = Value.bool _ from rfl) ?_)
        refine WL.c rfl (o_mvh (show _ = Value.bool _ from rfl) ?_)
        refine WL.sp 1 rfl (fun g41 => ?_) (fun g41 => ?_)
        · skip
          refine WL.g rfl (g41) rfl (o_fa 5 TI36 rfl TI3 rfl rfl ?_)
          refine WL.g rfl (g41) rfl (o_ld TI3 rfl rfl (cell_of hC1 rfl) ?_)
          refine WL.g rfl (g41) rfl (o_eq rfl rfl ?_)
          refine WL.c rfl (o_pickA rfl rfl ?_)
          refine WL.c rfl (o_mvh (show _ = Value.bool _ from rfl) ?_)
          refine WL.sp 6 rfl (fun g46 => ?_) (fun g46 => ?_)
          · skip
            refine WL.g rfl (g46) rfl (o_fa 1 TI36 rfl TI3 rfl rfl ?_)
            refine WL.g rfl (g46) rfl (o_ld TI3 rfl rfl (cell_of hC1 rfl) ?_)
            refine WL.g rfl (g46) rfl (o_eq rfl rfl ?_)
            refine WL.c rfl (o_pickA rfl rfl ?_)
            refine WL.c rfl (o_ash (show _ = Value.bool _ from rfl) ?_)
            refine WL.nil ?_
            refine W.ret ?_
            refine ret1v rfl (show _ = Value.bool _ from rfl) ?_
            exact ⟨congrArg Value.bool (by rw [Bool.eq_iff_iff]; simp_all [rgtB, okB, namB, nameB_nil] <;> omega), hx⟩
          · skip
            refine WL.s rfl (g46) rfl ?_
            refine WL.s rfl (g46) rfl ?_
            refine WL.s rfl (g46) rfl ?_
            refine WL.c rfl (o_pickF rfl (g46) ?_)
            refine WL.c rfl (o_ash (show _ = Value.bool _ from rfl) ?_)
            refine WL.nil ?_
            refine W.ret ?_
            refine ret1v rfl (show _ = Value.bool _ from rfl) ?_
            exact ⟨congrArg Value.bool (by rw [Bool.eq_iff_iff]; simp_all [rgtB, okB, namB, nameB_nil] <;> omega), hx⟩
        · skip
          refine WL.s rfl (g41) rfl ?_
          refine WL.s rfl (g41) rfl ?_
          refine WL.s rfl (g41) rfl ?_
          refine WL.c rfl (o_pickF rfl (g41) ?_)
          refine WL.c rfl (o_mvh (show _ = Value.bool _ from rfl) ?_)
          refine WL.s rfl (rfl) rfl ?_
          refine WL.s rfl (rfl) rfl ?_
          refine WL.s rfl (rfl) rfl ?_
          refine WL.c rfl (o_pickF rfl (rfl) ?_)
          refine WL.c rfl (o_ash (show _ = Value.bool _ from rfl) ?_)
          refine WL.nil ?_
          refine W.ret ?_
          refine ret1v rfl (show _ = Value.bool _ from rfl) ?_
          exact ⟨congrArg Value.bool (by rw [Bool.eq_iff_iff]; simp_all [rgtB, okB, namB, nameB_nil] <;> omega), hx⟩
      · try simp only [decide_eq_true_eq, decide_eq_false_iff_not, Bool.not_eq_true', Bool.not_eq_false', Bool.and_eq_true, Bool.or_eq_true, Bool.and_eq_false_iff, Bool.or_eq_false_iff] at c37
        refine W.seq ?_
        refine W.seq ?_
        refine W.region ?_
        refine WL.c rfl (o_eq rfl rfl ?_)
        refine WL.c rfl (o_ash (show _ = Value.bool _ from rfl) ?_)
        refine WL.nil ?_
        refine W.cond rfl (fun c51 => ?_) (fun c51 => ?_)
        · try simp only [decide_eq_true_eq, decide_eq_false_iff_not, Bool.not_eq_true', Bool.not_eq_false', Bool.and_eq_true, Bool.or_eq_true, Bool.and_eq_false_iff, Bool.or_eq_false_iff] at c51
          refine W.skip ?_
          refine W.cond rfl (fun c51 => ?_) (fun c51 => ?_)
          · try simp only [decide_eq_true_eq, decide_eq_false_iff_not, Bool.not_eq_true', Bool.not_eq_false', Bool.and_eq_true, Bool.or_eq_true, Bool.and_eq_false_iff, Bool.or_eq_false_iff] at c51
            refine W.seq ?_
            refine W.region ?_
            refine WL.c rfl (o_mvh (show _ = Value.bool _ from rfl) ?_)
            refine WL.c rfl (o_mvh (show _ = Value.bool _ from rfl) ?_)
            refine WL.sp 1 rfl (fun g55 => ?_) (fun g55 => ?_)
            · skip
              refine WL.g rfl (g55) rfl (o_fa 5 TI36 rfl TI3 rfl rfl ?_)
              refine WL.g rfl (g55) rfl (o_ld TI3 rfl rfl (cell_of hC1 rfl) ?_)
              refine WL.g rfl (g55) rfl (o_eq rfl rfl ?_)
              refine WL.c rfl (o_pickA rfl rfl ?_)
              refine WL.c rfl (o_mvh (show _ = Value.bool _ from rfl) ?_)
              refine WL.sp 6 rfl (fun g60 => ?_) (fun g60 => ?_)
              · skip
                refine WL.g rfl (g60) rfl (o_fa 1 TI36 rfl TI3 rfl rfl ?_)
                refine WL.g rfl (g60) rfl (o_ld TI3 rfl rfl (cell_of hC1 rfl) ?_)
                refine WL.g rfl (g60) rfl (o_ge rfl rfl ?_)
                refine WL.c rfl (o_pickA rfl rfl ?_)
                refine WL.c rfl (o_mvh (show _ = Value.bool _ from rfl) ?_)
                refine WL.sp 11 rfl (fun g65 => ?_) (fun g65 => ?_)
                · skip
                  refine WL.g rfl (g65) rfl (o_fa 1 TI36 rfl TI3 rfl rfl ?_)
                  refine WL.g rfl (g65) rfl (o_ld TI3 rfl rfl (cell_of hC1 rfl) ?_)
                  refine WL.g rfl (g65) rfl (o_le rfl rfl ?_)
                  refine WL.c rfl (o_pickA rfl rfl ?_)
                  refine WL.c rfl (o_ash (show _ = Value.bool _ from rfl) ?_)
                  refine WL.nil ?_
                  refine W.ret ?_
                  refine ret1v rfl (show _ = Value.bool _ from rfl) ?_
                  exact ⟨congrArg Value.bool (by rw [Bool.eq_iff_iff]; simp_all [rgtB, okB, namB, nameB_nil] <;> omega), hx⟩
                · skip
                  refine WL.s rfl (g65) rfl ?_
                  refine WL.s rfl (g65) rfl ?_
                  refine WL.s rfl (g65) rfl ?_
                  refine WL.c rfl (o_pickF rfl (g65) ?_)
                  refine WL.c rfl (o_ash (show _ = Value.bool _ from rfl) ?_)
                  refine WL.nil ?_
                  refine W.ret ?_
                  refine ret1v rfl (show _ = Value.bool _ from rfl) ?_
                  exact ⟨congrArg Value.bool (by rw [Bool.eq_iff_iff]; simp_all [rgtB, okB, namB, nameB_nil] <;> omega), hx⟩
              · skip
                refine WL.s rfl (g60) rfl ?_
                refine WL.s rfl (g60) rfl ?_
                refine WL.s rfl (g60) rfl ?_
                refine WL.c rfl (o_pickF rfl (g60) ?_)
                refine WL.c rfl (o_mvh (show _ = Value.bool _ from rfl) ?_)
                refine WL.s rfl (rfl) rfl ?_
                refine WL.s rfl (rfl) rfl ?_
                refine WL.s rfl (rfl) rfl ?_
                refine WL.c rfl (o_pickF rfl (rfl) ?_)
                refine WL.c rfl (o_ash (show _ = Value.bool _ from rfl) ?_)
                refine WL.nil ?_
                refine W.ret ?_
                refine ret1v rfl (show _ = Value.bool _ from rfl) ?_
                exact ⟨congrArg Value.bool (by rw [Bool.eq_iff_iff]; simp_all [rgtB, okB, namB, nameB_nil] <;> omega), hx⟩
            · skip
              refine WL.s rfl (g55) rfl ?_
              refine WL.s rfl (g55) rfl ?_
              refine WL.s rfl (g55) rfl ?_
              refine WL.c rfl (o_pickF rfl (g55) ?_)
              refine WL.c rfl (o_mvh (show _ = Value.bool _ from rfl) ?_)
              refine WL.s rfl (rfl) rfl ?_
              refine WL.s rfl (rfl) rfl ?_
              refine WL.s rfl (rfl) rfl ?_
              refine WL.c rfl (o_pickF rfl (rfl) ?_)
              refine WL.c rfl (o_mvh (show _ = Value.bool _ from rfl) ?_)
              refine WL.s rfl (rfl) rfl ?_
              refine WL.s rfl (rfl) rfl ?_
              refine WL.s rfl (rfl) rfl ?_
              refine WL.c rfl (o_pickF rfl (rfl) ?_)
              refine WL.c rfl (o_ash (show _ = Value.bool _ from rfl) ?_)
              refine WL.nil ?_
              refine W.ret ?_
              refine ret1v rfl (show _ = Value.bool _ from rfl) ?_
              exact ⟨congrArg Value.bool (by rw [Bool.eq_iff_iff]; simp_all [rgtB, okB, namB, nameB_nil] <;> omega), hx⟩
          · try simp only [decide_eq_true_eq, decide_eq_false_iff_not, Bool.not_eq_true', Bool.not_eq_false', Bool.and_eq_true, Bool.or_eq_true, Bool.and_eq_false_iff, Bool.or_eq_false_iff] at c51
            refine W.seq ?_
            refine W.region ?_
            refine WL.c rfl (o_eq rfl rfl ?_)
            refine WL.c rfl (o_ash (show _ = Value.bool _ from rfl) ?_)
            refine WL.nil ?_
            refine W.cond rfl (fun c70 => ?_) (fun c70 => ?_)
            · try simp only [decide_eq_true_eq, decide_eq_false_iff_not, Bool.not_eq_true', Bool.not_eq_false', Bool.and_eq_true, Bool.or_eq_true, Bool.and_eq_false_iff, Bool.or_eq_false_iff] at c70
              refine W.seq ?_
              refine W.region ?_
              refine WL.c rfl (o_mvh (show _ = Value.bool _ from rfl) ?_)
              refine WL.c rfl (o_mvh (show _ = Value.bool _ from rfl) ?_)
              refine WL.sp 1 rfl (fun g73 => ?_) (fun g73 => ?_)
              · skip
                refine WL.g rfl (g73) rfl (o_fa 5 TI36 rfl TI3 rfl rfl ?_)
                refine WL.g rfl (g73) rfl (o_ld TI3 rfl rfl (cell_of hC1 rfl) ?_)
                refine WL.g rfl (g73) rfl (o_eq rfl rfl ?_)
                refine WL.c rfl (o_pickA rfl rfl ?_)
                refine WL.c rfl (o_mvh (show _ = Value.bool _ from rfl) ?_)
                refine WL.sp 6 rfl (fun g78 => ?_) (fun g78 => ?_)
                · skip
                  refine WL.g rfl (g78) rfl (o_fa 1 TI36 rfl TI3 rfl rfl ?_)
                  refine WL.g rfl (g78) rfl (o_ld TI3 rfl rfl (cell_of hC1 rfl) ?_)
                  refine WL.g rfl (g78) rfl (o_eq rfl rfl ?_)
                  refine WL.c rfl (o_pickA rfl rfl ?_)
                  refine WL.c rfl (o_ash (show _ = Value.bool _ from rfl) ?_)
                  refine WL.nil ?_
                  refine W.ret ?_
                  refine ret1v rfl (show _ = Value.bool _ from rfl) ?_
                  exact ⟨congrArg Value.bool (by rw [Bool.eq_iff_iff]; simp_all [rgtB, okB, namB, nameB_nil] <;> omega), hx⟩
                · skip
                  refine WL.s rfl (g78) rfl ?_
                  refine WL.s rfl (g78) rfl ?_
                  refine WL.s rfl (g78) rfl ?_
                  refine WL.c rfl (o_pickF rfl (g78) ?_)
                  refine WL.c rfl (o_ash (show _ = Value.bool _ from rfl) ?_)
                  refine WL.nil ?_
                  refine W.ret ?_
                  refine ret1v rfl (show _ = Value.bool _ from rfl) ?_
                  exact ⟨congrArg Value.bool (by rw [Bool.eq_iff_iff]; simp_all [rgtB, okB, namB, nameB_nil] <;> omega), hx⟩
              · skip
                refine WL.s rfl (g73) rfl ?_
                refine WL.s rfl (g73) rfl ?_
                refine WL.s rfl (g73) rfl ?_
                refine WL.c rfl (o_pickF rfl (g73) ?_)
                refine WL.c rfl (o_mvh (show _ = Value.bool _ from rfl) ?_)
                refine WL.s rfl (rfl) rfl ?_
                refine WL.s rfl (rfl) rfl ?_
                refine WL.s rfl (rfl) rfl ?_
                refine WL.c rfl (o_pickF rfl (rfl) ?_)
                refine WL.c rfl (o_ash (show _ = Value.bool _ from rfl) ?_)
                refine WL.nil ?_
                refine W.ret ?_
                refine ret1v rfl (show _ = Value.bool _ from rfl) ?_
                exact ⟨congrArg Value.bool (by rw [Bool.eq_iff_iff]; simp_all [rgtB, okB, namB, nameB_nil] <;> omega), hx⟩
            · try simp only [decide_eq_true_eq, decide_eq_false_iff_not, Bool.not_eq_true', Bool.not_eq_false', Bool.and_eq_true, Bool.or_eq_true, Bool.and_eq_false_iff, Bool.or_eq_false_iff] at c70
              refine W.seq ?_
              refine W.seq ?_
              refine W.region ?_
              refine WL.c rfl (o_eq rfl rfl ?_)
              refine WL.c rfl (o_ash (show _ = Value.bool _ from rfl) ?_)
              refine WL.nil ?_
              refine W.cond rfl (fun c83 => ?_) (fun c83 => ?_)
              · try simp only [decide_eq_true_eq, decide_eq_false_iff_not, Bool.not_eq_true', Bool.not_eq_false', Bool.and_eq_true, Bool.or_eq_true, Bool.and_eq_false_iff, Bool.or_eq_false_iff] at c83
                refine W.skip ?_
                refine W.cond rfl (fun c83 => ?_) (fun c83 => ?_)
                · try simp only [decide_eq_true_eq, decide_eq_false_iff_not, Bool.not_eq_true', Bool.not_eq_false', Bool.and_eq_true, Bool.or_eq_true, Bool.and_eq_false_iff, Bool.or_eq_false_iff] at c83
                  refine W.seq ?_
                  refine W.region ?_
                  refine WL.c rfl (o_mvh (show _ = Value.bool _ from rfl) ?_)
                  refine WL.c rfl (o_mvh (show _ = Value.bool _ from rfl) ?_)
                  refine WL.sp 1 rfl (fun g87 => ?_) (fun g87 => ?_)
                  · skip
                    refine WL.g rfl (g87) rfl (o_fa 5 TI36 rfl TI3 rfl rfl ?_)
                    refine WL.g rfl (g87) rfl (o_ld TI3 rfl rfl (cell_of hC1 rfl) ?_)
                    refine WL.g rfl (g87) rfl (o_ge rfl rfl ?_)
                    refine WL.c rfl (o_pickA rfl rfl ?_)
                    refine WL.c rfl (o_mvh (show _ = Value.bool _ from rfl) ?_)
                    refine WL.sp 6 rfl (fun g92 => ?_) (fun g92 => ?_)
                    · skip
                      refine WL.g rfl (g92) rfl (o_fa 1 TI36 rfl TI3 rfl rfl ?_)
                      refine WL.g rfl (g92) rfl (o_ld TI3 rfl rfl (cell_of hC1 rfl) ?_)
                      refine WL.g rfl (g92) rfl (o_eq rfl rfl ?_)
                      refine WL.c rfl (o_pickA rfl rfl ?_)
                      refine WL.c rfl (o_ash (show _ = Value.bool _ from rfl) ?_)
                      refine WL.nil ?_
                      refine W.ret ?_
                      refine ret1v rfl (show _ = Value.bool _ from rfl) ?_
                      exact ⟨congrArg Value.bool (by rw [Bool.eq_iff_iff]; simp_all [rgtB, okB, namB, nameB_nil] <;> omega), hx⟩
                    · skip
                      refine WL.s rfl (g92) rfl ?_
                      refine WL.s rfl (g92) rfl ?_
                      refine WL.s rfl (g92) rfl ?_
                      refine WL.c rfl (o_pickF rfl (g92) ?_)
                      refine WL.c rfl (o_ash (show _ = Value.bool _ from rfl) ?_)
                      refine WL.nil ?_
                      refine W.ret ?_
                      refine ret1v rfl (show _ = Value.bool _ from rfl) ?_
                      exact ⟨congrArg Value.bool (by rw [Bool.eq_iff_iff]; simp_all [rgtB, okB, namB, nameB_nil] <;> omega), hx⟩
                  · skip
                    refine WL.s rfl (g87) rfl ?_
                    refine WL.s rfl (g87) rfl ?_
                    refine WL.s rfl (g87) rfl ?_
                    refine WL.c rfl (o_pickF rfl (g87) ?_)
                    refine WL.c rfl (o_mvh (show _ = Value.bool _ from rfl) ?_)
                    refine WL.s rfl (rfl) rfl ?_
                    refine WL.s rfl (rfl) rfl ?_
                    refine WL.s rfl (rfl) rfl ?_
                    refine WL.c rfl (o_pickF rfl (rfl) ?_)
                    refine WL.c rfl (o_ash (show _ = Value.bool _ from rfl) ?_)
                    refine WL.nil ?_
                    refine W.ret ?_
                    refine ret1v rfl (show _ = Value.bool _ from rfl) ?_
                    exact ⟨congrArg Value.bool (by rw [Bool.eq_iff_iff]; simp_all [rgtB, okB, namB, nameB_nil] <;> omega), hx⟩
                · try simp only [decide_eq_true_eq, decide_eq_false_iff_not, Bool.not_eq_true', Bool.not_eq_false', Bool.and_eq_true, Bool.or_eq_true, Bool.and_eq_false_iff, Bool.or_eq_false_iff] at c83
                  refine W.seq ?_
                  refine W.region ?_
                  refine WL.c rfl (o_eq rfl rfl ?_)
                  refine WL.c rfl (o_ash (show _ = Value.bool _ from rfl) ?_)
                  refine WL.nil ?_
                  refine W.cond rfl (fun c97 => ?_) (fun c97 => ?_)
                  · try simp only [decide_eq_true_eq, decide_eq_false_iff_not, Bool.not_eq_true', Bool.not_eq_false', Bool.and_eq_true, Bool.or_eq_true, Bool.and_eq_false_iff, Bool.or_eq_false_iff] at c97
                    refine W.seq ?_
                    refine W.region ?_
                    refine WL.c rfl (o_fa 2 TI36 rfl TI9 rfl rfl ?_)
                    refine WL.c rfl (o_ld TI9 rfl rfl (cell_of hC1 rfl) ?_)
                    refine WL.c rfl (o_call Tryd.call43 (lc rfl ln) ((rname_spec x.name _ hn).mono ?_))
                    rintro v101 w101 ⟨rfl, rfl⟩
                    refine WL.c rfl (o_mvh (show _ = Value.bool _ from rfl) ?_)
                    refine WL.sp 3 rfl (fun g102 => ?_) (fun g102 => ?_)
                    · skip
                      refine WL.g rfl (g102) rfl (o_fa 5 TI36 rfl TI3 rfl rfl ?_)
                      refine WL.g rfl (g102) rfl (o_ld TI3 rfl rfl (cell_of hC1 rfl) ?_)
                      refine WL.g rfl (g102) rfl (o_eq rfl rfl ?_)
                      refine WL.c rfl (o_pickA rfl rfl ?_)
                      refine WL.c rfl (o_mvh (show _ = Value.bool _ from rfl) ?_)
                      refine WL.sp 8 rfl (fun g107 => ?_) (fun g107 => ?_)
                      · skip
                        refine WL.g rfl (g107) rfl (o_fa 1 TI36 rfl TI3 rfl rfl ?_)
                        refine WL.g rfl (g107) rfl (o_ld TI3 rfl rfl (cell_of hC1 rfl) ?_)
                        refine WL.g rfl (g107) rfl (o_eq rfl rfl ?_)
                        refine WL.c rfl (o_pickA rfl rfl ?_)
                        refine WL.c rfl (o_ash (show _ = Value.bool _ from rfl) ?_)
                        refine WL.nil ?_
                        refine W.ret ?_
                        refine ret1v rfl (show _ = Value.bool _ from rfl) ?_
                        exact ⟨congrArg Value.bool (by rw [Bool.eq_iff_iff]; simp_all [rgtB, okB, namB, nameB_nil] <;> omega), hx⟩
                      · skip
                        refine WL.s rfl (g107) rfl ?_
                        refine WL.s rfl (g107) rfl ?_
                        refine WL.s rfl (g107) rfl ?_
                        refine WL.c rfl (o_pickF rfl (g107) ?_)
                        refine WL.c rfl (o_ash (show _ = Value.bool _ from rfl) ?_)
                        refine WL.nil ?_
                        refine W.ret ?_
                        refine ret1v rfl (show _ = Value.bool _ from rfl) ?_
                        exact ⟨congrArg Value.bool (by rw [Bool.eq_iff_iff]; simp_all [rgtB, okB, namB, nameB_nil] <;> omega), hx⟩
                    · skip
                      refine WL.s rfl (g102) rfl ?_
                      refine WL.s rfl (g102) rfl ?_
                      refine WL.s rfl (g102) rfl ?_
                      refine WL.c rfl (o_pickF rfl (g102) ?_)
                      refine WL.c rfl (o_mvh (show _ = Value.bool _ from rfl) ?_)
                      refine WL.s rfl (rfl) rfl ?_
                      refine WL.s rfl (rfl) rfl ?_
                      refine WL.s rfl (rfl) rfl ?_
                      refine WL.c rfl (o_pickF rfl (rfl) ?_)
                      refine WL.c rfl (o_ash (show _ = Value.bool _ from rfl) ?_)
                      refine WL.nil ?_
                      refine W.ret ?_
                      refine ret1v rfl (show _ = Value.bool _ from rfl) ?_
                      exact ⟨congrArg Value.bool (by rw [Bool.eq_iff_iff]; simp_all [rgtB, okB, namB, nameB_nil] <;> omega), hx⟩
                  · try simp only [decide_eq_true_eq, decide_eq_false_iff_not, Bool.not_eq_true', Bool.not_eq_false', Bool.and_eq_true, Bool.or_eq_true, Bool.and_eq_false_iff, Bool.or_eq_false_iff] at c97
                    refine W.skip ?_
                    refine W.seq ?_
                    refine W.region ?_
                    refine WL.c rfl (o_ash (show _ = Value.bool _ from rfl) ?_)
                    refine WL.nil ?_
                    refine W.ret ?_
                    refine ret1v rfl (show _ = Value.bool _ from rfl) ?_
                    exact ⟨congrArg Value.bool (by rw [Bool.eq_iff_iff]; simp_all [rgtB, okB, namB, nameB_nil] <;> omega), hx⟩
              · try simp only [decide_eq_true_eq, decide_eq_false_iff_not, Bool.not_eq_true', Bool.not_eq_false', Bool.and_eq_true, Bool.or_eq_true, Bool.and_eq_false_iff, Bool.or_eq_false_iff] at c83
                refine W.region ?_
                refine WL.c rfl (o_eq rfl rfl ?_)
                refine WL.c rfl (o_ash (show _ = Value.bool _ from rfl) ?_)
                refine WL.nil ?_
                refine W.cond rfl (fun c83 => ?_) (fun c83 => ?_)
                · try simp only [decide_eq_true_eq, decide_eq_false_iff_not, Bool.not_eq_true', Bool.not_eq_false', Bool.and_eq_true, Bool.or_eq_true, Bool.and_eq_false_iff, Bool.or_eq_false_iff] at c83
                  refine W.seq ?_
                  refine W.region ?_
                  refine WL.c rfl (o_mvh (show _ = Value.bool _ from rfl) ?_)
                  refine WL.c rfl (o_mvh (show _ = Value.bool _ from rfl) ?_)
                  refine WL.sp 1 rfl (fun g87 => ?_) (fun g87 => ?_)
                  · skip
                    refine WL.g rfl (g87) rfl (o_fa 5 TI36 rfl TI3 rfl rfl ?_)
                    refine WL.g rfl (g87) rfl (o_ld TI3 rfl rfl (cell_of hC1 rfl) ?_)
                    refine WL.g rfl (g87) rfl (o_ge rfl rfl ?_)
                    refine WL.c rfl (o_pickA rfl rfl ?_)
                    refine WL.c rfl (o_mvh (show _ = Value.bool _ from rfl) ?_)
                    refine WL.sp 6 rfl (fun g92 => ?_) (fun g92 => ?_)
                    · skip
                      refine WL.g rfl (g92) rfl (o_fa 1 TI36 rfl TI3 rfl rfl ?_)
                      refine WL.g rfl (g92) rfl (o_ld TI3 rfl rfl (cell_of hC1 rfl) ?_)
                      refine WL.g rfl (g92) rfl (o_eq rfl rfl ?_)
                      refine WL.c rfl (o_pickA rfl rfl ?_)
                      refine WL.c rfl (o_ash (show _ = Value.bool _ from rfl) ?_)
                      refine WL.nil ?_
                      refine W.ret ?_
                      refine ret1v rfl (show _ = Value.bool _ from rfl) ?_
                      exact ⟨congrArg Value.bool (by rw [Bool.eq_iff_iff]; simp_all [rgtB, okB, namB, nameB_nil] <;> omega), hx⟩
                    · skip
                      refine WL.s rfl (g92) rfl ?_
                      refine WL.s rfl (g92) rfl ?_
                      refine WL.s rfl (g92) rfl ?_
                      refine WL.c rfl (o_pickF rfl (g92) ?_)
                      refine WL.c rfl (o_ash (show _ = Value.bool _ from rfl) ?_)
                      refine WL.nil ?_
                      refine W.ret ?_
                      refine ret1v rfl (show _ = Value.bool _ from rfl) ?_
                      exact ⟨congrArg Value.bool (by rw [Bool.eq_iff_iff]; simp_all [rgtB, okB, namB, nameB_nil] <;> omega), hx⟩
                  · skip
                    refine WL.s rfl (g87) rfl ?_
                    refine WL.s rfl (g87) rfl ?_
                    refine WL.s rfl (g87) rfl ?_
                    refine WL.c rfl (o_pickF rfl (g87) ?_)
                    refine WL.c rfl (o_mvh (show _ = Value.bool _ from rfl) ?_)
                    refine WL.s rfl (rfl) rfl ?_
                    refine WL.s rfl (rfl) rfl ?_
                    refine WL.s rfl (rfl) rfl ?_
                    refine WL.c rfl (o_pickF rfl (rfl) ?_)
                    refine WL.c rfl (o_ash (show _ = Value.bool _ from rfl) ?_)
                    refine WL.nil ?_
                    refine W.ret ?_
                    refine ret1v rfl (show _ = Value.bool _ from rfl) ?_
                    exact ⟨congrArg Value.bool (by rw [Bool.eq_iff_iff]; simp_all [rgtB, okB, namB, nameB_nil] <;> omega), hx⟩
                · try simp only [decide_eq_true_eq, decide_eq_false_iff_not, Bool.not_eq_true', Bool.not_eq_false', Bool.and_eq_true, Bool.or_eq_true, Bool.and_eq_false_iff, Bool.or_eq_false_iff] at c83
                  refine W.seq ?_
                  refine W.region ?_
                  refine WL.c rfl (o_eq rfl rfl ?_)
                  refine WL.c rfl (o_ash (show _ = Value.bool _ from rfl) ?_)
                  refine WL.nil ?_
                  refine W.cond rfl (fun c97 => ?_) (fun c97 => ?_)
                  · try simp only [decide_eq_true_eq, decide_eq_false_iff_not, Bool.not_eq_true', Bool.not_eq_false', Bool.and_eq_true, Bool.or_eq_true, Bool.and_eq_false_iff, Bool.or_eq_false_iff] at c97
                    refine W.seq ?_
                    refine W.region ?_
                    refine WL.c rfl (o_fa 2 TI36 rfl TI9 rfl rfl ?_)
                    refine WL.c rfl (o_ld TI9 rfl rfl (cell_of hC1 rfl) ?_)
                    refine WL.c rfl (o_call Tryd.call43 (lc rfl ln) ((rname_spec x.name _ hn).mono ?_))
                    rintro v101 w101 ⟨rfl, rfl⟩
                    refine WL.c rfl (o_mvh (show _ = Value.bool _ from rfl) ?_)
                    refine WL.sp 3 rfl (fun g102 => ?_) (fun g102 => ?_)
                    · skip
                      refine WL.g rfl (g102) rfl (o_fa 5 TI36 rfl TI3 rfl rfl ?_)
                      refine WL.g rfl (g102) rfl (o_ld TI3 rfl rfl (cell_of hC1 rfl) ?_)
                      refine WL.g rfl (g102) rfl (o_eq rfl rfl ?_)
                      refine WL.c rfl (o_pickA rfl rfl ?_)
                      refine WL.c rfl (o_mvh (show _ = Value.bool _ from rfl) ?_)
                      refine WL.sp 8 rfl (fun g107 => ?_) (fun g107 => ?_)
                      · skip
                        refine WL.g rfl (g107) rfl (o_fa 1 TI36 rfl TI3 rfl rfl ?_)
                        refine WL.g rfl (g107) rfl (o_ld TI3 rfl rfl (cell_of hC1 rfl) ?_)
                        refine WL.g rfl (g107) rfl (o_eq rfl rfl ?_)
                        refine WL.c rfl (o_pickA rfl rfl ?_)
                        refine WL.c rfl (o_ash (show _ = Value.bool _ from rfl) ?_)
                        refine WL.nil ?_
                        refine W.ret ?_
                        refine ret1v rfl (show _ = Value.bool _ from rfl) ?_
                        exact ⟨congrArg Value.bool (by rw [Bool.eq_iff_iff]; simp_all [rgtB, okB, namB, nameB_nil] <;> omega), hx⟩
                      · skip
                        refine WL.s rfl (g107) rfl ?_
                        refine WL.s rfl (g107) rfl ?_
                        refine WL.s rfl (g107) rfl ?_
                        refine WL.c rfl (o_pickF rfl (g107) ?_)
                        refine WL.c rfl (o_ash (show _ = Value.bool _ from rfl) ?_)
                        refine WL.nil ?_
                        refine W.ret ?_
                        refine ret1v rfl (show _ = Value.bool _ from rfl) ?_
                        exact ⟨congrArg Value.bool (by rw [Bool.eq_iff_iff]; simp_all [rgtB, okB, namB, nameB_nil] <;> omega), hx⟩
                    · skip
                      refine WL.s rfl (g102) rfl ?_
                      refine WL.s rfl (g102) rfl ?_
                      refine WL.s rfl (g102) rfl ?_
                      refine WL.c rfl (o_pickF rfl (g102) ?_)
                      refine WL.c rfl (o_mvh (show _ = Value.bool _ from rfl) ?_)
                      refine WL.s rfl (rfl) rfl ?_
                      refine WL.s rfl (rfl) rfl ?_
                      refine WL.s rfl (rfl) rfl ?_
                      refine WL.c rfl (o_pickF rfl (rfl) ?_)
                      refine WL.c rfl (o_ash (show _ = Value.bool _ from rfl) ?_)
                      refine WL.nil ?_
                      refine W.ret ?_
                      refine ret1v rfl (show _ = Value.bool _ from rfl) ?_
                      exact ⟨congrArg Value.bool (by rw [Bool.eq_iff_iff]; simp_all [rgtB, okB, namB, nameB_nil] <;> omega), hx⟩
                  · try simp only [decide_eq_true_eq, decide_eq_false_iff_not, Bool.not_eq_true', Bool.not_eq_false', Bool.and_eq_true, Bool.or_eq_true, Bool.and_eq_false_iff, Bool.or_eq_false_iff] at c97
                    refine W.skip ?_
                    refine W.seq ?_
                    refine W.region ?_
                    refine WL.c rfl (o_ash (show _ = Value.bool _ from rfl) ?_)
                    refine WL.nil ?_
                    refine W.ret ?_
                    refine ret1v rfl (show _ = Value.bool _ from rfl) ?_
                    exact ⟨congrArg Value.bool (by rw [Bool.eq_iff_iff]; simp_all [rgtB, okB, namB, nameB_nil] <;> omega), hx⟩
        · try simp only [decide_eq_true_eq, decide_eq_false_iff_not, Bool.not_eq_true', Bool.not_eq_false', Bool.and_eq_true, Bool.or_eq_true, Bool.and_eq_false_iff, Bool.or_eq_false_iff] at c51
          refine W.region ?_
          refine WL.c rfl (o_eq rfl rfl ?_)
          refine WL.c rfl (o_ash (show _ = Value.bool _ from rfl) ?_)
          refine WL.nil ?_
          refine W.cond rfl (fun c51 => ?_) (fun c51 => ?_)
          · try simp only [decide_eq_true_eq, decide_eq_false_iff_not, Bool.not_eq_true', Bool.not_eq_false', Bool.and_eq_true, Bool.or_eq_true, Bool.and_eq_false_iff, Bool.or_eq_false_iff] at c51
            refine W.seq ?_
            refine W.region ?_
            refine WL.c rfl (o_mvh (show _ = Value.bool _ from rfl) ?_)
            refine WL.c rfl (o_mvh (show _ = Value.bool _ from rfl) ?_)
            refine WL.sp 1 rfl (fun g55 => ?_) (fun g55 => ?_)
            · skip
              refine WL.g rfl (g55) rfl (o_fa 5 TI36 rfl TI3 rfl rfl ?_)
              refine WL.g rfl (g55) rfl (o_ld TI3 rfl rfl (cell_of hC1 rfl) ?_)
              refine WL.g rfl (g55) rfl (o_eq rfl rfl ?_)
              refine WL.c rfl (o_pickA rfl rfl ?_)
              refine WL.c rfl (o_mvh (show _ = Value.bool _ from rfl) ?_)
              refine WL.sp 6 rfl (fun g60 => ?_) (fun g60 => ?_)
              · skip
                refine WL.g rfl (g60) rfl (o_fa 1 TI36 rfl TI3 rfl rfl ?_)
                refine WL.g rfl (g60) rfl (o_ld TI3 rfl rfl (cell_of hC1 rfl) ?_)
                refine WL.g rfl (g60) rfl (o_ge rfl rfl ?_)
                refine WL.c rfl (o_pickA rfl rfl ?_)
                refine WL.c rfl (o_mvh (show _ = Value.bool _ from rfl) ?_)
                refine WL.sp 11 rfl (fun g65 => ?_) (fun g65 => ?_)
                · skip
                  refine WL.g rfl (g65) rfl (o_fa 1 TI36 rfl TI3 rfl rfl ?_)
                  refine WL.g rfl (g65) rfl (o_ld TI3 rfl rfl (cell_of hC1 rfl) ?_)
                  refine WL.g rfl (g65) rfl (o_le rfl rfl ?_)
                  refine WL.c rfl (o_pickA rfl rfl ?_)
                  refine WL.c rfl (o_ash (show _ = Value.bool _ from rfl) ?_)
                  refine WL.nil ?_
                  refine W.ret ?_
                  refine ret1v rfl (show _ = Value.bool _ from rfl) ?_
                  exact ⟨congrArg Value.bool (by rw [Bool.eq_iff_iff]; simp_all [rgtB, okB, namB, nameB_nil] <;> omega), hx⟩
                · skip
                  refine WL.s rfl (g65) rfl ?_
                  refine WL.s rfl (g65) rfl ?_
                  refine WL.s rfl (g65) rfl ?_
                  refine WL.c rfl (o_pickF rfl (g65) ?_)
                  refine WL.c rfl (o_ash (show _ = Value.bool _ from rfl) ?_)
                  refine WL.nil ?_
                  refine W.ret ?_
                  refine ret1v rfl (show _ = Value.bool _ from rfl) ?_
                  exact ⟨congrArg Value.bool (by rw [Bool.eq_iff_iff]; simp_all [rgtB, okB, namB, nameB_nil] <;> omega), hx⟩
              · skip
                refine WL.s rfl (g60) rfl ?_
                refine WL.s rfl (g60) rfl ?_
                refine WL.s rfl (g60) rfl ?_
                refine WL.c rfl (o_pickF rfl (g60) ?_)
                refine WL.c rfl (o_mvh (show _ = Value.bool _ from rfl) ?_)
                refine WL.s rfl (rfl) rfl ?_
                refine WL.s rfl (rfl) rfl ?_
                refine WL.s rfl (rfl) rfl ?_
                refine WL.c rfl (o_pickF rfl (rfl) ?_)
                refine WL.c rfl (o_ash (show _ = Value.bool _ from rfl) ?_)
                refine WL.nil ?_
                refine W.ret ?_
                refine ret1v rfl (show _ = Value.bool _ from rfl) ?_
                exact ⟨congrArg Value.bool (by rw [Bool.eq_iff_iff]; simp_all [rgtB, okB, namB, nameB_nil] <;> omega), hx⟩
            · skip
              refine WL.s rfl (g55) rfl ?_
              refine WL.s rfl (g55) rfl ?_
              refine WL.s rfl (g55) rfl ?_
              refine WL.c rfl (o_pickF rfl (g55) ?_)
              refine WL.c rfl (o_mvh (show _ = Value.bool _ from rfl) ?_)
              refine WL.s rfl (rfl) rfl ?_
              refine WL.s rfl (rfl) rfl ?_
              refine WL.s rfl (rfl) rfl ?_
              refine WL.c rfl (o_pickF rfl (rfl) ?_)
              refine WL.c rfl (o_mvh (show _ = Value.bool _ from rfl) ?_)
              refine WL.s rfl (rfl) rfl ?_
              refine WL.s rfl (rfl) rfl ?_
              refine WL.s rfl (rfl) rfl ?_
              refine WL.c rfl (o_pickF rfl (rfl) ?_)
              refine WL.c rfl (o_ash (show _ = Value.bool _ from rfl) ?_)
              refine WL.nil ?_
              refine W.ret ?_
              refine ret1v rfl (show _ = Value.bool _ from rfl) ?_
              exact ⟨congrArg Value.bool (by rw [Bool.eq_iff_iff]; simp_all [rgtB, okB, namB, nameB_nil] <;> omega), hx⟩
          · try simp only [decide_eq_true_eq, decide_eq_false_iff_not, Bool.not_eq_true', Bool.not_eq_false', Bool.and_eq_true, Bool.or_eq_true, Bool.and_eq_false_iff, Bool.or_eq_false_iff] at c51
            refine W.seq ?_
            refine W.region ?_
            refine WL.c rfl (o_eq rfl rfl ?_)
            refine WL.c rfl (o_ash (show _ = Value.bool _ from rfl) ?_)
            refine WL.nil ?_
            refine W.cond rfl (fun c70 => ?_) (fun c70 => ?_)
            · try simp only [decide_eq_true_eq, decide_eq_false_iff_not, Bool.not_eq_true', Bool.not_eq_false', Bool.and_eq_true, Bool.or_eq_true, Bool.and_eq_false_iff, Bool.or_eq_false_iff] at c70
              refine W.seq ?_
              refine W.region ?_
              refine WL.c rfl (o_mvh (show _ = Value.bool _ from rfl) ?_)
              refine WL.c rfl (o_mvh (show _ = Value.bool _ from rfl) ?_)
              refine WL.sp 1 rfl (fun g73 => ?_) (fun g73 => ?_)
              · skip
                refine WL.g rfl (g73) rfl (o_fa 5 TI36 rfl TI3 rfl rfl ?_)
                refine WL.g rfl (g73) rfl (o_ld TI3 rfl rfl (cell_of hC1 rfl) ?_)
                refine WL.g rfl (g73) rfl (o_eq rfl rfl ?_)
                refine WL.c rfl (o_pickA rfl rfl ?_)
                refine WL.c rfl (o_mvh (show _ = Value.bool _ from rfl) ?_)
                refine WL.sp 6 rfl (fun g78 => ?_) (fun g78 => ?_)
                · skip
                  refine WL.g rfl (g78) rfl (o_fa 1 TI36 rfl TI3 rfl rfl ?_)
                  refine WL.g rfl (g78) rfl (o_ld TI3 rfl rfl (cell_of hC1 rfl) ?_)
                  refine WL.g rfl (g78) rfl (o_eq rfl rfl ?_)
                  refine WL.c rfl (o_pickA rfl rfl ?_)
                  refine WL.c rfl (o_ash (show _ = Value.bool _ from rfl) ?_)
                  refine WL.nil ?_
                  refine W.ret ?_
                  refine ret1v rfl (show _ = Value.bool _ from rfl) ?_
                  exact ⟨congrArg Value.bool (by rw [Bool.eq_iff_iff]; simp_all [rgtB, okB, namB, nameB_nil] <;> omega), hx⟩
                · skip
                  refine WL.s rfl (g78) rfl ?_
                  refine WL.s rfl (g78) rfl ?_
                  refine WL.s rfl (g78) rfl ?_
                  refine WL.c rfl (o_pickF rfl (g78) ?_)
                  refine WL.c rfl (o_ash (show _ = Value.bool _ from rfl) ?_)
                  refine WL.nil ?_
                  refine W.ret ?_
                  refine ret1v rfl (show _ = Value.bool _ from rfl) ?_
                  exact ⟨congrArg Value.bool (by rw [Bool.eq_iff_iff]; simp_all [rgtB, okB, namB, nameB_nil] <;> omega), hx⟩
              · skip
                refine WL.s rfl (g73) rfl ?_
                refine WL.s rfl (g73) rfl ?_
                refine WL.s rfl (g73) rfl ?_
                refine WL.c rfl (o_pickF rfl (g73) ?_)
                refine WL.c rfl (o_mvh (show _ = Value.bool _ from rfl) ?_)
                refine WL.s rfl (rfl) rfl ?_
                refine WL.s rfl (rfl) rfl ?_
                refine WL.s rfl (rfl) rfl ?_
                refine WL.c rfl (o_pickF rfl (rfl) ?_)
                refine WL.c rfl (o_ash (show _ = Value.bool _ from rfl) ?_)
                refine WL.nil ?_
                refine W.ret ?_
                refine ret1v rfl (show _ = Value.bool _ from rfl) ?_
                exact ⟨congrArg Value.bool (by rw [Bool.eq_iff_iff]; simp_all [rgtB, okB, namB, nameB_nil] <;> omega), hx⟩
            · try simp only [decide_eq_true_eq, decide_eq_false_iff_not, Bool.not_eq_true', Bool.not_eq_false', Bool.and_eq_true, Bool.or_eq_true, Bool.and_eq_false_iff, Bool.or_eq_false_iff] at c70
              refine W.seq ?_
              refine W.seq ?_
              refine W.region ?_
              refine WL.c rfl (o_eq rfl rfl ?_)
              refine WL.c rfl (o_ash (show _ = Value.bool _ from rfl) ?_)
              refine WL.nil ?_
              refine W.cond rfl (fun c83 => ?_) (fun c83 => ?_)
              · try simp only [decide_eq_true_eq, decide_eq_false_iff_not, Bool.not_eq_true', Bool.not_eq_false', Bool.and_eq_true, Bool.or_eq_true, Bool.and_eq_false_iff, Bool.or_eq_false_iff] at c83
                refine W.skip ?_
                refine W.cond rfl (fun c83 => ?_) (fun c83 => ?_)
                · try simp only [decide_eq_true_eq, decide_eq_false_iff_not, Bool.not_eq_true', Bool.not_eq_false', Bool.and_eq_true, Bool.or_eq_true, Bool.and_eq_false_iff, Bool.or_eq_false_iff] at c83
                  refine W.seq ?_
                  refine W.region ?_
                  refine WL.c rfl (o_mvh (show _ = Value.bool _ from rfl) ?_)
                  refine WL.c rfl (o_mvh (show _ = Value.bool _ from rfl) ?_)
                  refine WL.sp 1 rfl (fun g87 => ?_) (fun g87 => ?_)
                  · skip
                    refine WL.g rfl (g87) rfl (o_fa 5 TI36 rfl TI3 rfl rfl ?_)
                    refine WL.g rfl (g87) rfl (o_ld TI3 rfl rfl (cell_of hC1 rfl) ?_)
                    refine WL.g rfl (g87) rfl (o_ge rfl rfl ?_)
                    refine WL.c rfl (o_pickA rfl rfl ?_)
                    refine WL.c rfl (o_mvh (show _ = Value.bool _ from rfl) ?_)
                    refine WL.sp 6 rfl (fun g92 => ?_) (fun g92 => ?_)
                    · skip
                      refine WL.g rfl (g92) rfl (o_fa 1 TI36 rfl TI3 rfl rfl ?_)
                      refine WL.g rfl (g92) rfl (o_ld TI3 rfl rfl (cell_of hC1 rfl) ?_)
                      refine WL.g rfl (g92) rfl (o_eq rfl rfl ?_)
                      refine WL.c rfl (o_pickA rfl rfl ?_)
                      refine WL.c rfl (o_ash (show _ = Value.bool _ from rfl) ?_)
                      refine WL.nil ?_
                      refine W.ret ?_
                      refine ret1v rfl (show _ = Value.bool _ from rfl) ?_
                      exact ⟨congrArg Value.bool (by rw [Bool.eq_iff_iff]; simp_all [rgtB, okB, namB, nameB_nil] <;> omega), hx⟩
                    · skip
                      refine WL.s rfl (g92) rfl ?_
                      refine WL.s rfl (g92) rfl ?_
                      refine WL.s rfl (g92) rfl ?_
                      refine WL.c rfl (o_pickF rfl (g92) ?_)
                      refine WL.c rfl (o_ash (show _ = Value.bool _ from rfl) ?_)
                      refine WL.nil ?_
                      refine W.ret ?_
                      refine ret1v rfl (show _ = Value.bool _ from rfl) ?_
                      exact ⟨congrArg Value.bool (by rw [Bool.eq_iff_iff]; simp_all [rgtB, okB, namB, nameB_nil] <;> omega), hx⟩
                  · skip
                    refine WL.s rfl (g87) rfl ?_
                    refine WL.s rfl (g87) rfl ?_
                    refine WL.s rfl (g87) rfl ?_
                    refine WL.c rfl (o_pickF rfl (g87) ?_)
                    refine WL.c rfl (o_mvh (show _ = Value.bool _ from rfl) ?_)
                    refine WL.s rfl (rfl) rfl ?_
                    refine WL.s rfl (rfl) rfl ?_
                    refine WL.s rfl (rfl) rfl ?_
                    refine WL.c rfl (o_pickF rfl (rfl) ?_)
                    refine WL.c rfl (o_ash (show _ = Value.bool _ from rfl) ?_)
                    refine WL.nil ?_
                    refine W.ret ?_
                    refine ret1v rfl (show _ = Value.bool _ from rfl) ?_
                    exact ⟨congrArg Value.bool (by rw [Bool.eq_iff_iff]; simp_all [rgtB, okB, namB, nameB_nil] <;> omega), hx⟩
                · try simp only [decide_eq_true_eq, decide_eq_false_iff_not, Bool.not_eq_true', Bool.not_eq_false', Bool.and_eq_true, Bool.or_eq_true, Bool.and_eq_false_iff, Bool.or_eq_false_iff] at c83
                  refine W.seq ?_
                  refine W.region ?_
                  refine WL.c rfl (o_eq rfl rfl ?_)
                  refine WL.c rfl (o_ash (show _ = Value.bool _ from rfl) ?_)
                  refine WL.nil ?_
                  refine W.cond rfl (fun c97 => ?_) (fun c97 => ?_)
                  · try simp only [decide_eq_true_eq, decide_eq_false_iff_not, Bool.not_eq_true', Bool.not_eq_false', Bool.and_eq_true, Bool.or_eq_true, Bool.and_eq_false_iff, Bool.or_eq_false_iff] at c97
                    refine W.seq ?_
                    refine W.region ?_
                    refine WL.c rfl (o_fa 2 TI36 rfl TI9 rfl rfl ?_)
                    refine WL.c rfl (o_ld TI9 rfl rfl (cell_of hC1 rfl) ?_)
                    refine WL.c rfl (o_call Tryd.call43 (lc rfl ln) ((rname_spec x.name _ hn).mono ?_))
                    rintro v101 w101 ⟨rfl, rfl⟩
                    refine WL.c rfl (o_mvh (show _ = Value.bool _ from rfl) ?_)
                    refine WL.sp 3 rfl (fun g102 => ?_) (fun g102 => ?_)
                    · skip
                      refine WL.g rfl (g102) rfl (o_fa 5 TI36 rfl TI3 rfl rfl ?_)
                      refine WL.g rfl (g102) rfl (o_ld TI3 rfl rfl (cell_of hC1 rfl) ?_)
                      refine WL.g rfl (g102) rfl (o_eq rfl rfl ?_)
                      refine WL.c rfl (o_pickA rfl rfl ?_)
                      refine WL.c rfl (o_mvh (show _ = Value.bool _ from rfl) ?_)
                      refine WL.sp 8 rfl (fun g107 => ?_) (fun g107 => ?_)
                      · skip
                        refine WL.g rfl (g107) rfl (o_fa 1 TI36 rfl TI3 rfl rfl ?_)
                        refine WL.g rfl (g107) rfl (o_ld TI3 rfl rfl (cell_of hC1 rfl) ?_)
                        refine WL.g rfl (g107) rfl (o_eq rfl rfl ?_)
                        refine WL.c rfl (o_pickA rfl rfl ?_)
                        refine WL.c rfl (o_ash (show _ = Value.bool _ from rfl) ?_)
                        refine WL.nil ?_
                        refine W.ret ?_
                        refine ret1v rfl (show _ = Value.bool _ from rfl) ?_
                        exact ⟨congrArg Value.bool (by rw [Bool.eq_iff_iff]; simp_all [rgtB, okB, namB, nameB_nil] <;> omega), hx⟩
                      · skip
                        refine WL.s rfl (g107) rfl ?_
                        refine WL.s rfl (g107) rfl ?_
                        refine WL.s rfl (g107) rfl ?_
                        refine WL.c rfl (o_pickF rfl (g107) ?_)
                        refine WL.c rfl (o_ash (show _ = Value.bool _ from rfl) ?_)
                        refine WL.nil ?_
                        refine W.ret ?_
                        refine ret1v rfl (show _ = Value.bool _ from rfl) ?_
                        exact ⟨congrArg Value.bool (by rw [Bool.eq_iff_iff]; simp_all [rgtB, okB, namB, nameB_nil] <;> omega), hx⟩
                    · skip
                      refine WL.s rfl (g102) rfl ?_
                      refine WL.s rfl (g102) rfl ?_
                      refine WL.s rfl (g102) rfl ?_
                      refine WL.c rfl (o_pickF rfl (g102) ?_)
                      refine WL.c rfl (o_mvh (show _ = Value.bool _ from rfl) ?_)
                      refine WL.s rfl (rfl) rfl ?_
                      refine WL.s rfl (rfl) rfl ?_
                      refine WL.s rfl (rfl) rfl ?_
                      refine WL.c rfl (o_pickF rfl (rfl) ?_)
                      refine WL.c rfl (o_ash (show _ = Value.bool _ from rfl) ?_)
                      refine WL.nil ?_
                      refine W.ret ?_
                      refine ret1v rfl (show _ = Value.bool _ from rfl) ?_
                      exact ⟨congrArg Value.bool (by rw [Bool.eq_iff_iff]; simp_all [rgtB, okB, namB, nameB_nil] <;> omega), hx⟩
                  · try simp only [decide_eq_true_eq, decide_eq_false_iff_not, Bool.not_eq_true', Bool.not_eq_false', Bool.and_eq_true, Bool.or_eq_true, Bool.and_eq_false_iff, Bool.or_eq_false_iff] at c97
                    refine W.skip ?_
                    refine W.seq ?_
                    refine W.region ?_
                    refine WL.c rfl (o_ash (show _ = Value.bool _ from rfl) ?_)
                    refine WL.nil ?_
                    refine W.ret ?_
                    refine ret1v rfl (show _ = Value.bool _ from rfl) ?_
                    exact ⟨congrArg Value.bool (by rw [Bool.eq_iff_iff]; simp_all [rgtB, okB, namB, nameB_nil] <;> omega), hx⟩
              · try simp only [decide_eq_true_eq, decide_eq_false_iff_not, Bool.not_eq_true', Bool.not_eq_false', Bool.and_eq_true, Bool.or_eq_true, Bool.and_eq_false_iff, Bool.or_eq_false_iff] at c83
                refine W.region ?_
                refine WL.c rfl (o_eq rfl rfl ?_)
                refine WL.c rfl (o_ash (show _ = Value.bool _ from rfl) ?_)
                refine WL.nil ?_
                refine W.cond rfl (fun c83 => ?_) (fun c83 => ?_)
                · try simp only [decide_eq_true_eq, decide_eq_false_iff_not, Bool.not_eq_true', Bool.not_eq_false', Bool.and_eq_true, Bool.or_eq_true, Bool.and_eq_false_iff, Bool.or_eq_false_iff] at c83
                  refine W.seq ?_
                  refine W.region ?_
                  refine WL.c rfl (o_mvh (show _ = Value.bool _ from rfl) ?_)
                  refine WL.c rfl (o_mvh (show _ = Value.bool _ from rfl) ?_)
                  refine WL.sp 1 rfl (fun g87 => ?_) (fun g87 => ?_)
                  · skip
                    refine WL.g rfl (g87) rfl (o_fa 5 TI36 rfl TI3 rfl rfl ?_)
                    refine WL.g rfl (g87) rfl (o_ld TI3 rfl rfl (cell_of hC1 rfl) ?_)
                    refine WL.g rfl (g87) rfl (o_ge rfl rfl ?_)
                    refine WL.c rfl (o_pickA rfl rfl ?_)
                    refine WL.c rfl (o_mvh (show _ = Value.bool _ from rfl) ?_)
                    refine WL.sp 6 rfl (fun g92 => ?_) (fun g92 => ?_)
                    · skip
                      refine WL.g rfl (g92) rfl (o_fa 1 TI36 rfl TI3 rfl rfl ?_)
                      refine WL.g rfl (g92) rfl (o_ld TI3 rfl rfl (cell_of hC1 rfl) ?_)
                      refine WL.g rfl (g92) rfl (o_eq rfl rfl ?_)
                      refine WL.c rfl (o_pickA rfl rfl ?_)
                      refine WL.c rfl (o_ash (show _ = Value.bool _ from rfl) ?_)
                      refine WL.nil ?_
                      refine W.ret ?_
                      refine ret1v rfl (show _ = Value.bool _ from rfl) ?_
                      exact ⟨congrArg Value.bool (by rw [Bool.eq_iff_iff]; simp_all [rgtB, okB, namB, nameB_nil] <;> omega), hx⟩
                    · skip
                      refine WL.s rfl (g92) rfl ?_
                      refine WL.s rfl (g92) rfl ?_
                      refine WL.s rfl (g92) rfl ?_
                      refine WL.c rfl (o_pickF rfl (g92) ?_)
                      refine WL.c rfl (o_ash (show _ = Value.bool _ from rfl) ?_)
                      refine WL.nil ?_
                      refine W.ret ?_
                      refine ret1v rfl (show _ = Value.bool _ from rfl) ?_
                      exact ⟨congrArg Value.bool (by rw [Bool.eq_iff_iff]; simp_all [rgtB, okB, namB, nameB_nil] <;> omega), hx⟩
                  · skip
                    refine WL.s rfl (g87) rfl ?_
                    refine WL.s rfl (g87) rfl ?_
                    refine WL.s rfl (g87) rfl ?_
                    refine WL.c rfl (o_pickF rfl (g87) ?_)
                    refine WL.c rfl (o_mvh (show _ = Value.bool _ from rfl) ?_)
                    refine WL.s rfl (rfl) rfl ?_
                    refine WL.s rfl (rfl) rfl ?_
                    refine WL.s rfl (rfl) rfl ?_
                    refine WL.c rfl (o_pickF rfl (rfl) ?_)
                    refine WL.c rfl (o_ash (show _ = Value.bool _ from rfl) ?_)
                    refine WL.nil ?_
                    refine W.ret ?_
                    refine ret1v rfl (show _ = Value.bool _ from rfl) ?_
                    exact ⟨congrArg Value.bool (by rw [Bool.eq_iff_iff]; simp_all [rgtB, okB, namB, nameB_nil] <;> omega), hx⟩
                · try simp only [decide_eq_true_eq, decide_eq_false_iff_not, Bool.not_eq_true', Bool.not_eq_false', Bool.and_eq_true, Bool.or_eq_true, Bool.and_eq_false_iff, Bool.or_eq_false_iff] at c83
                  refine W.seq ?_
                  refine W.region ?_
                  refine WL.c rfl (o_eq rfl rfl ?_)
                  refine WL.c rfl (o_ash (show _ = Value.bool _ from rfl) ?_)
                  refine WL.nil ?_
                  refine W.cond rfl (fun c97 => ?_) (fun c97 => ?_)
                  · try simp only [decide_eq_true_eq, decide_eq_false_iff_not, Bool.not_eq_true', Bool.not_eq_false', Bool.and_eq_true, Bool.or_eq_true, Bool.and_eq_false_iff, Bool.or_eq_false_iff] at c97
                    refine W.seq ?_
                    refine W.region ?_
                    refine WL.c rfl (o_fa 2 TI36 rfl TI9 rfl rfl ?_)
                    refine WL.c rfl (o_ld TI9 rfl rfl (cell_of hC1 rfl) ?_)
                    refine WL.c rfl (o_call Tryd.call43 (lc rfl ln) ((rname_spec x.name _ hn).mono ?_))
                    rintro v101 w101 ⟨rfl, rfl⟩
                    refine WL.c rfl (o_mvh (show _ = Value.bool _ from rfl) ?_)
                    refine WL.sp 3 rfl (fun g102 => ?_) (fun g102 => ?_)
                    · skip
                      refine WL.g rfl (g102) rfl (o_fa 5 TI36 rfl TI3 rfl rfl ?_)
                      refine WL.g rfl (g102) rfl (o_ld TI3 rfl rfl (cell_of hC1 rfl) ?_)
                      refine WL.g rfl (g102) rfl (o_eq rfl rfl ?_)
                      refine WL.c rfl (o_pickA rfl rfl ?_)
                      refine WL.c rfl (o_mvh (show _ = Value.bool _ from rfl) ?_)
                      refine WL.sp 8 rfl (fun g107 => ?_) (fun g107 => ?_)
                      · skip
                        refine WL.g rfl (g107) rfl (o_fa 1 TI36 rfl TI3 rfl rfl ?_)
                        refine WL.g rfl (g107) rfl (o_ld TI3 rfl rfl (cell_of hC1 rfl) ?_)
                        refine WL.g rfl (g107) rfl (o_eq rfl rfl ?_)
                        refine WL.c rfl (o_pickA rfl rfl ?_)
                        refine WL.c rfl (o_ash (show _ = Value.bool _ from rfl) ?_)
                        refine WL.nil ?_
                        refine W.ret ?_
                        refine ret1v rfl (show _ = Value.bool _ from rfl) ?_
                        exact ⟨congrArg Value.bool (by rw [Bool.eq_iff_iff]; simp_all [rgtB, okB, namB, nameB_nil] <;> omega), hx⟩
                      · skip
                        refine WL.s rfl (g107) rfl ?_
                        refine WL.s rfl (g107) rfl ?_
                        refine WL.s rfl (g107) rfl ?_
                        refine WL.c rfl (o_pickF rfl (g107) ?_)
                        refine WL.c rfl (o_ash (show _ = Value.bool _ from rfl) ?_)
                        refine WL.nil ?_
                        refine W.ret ?_
                        refine ret1v rfl (show _ = Value.bool _ from rfl) ?_
                        exact ⟨congrArg Value.bool (by rw [Bool.eq_iff_iff]; simp_all [rgtB, okB, namB, nameB_nil] <;> omega), hx⟩
                    · skip
                      refine WL.s rfl (g102) rfl ?_
                      refine WL.s rfl (g102) rfl ?_
                      refine WL.s rfl (g102) rfl ?_
                      refine WL.c rfl (o_pickF rfl (g102) ?_)
                      refine WL.c rfl (o_mvh (show _ = Value.bool _ from rfl) ?_)
                      refine WL.s rfl (rfl) rfl ?_
                      refine WL.s rfl (rfl) rfl ?_
                      refine WL.s rfl (rfl) rfl ?_
                      refine WL.c rfl (o_pickF rfl (rfl) ?_)
                      refine WL.c rfl (o_ash (show _ = Value.bool _ from rfl) ?_)
                      refine WL.nil ?_
                      refine W.ret ?_
                      refine ret1v rfl (show _ = Value.bool _ from rfl) ?_
                      exact ⟨congrArg Value.bool (by rw [Bool.eq_iff_iff]; simp_all [rgtB, okB, namB, nameB_nil] <;> omega), hx⟩
                  · try simp only [decide_eq_true_eq, decide_eq_false_iff_not, Bool.not_eq_true', Bool.not_eq_false', Bool.and_eq_true, Bool.or_eq_true, Bool.and_eq_false_iff, Bool.or_eq_false_iff] at c97
                    refine W.skip ?_
                    refine W.seq ?_
                    refine W.region ?_
                    refine WL.c rfl (o_ash (show _ = Value.bool _ from rfl) ?_)
                    refine WL.nil ?_
                    refine W.ret ?_
                    refine ret1v rfl (show _ = Value.bool _ from rfl) ?_
                    exact ⟨congrArg Value.bool (by rw [Bool.eq_iff_iff]; simp_all [rgtB, okB, namB, nameB_nil] <;> omega), hx⟩
theorem placed_spec (x : Ex) (above : Int) (w0 : World) (hl : x.label.length ≤ 9223372036854775807) : Ca Tryd.prog 67 #[.agg (exV x).toArray, .int .i64 above] w0 (fun v w' => v = .bool (plcB x above) ∧ Ext w0 w') := by
  refine Ca.of Tryd.func67 Tryd.ntmps67 rfl rfl ?_
  refine W.seq ?_
  refine W.region ?_
  refine WL.c rfl (o_boxB rfl ?_)
  intro w1 hC1 hx hs1
  obtain ⟨c1, hc1⟩ : ∃ c, c = w0.heap.size := ⟨_, rfl⟩
  rw [← hc1] at hC1 ⊢
  replace hC1 : w1.heap[c1]? = some (.cells (exV x).toArray 36 (0, 0)) := hC1
  refine WL.c rfl (o_ash (show _ = Value.bool _ from rfl) ?_)
  refine WL.nil ?_
  refine W.seq ?_
  refine W.region ?_
  refine WL.c rfl (o_fa 3 TI36 rfl TI9 rfl rfl ?_)
  refine WL.c rfl (o_ld TI9 rfl rfl (cell_of hC1 rfl) ?_)
  refine WL.c rfl (o_eqT rfl rfl ?_)
  refine WL.c rfl (o_ash (show _ = Value.bool _ from rfl) ?_)
  refine WL.nil ?_
  refine W.seq ?_
  refine W.region ?_
  refine WL.c rfl (o_fa 4 TI36 rfl TI3 rfl rfl ?_)
  refine WL.c rfl (o_ld TI3 rfl rfl (cell_of hC1 rfl) ?_)
  refine WL.c rfl (o_eq rfl rfl ?_)
  refine WL.c rfl (o_ash (show _ = Value.bool _ from rfl) ?_)
  refine WL.nil ?_
  refine W.seq ?_
  refine W.seq ?_
  refine W.region ?_
  refine WL.c rfl (o_mvh (show _ = Value.int _ _ from rfl) ?_)
  refine WL.c rfl (o_eq rfl rfl ?_)
  refine WL.nil ?_
  refine W.cond rfl (fun c14 => ?_) (fun c14 => ?_)
  · try simp only [decide_eq_true_eq, decide_eq_false_iff_not, Bool.not_eq_true', Bool.not_eq_false', Bool.and_eq_true, Bool.or_eq_true, Bool.and_eq_false_iff, Bool.or_eq_false_iff] at c14
    refine W.region ?_
    refine WL.c rfl (o_fa 3 TI36 rfl TI9 rfl rfl ?_)
    refine WL.c rfl (o_ld TI9 rfl rfl (cell_of hC1 rfl) ?_)
    refine WL.c rfl (o_call Tryd.call43 (lc rfl ln) ((rname_spec x.label _ hl).mono ?_))
    rintro v17 w17 ⟨rfl, rfl⟩
    refine WL.c rfl (o_ash (show _ = Value.bool _ from rfl) ?_)
    refine WL.nil ?_
    refine W.seq ?_
    refine W.seq ?_
    refine W.region ?_
    refine WL.c rfl (o_mvh (show _ = Value.int _ _ from rfl) ?_)
    refine WL.c rfl (o_eq rfl rfl ?_)
    refine WL.nil ?_
    refine W.cond rfl (fun c19 => ?_) (fun c19 => ?_)
    · try simp only [decide_eq_true_eq, decide_eq_false_iff_not, Bool.not_eq_true', Bool.not_eq_false', Bool.and_eq_true, Bool.or_eq_true, Bool.and_eq_false_iff, Bool.or_eq_false_iff] at c19
      refine W.region ?_
      refine WL.c rfl (o_fa 4 TI36 rfl TI3 rfl rfl ?_)
      refine WL.c rfl (o_ld TI3 rfl rfl (cell_of hC1 rfl) ?_)
      refine WL.c rfl (o_ge rfl rfl ?_)
      refine WL.c rfl (o_mvh (show _ = Value.bool _ from rfl) ?_)
      refine WL.sp 3 rfl (fun g23 => ?_) (fun g23 => ?_)
      · skip
        refine WL.g rfl (g23) rfl (o_fa 4 TI36 rfl TI3 rfl rfl ?_)
        refine WL.g rfl (g23) rfl (o_ld TI3 rfl rfl (cell_of hC1 rfl) ?_)
        refine WL.g rfl (g23) rfl (o_le rfl rfl ?_)
        refine WL.c rfl (o_pickA rfl rfl ?_)
        refine WL.c rfl (o_ash (show _ = Value.bool _ from rfl) ?_)
        refine WL.nil ?_
        refine W.seq ?_
        refine W.region ?_
        refine WL.c rfl (o_mvh (show _ = Value.bool _ from rfl) ?_)
        refine WL.c rfl (o_mvh (show _ = Value.bool _ from rfl) ?_)
        refine WL.sp 1 rfl (fun g29 => ?_) (fun g29 => ?_)
        · skip
          refine WL.g rfl (g29) rfl (o_mvh (show _ = Value.bool _ from rfl) ?_)
          refine WL.c rfl (o_pickA rfl rfl ?_)
          refine WL.c rfl (o_ash (show _ = Value.bool _ from rfl) ?_)
          refine WL.nil ?_
          refine W.ret ?_
          refine ret1v rfl (show _ = Value.bool _ from rfl) ?_
          exact ⟨congrArg Value.bool (by rw [Bool.eq_iff_iff]; simp_all [plcB, labB, tagB] <;> omega), hx⟩
        · skip
          refine WL.s rfl (g29) rfl ?_
          refine WL.c rfl (o_pickF rfl (g29) ?_)
          refine WL.c rfl (o_ash (show _ = Value.bool _ from rfl) ?_)
          refine WL.nil ?_
          refine W.ret ?_
          refine ret1v rfl (show _ = Value.bool _ from rfl) ?_
          exact ⟨congrArg Value.bool (by rw [Bool.eq_iff_iff]; simp_all [plcB, labB, tagB] <;> omega), hx⟩
      · skip
        refine WL.s rfl (g23) rfl ?_
        refine WL.s rfl (g23) rfl ?_
        refine WL.s rfl (g23) rfl ?_
        refine WL.c rfl (o_pickF rfl (g23) ?_)
        refine WL.c rfl (o_ash (show _ = Value.bool _ from rfl) ?_)
        refine WL.nil ?_
        refine W.seq ?_
        refine W.region ?_
        refine WL.c rfl (o_mvh (show _ = Value.bool _ from rfl) ?_)
        refine WL.c rfl (o_mvh (show _ = Value.bool _ from rfl) ?_)
        refine WL.sp 1 rfl (fun g29 => ?_) (fun g29 => ?_)
        · skip
          refine WL.g rfl (g29) rfl (o_mvh (show _ = Value.bool _ from rfl) ?_)
          refine WL.c rfl (o_pickA rfl rfl ?_)
          refine WL.c rfl (o_ash (show _ = Value.bool _ from rfl) ?_)
          refine WL.nil ?_
          refine W.ret ?_
          refine ret1v rfl (show _ = Value.bool _ from rfl) ?_
          exact ⟨congrArg Value.bool (by rw [Bool.eq_iff_iff]; simp_all [plcB, labB, tagB] <;> omega), hx⟩
        · skip
          refine WL.s rfl (g29) rfl ?_
          refine WL.c rfl (o_pickF rfl (g29) ?_)
          refine WL.c rfl (o_ash (show _ = Value.bool _ from rfl) ?_)
          refine WL.nil ?_
          refine W.ret ?_
          refine ret1v rfl (show _ = Value.bool _ from rfl) ?_
          exact ⟨congrArg Value.bool (by rw [Bool.eq_iff_iff]; simp_all [plcB, labB, tagB] <;> omega), hx⟩
    · try simp only [decide_eq_true_eq, decide_eq_false_iff_not, Bool.not_eq_true', Bool.not_eq_false', Bool.and_eq_true, Bool.or_eq_true, Bool.and_eq_false_iff, Bool.or_eq_false_iff] at c19
      refine W.skip ?_
      refine W.seq ?_
      refine W.region ?_
      refine WL.c rfl (o_mvh (show _ = Value.bool _ from rfl) ?_)
      refine WL.c rfl (o_mvh (show _ = Value.bool _ from rfl) ?_)
      refine WL.sp 1 rfl (fun g29 => ?_) (fun g29 => ?_)
      · skip
        refine WL.g rfl (g29) rfl (o_mvh (show _ = Value.bool _ from rfl) ?_)
        refine WL.c rfl (o_pickA rfl rfl ?_)
        refine WL.c rfl (o_ash (show _ = Value.bool _ from rfl) ?_)
        refine WL.nil ?_
        refine W.ret ?_
        refine ret1v rfl (show _ = Value.bool _ from rfl) ?_
        exact ⟨congrArg Value.bool (by rw [Bool.eq_iff_iff]; simp_all [plcB, labB, tagB] <;> omega), hx⟩
      · skip
        refine WL.s rfl (g29) rfl ?_
        refine WL.c rfl (o_pickF rfl (g29) ?_)
        refine WL.c rfl (o_ash (show _ = Value.bool _ from rfl) ?_)
        refine WL.nil ?_
        refine W.ret ?_
        refine ret1v rfl (show _ = Value.bool _ from rfl) ?_
        exact ⟨congrArg Value.bool (by rw [Bool.eq_iff_iff]; simp_all [plcB, labB, tagB] <;> omega), hx⟩
  · try simp only [decide_eq_true_eq, decide_eq_false_iff_not, Bool.not_eq_true', Bool.not_eq_false', Bool.and_eq_true, Bool.or_eq_true, Bool.and_eq_false_iff, Bool.or_eq_false_iff] at c14
    refine W.skip ?_
    refine W.seq ?_
    refine W.seq ?_
    refine W.region ?_
    refine WL.c rfl (o_mvh (show _ = Value.int _ _ from rfl) ?_)
    refine WL.c rfl (o_eq rfl rfl ?_)
    refine WL.nil ?_
    refine W.cond rfl (fun c19 => ?_) (fun c19 => ?_)
    · try simp only [decide_eq_true_eq, decide_eq_false_iff_not, Bool.not_eq_true', Bool.not_eq_false', Bool.and_eq_true, Bool.or_eq_true, Bool.and_eq_false_iff, Bool.or_eq_false_iff] at c19
      refine W.region ?_
      refine WL.c rfl (o_fa 4 TI36 rfl TI3 rfl rfl ?_)
      refine WL.c rfl (o_ld TI3 rfl rfl (cell_of hC1 rfl) ?_)
      refine WL.c rfl (o_ge rfl rfl ?_)
      refine WL.c rfl (o_mvh (show _ = Value.bool _ from rfl) ?_)
      refine WL.sp 3 rfl (fun g23 => ?_) (fun g23 => ?_)
      · skip
        refine WL.g rfl (g23) rfl (o_fa 4 TI36 rfl TI3 rfl rfl ?_)
        refine WL.g rfl (g23) rfl (o_ld TI3 rfl rfl (cell_of hC1 rfl) ?_)
        refine WL.g rfl (g23) rfl (o_le rfl rfl ?_)
        refine WL.c rfl (o_pickA rfl rfl ?_)
        refine WL.c rfl (o_ash (show _ = Value.bool _ from rfl) ?_)
        refine WL.nil ?_
        refine W.seq ?_
        refine W.region ?_
        refine WL.c rfl (o_mvh (show _ = Value.bool _ from rfl) ?_)
        refine WL.c rfl (o_mvh (show _ = Value.bool _ from rfl) ?_)
        refine WL.sp 1 rfl (fun g29 => ?_) (fun g29 => ?_)
        · skip
          refine WL.g rfl (g29) rfl (o_mvh (show _ = Value.bool _ from rfl) ?_)
          refine WL.c rfl (o_pickA rfl rfl ?_)
          refine WL.c rfl (o_ash (show _ = Value.bool _ from rfl) ?_)
          refine WL.nil ?_
          refine W.ret ?_
          refine ret1v rfl (show _ = Value.bool _ from rfl) ?_
          exact ⟨congrArg Value.bool (by rw [Bool.eq_iff_iff]; simp_all [plcB, labB, tagB] <;> omega), hx⟩
        · skip
          refine WL.s rfl (g29) rfl ?_
          refine WL.c rfl (o_pickF rfl (g29) ?_)
          refine WL.c rfl (o_ash (show _ = Value.bool _ from rfl) ?_)
          refine WL.nil ?_
          refine W.ret ?_
          refine ret1v rfl (show _ = Value.bool _ from rfl) ?_
          exact ⟨congrArg Value.bool (by rw [Bool.eq_iff_iff]; simp_all [plcB, labB, tagB] <;> omega), hx⟩
      · skip
        refine WL.s rfl (g23) rfl ?_
        refine WL.s rfl (g23) rfl ?_
        refine WL.s rfl (g23) rfl ?_
        refine WL.c rfl (o_pickF rfl (g23) ?_)
        refine WL.c rfl (o_ash (show _ = Value.bool _ from rfl) ?_)
        refine WL.nil ?_
        refine W.seq ?_
        refine W.region ?_
        refine WL.c rfl (o_mvh (show _ = Value.bool _ from rfl) ?_)
        refine WL.c rfl (o_mvh (show _ = Value.bool _ from rfl) ?_)
        refine WL.sp 1 rfl (fun g29 => ?_) (fun g29 => ?_)
        · skip
          refine WL.g rfl (g29) rfl (o_mvh (show _ = Value.bool _ from rfl) ?_)
          refine WL.c rfl (o_pickA rfl rfl ?_)
          refine WL.c rfl (o_ash (show _ = Value.bool _ from rfl) ?_)
          refine WL.nil ?_
          refine W.ret ?_
          refine ret1v rfl (show _ = Value.bool _ from rfl) ?_
          exact ⟨congrArg Value.bool (by rw [Bool.eq_iff_iff]; simp_all [plcB, labB, tagB] <;> omega), hx⟩
        · skip
          refine WL.s rfl (g29) rfl ?_
          refine WL.c rfl (o_pickF rfl (g29) ?_)
          refine WL.c rfl (o_ash (show _ = Value.bool _ from rfl) ?_)
          refine WL.nil ?_
          refine W.ret ?_
          refine ret1v rfl (show _ = Value.bool _ from rfl) ?_
          exact ⟨congrArg Value.bool (by rw [Bool.eq_iff_iff]; simp_all [plcB, labB, tagB] <;> omega), hx⟩
    · try simp only [decide_eq_true_eq, decide_eq_false_iff_not, Bool.not_eq_true', Bool.not_eq_false', Bool.and_eq_true, Bool.or_eq_true, Bool.and_eq_false_iff, Bool.or_eq_false_iff] at c19
      refine W.skip ?_
      refine W.seq ?_
      refine W.region ?_
      refine WL.c rfl (o_mvh (show _ = Value.bool _ from rfl) ?_)
      refine WL.c rfl (o_mvh (show _ = Value.bool _ from rfl) ?_)
      refine WL.sp 1 rfl (fun g29 => ?_) (fun g29 => ?_)
      · skip
        refine WL.g rfl (g29) rfl (o_mvh (show _ = Value.bool _ from rfl) ?_)
        refine WL.c rfl (o_pickA rfl rfl ?_)
        refine WL.c rfl (o_ash (show _ = Value.bool _ from rfl) ?_)
        refine WL.nil ?_
        refine W.ret ?_
        refine ret1v rfl (show _ = Value.bool _ from rfl) ?_
        exact ⟨congrArg Value.bool (by rw [Bool.eq_iff_iff]; simp_all [plcB, labB, tagB] <;> omega), hx⟩
      · skip
        refine WL.s rfl (g29) rfl ?_
        refine WL.c rfl (o_pickF rfl (g29) ?_)
        refine WL.c rfl (o_ash (show _ = Value.bool _ from rfl) ?_)
        refine WL.nil ?_
        refine W.ret ?_
        refine ret1v rfl (show _ = Value.bool _ from rfl) ?_
        exact ⟨congrArg Value.bool (by rw [Bool.eq_iff_iff]; simp_all [plcB, labB, tagB] <;> omega), hx⟩
end Go.Proofs.YtanimeifmicmoaaDoor

set_option linter.unusedSimpArgs false
set_option linter.unusedVariables false
set_option maxRecDepth 100000
namespace Go.Proofs.YtanimeifmicmoaaDoor
open Go Go.Vc Go.RowKit Go.Proofs

def opV2 (o : Opn) : List Value := [.int .i64 o.kind, .int .i64 o.left]
def opsQ (S : List Opn) : List Value := S.reverse.flatMap opV2
theorem opsQ_cons (o : Opn) (S : List Opn) : opsQ (o :: S) = opsQ S ++ opV2 o := by simp [opsQ]
theorem opsQ_len (S : List Opn) : (opsQ S).length = S.length * 2 := by
  induction S with
  | nil => rfl
  | cons o S ih => rw [opsQ_cons, List.length_append, ih, List.length_cons]; show _ + 2 = _; omega
theorem opsQ_get {o : Opn} {S : List Opn} {k : Nat} (v : Value) (h : (opV2 o)[k]? = some v) : (opsQ (o :: S))[S.length * 2 + k]? = some v := by
  rw [opsQ_cons, List.getElem?_append_right (by rw [opsQ_len]; omega), opsQ_len, Nat.add_sub_cancel_left, h]
theorem opsQ_take {o : Opn} {S : List Opn} : (opsQ (o :: S)).take (S.length * 2) = opsQ S := by
  rw [opsQ_cons]; exact List.take_left' (opsQ_len S)
theorem opsQ_set {o : Opn} {S : List Opn} {z : Int} : (opsQ (o :: S)).set (S.length * 2 + 1) (.int .i64 z) = opsQ ({ o with left := z } :: S) := by
  rw [opsQ_cons, opsQ_cons, List.set_append_right _ _ (by rw [opsQ_len]; omega), opsQ_len, Nat.add_sub_cancel_left]
  rfl
theorem leftB_z {o : Opn} {S : List Opn} (h : o.left = 0) : leftB (o :: S) = leftB S := by rw [leftB, List.any_cons, h]; rfl
theorem leftB_n {o : Opn} {S : List Opn} (h : ¬ o.left = 0) (h0 : 0 ≤ o.left) : leftB (o :: S) = true := by rw [leftB, List.any_cons, decide_eq_true (by omega)]; rfl

set_option maxHeartbeats 4000000 in
theorem nodes_spec (l : List Ex) (v : Value) (w0 : World) (hS : Sl w0 7 v l.length (exs l)) (hl : l.length ≤ 4611686018427387904) (hln : ∀ x ∈ l, x.name.length ≤ 9223372036854775807 ∧ x.label.length ≤ 9223372036854775807) : Ca Tryd.prog 44 #[v] w0 (fun r w' => r = .tuple #[.int .i64 ((chkT l).1 : Int), .int .i64 ((chkT l).2 : Int)] ∧ Ext w0 w') := by
  have hx : Ext w0 w0 := Only.refl _ _
  refine Ca.of Tryd.func44 Tryd.ntmps44 rfl rfl ?_
  refine W.seq ?_
  refine W.region ?_
  refine WL.c rfl (o_ash (show _ = Value.int _ _ from rfl) ?_)
  refine WL.c rfl (o_ash (show _ = Value.int _ _ from rfl) ?_)
  refine WL.nil ?_
  refine W.seq ?_
  refine W.region ?_
  refine WL.c rfl (o_bldC (cs := [(.int .i64 0), (.int .i64 1)]) TI110 (Sizes.cons TI3 (Sizes.cons TI3 Sizes.nil)) rfl (lcp (show _ = Value.int _ _ from rfl) (lcp (show _ = Value.int _ _ from rfl) lnp)) rfl rfl ?_)
  refine WL.c rfl (o_bs1 TI111 TI110 (show _ = Value.agg #[.int .i64 0, .int .i64 1] from rfl) (by decide) (by decide) rfl ?_)
  have hown : (w0.alloc (.cells (Value.agg #[.int .i64 0, .int .i64 1]).cells 110)).ownsRow w0.heap.size 110 2 (.slice (some ⟨w0.heap.size, 0, none⟩) 1 1) [(⟨0, 1, 0⟩ : Opn)].length (opsQ [⟨0, 1, 0⟩]) := own_new1 rfl
  replace hx : Ext w0 (w0.alloc (.cells (Value.agg #[.int .i64 0, .int .i64 1]).cells 110)) := Only.alloc w0 _
  generalize w0.alloc (.cells (Value.agg #[.int .i64 0, .int .i64 1]).cells 110) = w1 at *
  refine WL.c rfl (o_ash (by first | exact (show _ = Value.slice _ _ _ from rfl) | exact rfl) ?_)
  refine WL.nil ?_
  refine W.seq ?_
  refine W.region ?_
  refine WL.c rfl (o_ash (show _ = Value.int _ _ from rfl) ?_)
  refine WL.nil ?_
  refine W.block ?_
  refine W.loop (fun e w => ∃ (i : Nat) (S : List Opn) (sv : Value), i ≤ l.length ∧ e 0 = v ∧ e 4 = sv ∧ e 5 = .int .i64 (i : Int) ∧ w.ownsRow w0.heap.size 110 2 sv S.length (opsQ S) ∧ OkS S ∧ S.length ≤ 18 ∧ chkT l = chkE S i (l.drop i) ∧ Ext w0 w) (fun e w => l.length - (intOf (e 5)).toNat) ?_ ?_
  · refine ⟨0, [⟨0, 1, 0⟩], _, Nat.zero_le _, rfl, rfl, rfl, hown, ⟨rfl, by decide, by decide, trivial⟩, by decide, rfl, hx⟩
  rintro e w ⟨i, S0, sv0, hi, h0, h4, h5, hown, hok, hSl, hres, hx⟩
  have hm5 := h5
  refine W.seq ?_
  refine W.block ?_
  refine W.seq ?_
  refine W.block ?_
  refine W.loop (fun e w => ∃ (S : List Opn) (sv : Value), e 0 = v ∧ e 4 = sv ∧ e 5 = .int .i64 (i : Int) ∧ w.ownsRow w0.heap.size 110 2 sv S.length (opsQ S) ∧ OkS S ∧ S.length ≤ 18 ∧ popZ S0 = popZ S ∧ leftB S0 = leftB S ∧ Ext w0 w) (fun e w => slen (e 4)) ?_ ?_
  · exact ⟨S0, sv0, h0, h4, h5, hown, hok, hSl, rfl, rfl, hx⟩
  rintro e w ⟨S, sv, h0, h4, h5, hown, hok, hSl, hpz, hlb, hx⟩
  have hm4 := h4
  refine W.seq ?_
  refine W.seq ?_
  rcases S with _ | ⟨o, S⟩
  · skip
    skip
    refine W.region ?_
    refine WL.c rfl (o_mvh h4 ?_)
    refine WL.c rfl (o_lenR TI111 rfl (Sl.own hown) ?_)
    refine WL.c rfl (o_gt rfl rfl ?_)
    refine WL.c rfl (o_mvh (show _ = Value.bool _ from rfl) ?_)
    refine WL.s rfl (decide_eq_false (by simp)) rfl ?_
    refine WL.s rfl (decide_eq_false (by simp)) rfl ?_
    refine WL.s rfl (decide_eq_false (by simp)) rfl ?_
    refine WL.s rfl (decide_eq_false (by simp)) rfl ?_
    refine WL.s rfl (decide_eq_false (by simp)) rfl ?_
    refine WL.s rfl (decide_eq_false (by simp)) rfl ?_
    refine WL.s rfl (decide_eq_false (by simp)) rfl ?_
    refine WL.s rfl (decide_eq_false (by simp)) rfl ?_
    refine WL.c rfl (o_pickF rfl (decide_eq_false (by simp)) ?_)
    refine WL.nil ?_
    refine W.condF' rfl (rfl) ?_
    refine W.exit ?_
    refine W.seq ?_
    refine W.seq ?_
    refine W.region ?_
    refine WL.c rfl (o_mvh h4 ?_)
    refine WL.c rfl (o_lenR TI111 rfl (Sl.own hown) ?_)
    refine WL.c rfl (o_eq rfl rfl ?_)
    refine WL.c rfl (o_mvh (show _ = Value.bool _ from rfl) ?_)
    refine WL.g rfl (by simp) rfl (o_mvh h5 ?_)
    refine WL.g rfl (by simp) rfl (o_mvh h0 ?_)
    refine WL.g rfl (by simp) rfl (o_lenR TI32 rfl (hS.ext hx) ?_)
    refine WL.g rfl (by simp) rfl (o_eq rfl rfl ?_)
    refine WL.c rfl (o_pickA rfl rfl ?_)
    refine WL.nil ?_
    refine W.cond rfl (fun c38 => ?_) (fun c38 => ?_)
    · try simp only [decide_eq_true_eq, decide_eq_false_iff_not, Bool.not_eq_true', Bool.not_eq_false', Bool.and_eq_true, Bool.or_eq_true, Bool.and_eq_false_iff, Bool.or_eq_false_iff] at c38
      have hil : i = l.length := by simp at c38; omega
      rw [hil, List.drop_length, chkE_nil, hlb, if_neg (by simp [leftB])] at hres
      refine W.seq ?_
      refine W.region ?_
      refine WL.c rfl (o_ash (show _ = Value.int _ _ from rfl) ?_)
      refine WL.c rfl (o_ash (show _ = Value.int _ _ from rfl) ?_)
      refine WL.nil ?_
      refine W.ret ?_
      refine ret2v rfl (show _ = Value.int _ _ from rfl) (show _ = Value.int _ _ from rfl) ?_
      rw [hres]
      exact ⟨rfl, hx⟩
    · try simp only [decide_eq_true_eq, decide_eq_false_iff_not, Bool.not_eq_true', Bool.not_eq_false', Bool.and_eq_true, Bool.or_eq_true, Bool.and_eq_false_iff, Bool.or_eq_false_iff] at c38
      have hil : i < l.length := by simp at c38; omega
      have hlc : l.drop i = l[i] :: l.drop (i + 1) := (List.getElem_cons_drop hil).symm
      have h062 := hres.trans (by rw [hlc, chkE_z hpz])
      refine W.skip ?_
      refine W.seq ?_
      refine W.seq ?_
      refine W.region ?_
      refine WL.c rfl (o_mvh h4 ?_)
      refine WL.c rfl (o_lenR TI111 rfl (Sl.own hown) ?_)
      refine WL.c rfl (o_eq rfl rfl ?_)
      refine WL.c rfl (o_mvh (show _ = Value.bool _ from rfl) ?_)
      refine WL.s rfl (by simp) rfl ?_
      refine WL.s rfl (by simp) rfl ?_
      refine WL.s rfl (by simp) rfl ?_
      refine WL.s rfl (by simp) rfl ?_
      refine WL.c rfl (o_pickT rfl (by simp) ?_)
      refine WL.nil ?_
      refine W.condT' rfl (by simp) ?_
      refine W.seq ?_
      refine W.region ?_
      refine WL.c rfl (o_mvh h5 ?_)
      refine WL.c rfl (o_ash (show _ = Value.int _ _ from rfl) ?_)
      refine WL.c rfl (o_ash (show _ = Value.int _ _ from rfl) ?_)
      refine WL.nil ?_
      refine W.ret ?_
      refine ret2v rfl (show _ = Value.int _ _ from rfl) (show _ = Value.int _ _ from rfl) ?_
      rw [h062]
      exact ⟨rfl, hx⟩
  · skip
    replace hown : w.ownsRow w0.heap.size 110 2 sv (S.length + 1) (opsQ (o :: S)) := hown
    obtain ⟨g, cap, rfl, hgb⟩ := own_some hown (by omega)
    have hcap : S.length + 1 ≤ cap := by obtain ⟨_, _, hv, hh⟩ := own_form hown; cases hv; exact hh
    obtain ⟨hdp, hlo, hhi, hok2⟩ := OkS_cons.1 hok
    have hSl2 : S.length + 1 ≤ 18 := hSl
    refine W.region ?_
    refine WL.c rfl (o_mvh h4 ?_)
    refine WL.c rfl (o_lenR TI111 rfl (Sl.own hown) ?_)
    refine WL.c rfl (o_gt rfl rfl ?_)
    refine WL.c rfl (o_mvh (show _ = Value.bool _ from rfl) ?_)
    refine WL.g rfl (decide_eq_true (by omega)) rfl (o_mvh h4 ?_)
    refine WL.g rfl (decide_eq_true (by omega)) rfl (o_mvh h4 ?_)
    refine WL.g rfl (decide_eq_true (by omega)) rfl (o_lenR TI111 rfl (Sl.own hown) ?_)
    refine WL.g rfl (decide_eq_true (by omega)) rfl (o_subi rfl rfl (by omega) ?_)
    refine WL.g rfl (decide_eq_true (by omega)) rfl (o_ixB (i := S.length) TI111 TI110 rfl (by show Value.int .i64 _ = _; congr 1; omega) (by omega) ?_)
    refine WL.g rfl (decide_eq_true (by omega)) rfl (o_fa 1 TI110 rfl TI3 rfl rfl ?_)
    refine WL.g rfl (decide_eq_true (by omega)) rfl (o_ld TI3 rfl rfl (own_cell hown (j := 0 + S.length * 2 + 1) (by rw [Nat.zero_add]; exact opsQ_get _ rfl)) ?_)
    refine WL.g rfl (decide_eq_true (by omega)) rfl (o_eq rfl rfl ?_)
    refine WL.c rfl (o_pickA rfl rfl ?_)
    refine WL.nil ?_
    refine W.cond rfl (fun c24 => ?_) (fun c24 => ?_)
    · try simp only [decide_eq_true_eq, decide_eq_false_iff_not, Bool.not_eq_true', Bool.not_eq_false', Bool.and_eq_true, Bool.or_eq_true, Bool.and_eq_false_iff, Bool.or_eq_false_iff] at c24
      have hz : o.left = 0 := c24.2
      refine W.skip ?_
      refine W.block ?_
      refine W.region ?_
      refine WL.c rfl (o_mvh h4 ?_)
      refine WL.c rfl (o_mvh h4 ?_)
      refine WL.c rfl (o_lenR TI111 rfl (Sl.own hown) ?_)
      refine WL.c rfl (o_subi rfl rfl (by omega) ?_)
      refine WL.c rfl (o_slv (h := S.length) TI111 TI110 rfl Lo.n (Hi.s (by show Value.int .i64 _ = _; congr 1; omega)) (Nat.zero_le _) (by omega) ?_)
      rw [sliced0]
      have hown2 := own_take hown (m := S.length) (by omega)
      rw [opsQ_take] at hown2
      refine WL.c rfl (o_ash (by first | exact (show _ = Value.slice _ _ _ from rfl) | exact rfl) ?_)
      refine WL.nil ?_
      refine ⟨⟨S, _, h0, rfl, h5, hown2, hok.2.2.2, by omega, by rw [hpz, popZ_z hz], by rw [hlb, leftB_z hz], hx⟩, ?_⟩
      rw [hm4]; show S.length < S.length + 1; omega
    · try simp only [decide_eq_true_eq, decide_eq_false_iff_not, Bool.not_eq_true', Bool.not_eq_false', Bool.and_eq_true, Bool.or_eq_true, Bool.and_eq_false_iff, Bool.or_eq_false_iff] at c24
      have hz : ¬ o.left = 0 := fun hz => by rcases c24 with c | c; omega; exact c hz
      have hpz2 := hpz.trans (popZ_n hz)
      refine W.exit ?_
      refine W.seq ?_
      refine W.seq ?_
      refine W.region ?_
      refine WL.c rfl (o_mvh h4 ?_)
      refine WL.c rfl (o_lenR TI111 rfl (Sl.own hown) ?_)
      refine WL.c rfl (o_eq rfl rfl ?_)
      refine WL.c rfl (o_mvh (show _ = Value.bool _ from rfl) ?_)
      refine WL.s rfl (decide_eq_false (by omega)) rfl ?_
      refine WL.s rfl (decide_eq_false (by omega)) rfl ?_
      refine WL.s rfl (decide_eq_false (by omega)) rfl ?_
      refine WL.s rfl (decide_eq_false (by omega)) rfl ?_
      refine WL.c rfl (o_pickF rfl (decide_eq_false (by omega)) ?_)
      refine WL.nil ?_
      refine W.condF' rfl (rfl) ?_
      refine W.skip ?_
      refine W.seq ?_
      refine W.seq ?_
      refine W.region ?_
      refine WL.c rfl (o_mvh h4 ?_)
      refine WL.c rfl (o_lenR TI111 rfl (Sl.own hown) ?_)
      refine WL.c rfl (o_eq rfl rfl ?_)
      refine WL.c rfl (o_mvh (show _ = Value.bool _ from rfl) ?_)
      refine WL.g rfl (decide_eq_false (by omega)) rfl (o_mvh h5 ?_)
      refine WL.g rfl (decide_eq_false (by omega)) rfl (o_mvh h0 ?_)
      refine WL.g rfl (decide_eq_false (by omega)) rfl (o_lenR TI32 rfl (hS.ext hx) ?_)
      refine WL.g rfl (decide_eq_false (by omega)) rfl (o_eq rfl rfl ?_)
      refine WL.c rfl (o_pickO rfl rfl ?_)
      refine WL.nil ?_
      refine W.cond rfl (fun c47 => ?_) (fun c47 => ?_)
      · try simp only [decide_eq_true_eq, decide_eq_false_iff_not, Bool.not_eq_true', Bool.not_eq_false', Bool.and_eq_true, Bool.or_eq_true, Bool.and_eq_false_iff, Bool.or_eq_false_iff] at c47
        have hil : i = l.length := by simp at c47; omega
        rw [hil, List.drop_length, chkE_nil, hlb, leftB_n hz hlo, if_pos rfl] at hres
        refine W.seq ?_
        refine W.region ?_
        refine WL.c rfl (o_mvh h5 ?_)
        refine WL.c rfl (o_ash (show _ = Value.int _ _ from rfl) ?_)
        refine WL.c rfl (o_ash (show _ = Value.int _ _ from rfl) ?_)
        refine WL.nil ?_
        refine W.ret ?_
        refine ret2v rfl (show _ = Value.int _ _ from rfl) (show _ = Value.int _ _ from rfl) ?_
        rw [hres]
        exact ⟨by rw [hil]; rfl, hx⟩
      · try simp only [decide_eq_true_eq, decide_eq_false_iff_not, Bool.not_eq_true', Bool.not_eq_false', Bool.and_eq_true, Bool.or_eq_true, Bool.and_eq_false_iff, Bool.or_eq_false_iff] at c47
        have hil : i < l.length := by simp at c47; omega
        have hlc : l.drop i = l[i] :: l.drop (i + 1) := (List.getElem_cons_drop hil).symm
        have hres2 := hres.trans (by rw [hlc, chkE_o hpz2])
        obtain ⟨tb, to_, tc, hvv, htc⟩ := Sl.exq (hS.ext hx) hil
        refine W.skip ?_
        refine W.seq ?_
        refine W.region ?_
        refine WL.c rfl (o_mvh h0 ?_)
        refine WL.c rfl (o_mvh h5 ?_)
        refine WL.c rfl (o_ixB (i := i) TI32 TI36 (show _ = _ from hvv) rfl (by omega) ?_)
        refine WL.c rfl (o_ldA TI36 rfl rfl htc rfl ?_)
        refine WL.c rfl (o_alB TI36 ?_)
        intro w6 hC6 hx6 hs6
        refine WL.u (o_stA TI36 rfl (show _ = Value.agg (exV l[i]).toArray from rfl) rfl rfl hC6 rfl ?_)
        intro w7 hC7 ho7 hs7
        have hxb := Ext.own hx6 (Nat.le_refl _) ho7
        clear hC6 hx6 hs6 ho7 hs7 htc
        have hgw := (hown.lt g rfl).2
        have hgl := (hown.lt g rfl).1
        replace hown := own_ext hown hxb
        replace hx := hx.tr hxb
        obtain ⟨c6, hc6⟩ : ∃ c, c = w.heap.size := ⟨_, rfl⟩
        rw [← hc6] at hC7 ⊢
        have hcg : ¬ g = c6 := by omega
        refine WL.nil ?_
        refine W.seq ?_
        refine W.region ?_
        refine WL.c rfl (o_mvh h4 ?_)
        refine WL.c rfl (o_lenR TI111 rfl (Sl.own hown) ?_)
        refine WL.c rfl (o_subi rfl rfl (by omega) ?_)
        rw [show (((S.length + 1 : Nat) : Int) - 1) = (S.length : Int) by omega]
        refine WL.c rfl (o_ash (show _ = Value.int _ _ from rfl) ?_)
        refine WL.nil ?_
        refine W.seq ?_
        refine W.block ?_
        refine W.seq ?_
        refine W.region ?_
        refine WL.c rfl (o_mvh (show _ = Value.int _ _ from rfl) ?_)
        refine WL.c rfl (o_gt rfl rfl ?_)
        refine WL.c rfl (o_ash (show _ = Value.bool _ from rfl) ?_)
        refine WL.nil ?_
        refine W.cond rfl (fun c56 => ?_) (fun c56 => ?_)
        · try simp only [decide_eq_true_eq, decide_eq_false_iff_not, Bool.not_eq_true', Bool.not_eq_false', Bool.and_eq_true, Bool.or_eq_true, Bool.and_eq_false_iff, Bool.or_eq_false_iff] at c56
          have hdeep : 16 < o.deep := by omega
          rw [if_pos hdeep] at hres2
          refine W.seq ?_
          refine W.region ?_
          refine WL.c rfl (o_mvh h5 ?_)
          refine WL.c rfl (o_ash (show _ = Value.int _ _ from rfl) ?_)
          refine WL.c rfl (o_ash (show _ = Value.int _ _ from rfl) ?_)
          refine WL.nil ?_
          refine W.ret ?_
          refine ret2v rfl (show _ = Value.int _ _ from rfl) (show _ = Value.int _ _ from rfl) ?_
          rw [hres2]
          exact ⟨rfl, hx⟩
        · try simp only [decide_eq_true_eq, decide_eq_false_iff_not, Bool.not_eq_true', Bool.not_eq_false', Bool.and_eq_true, Bool.or_eq_true, Bool.and_eq_false_iff, Bool.or_eq_false_iff] at c56
          have hdeep : ¬ 16 < o.deep := by omega
          rw [if_neg hdeep] at hres2
          refine W.seq ?_
          refine W.seq ?_
          refine W.region ?_
          refine WL.c rfl (o_fa 0 TI36 rfl TI3 rfl rfl ?_)
          refine WL.c rfl (o_ld TI3 rfl rfl (cell_of hC7 rfl) ?_)
          refine WL.c rfl (o_eq rfl rfl ?_)
          refine WL.c rfl (o_mvh (show _ = Value.bool _ from rfl) ?_)
          refine WL.sp 3 rfl (fun g64 => ?_) (fun g64 => ?_)
          · skip
            refine WL.g rfl (g64) rfl (o_fa 5 TI36 rfl TI3 rfl rfl ?_)
            refine WL.g rfl (g64) rfl (o_ld TI3 rfl rfl (cell_of hC7 rfl) ?_)
            refine WL.g rfl (g64) rfl (o_gt rfl rfl ?_)
            refine WL.c rfl (o_pickA rfl rfl ?_)
            refine WL.c rfl (o_ash (show _ = Value.bool _ from rfl) ?_)
            refine WL.nil ?_
            refine W.cut (fun e1 w1 => e1 0 = v ∧ e1 4 = Value.slice (some ⟨g, 0, none⟩) (S.length + 1) cap ∧ e1 5 = .int .i64 (i : Int) ∧ e1 6 = .pointer (some ⟨c6, 0, none⟩) ∧ e1 7 = .int .i64 (S.length : Int) ∧ e1 60 = .bool (manyB l[i]) ∧ w1 = w7) ?_ ?_
            · -- both ways
              refine W.cond rfl (fun c60 => ?_) (fun c60 => ?_)
              · try simp only [decide_eq_true_eq, decide_eq_false_iff_not, Bool.not_eq_true', Bool.not_eq_false', Bool.and_eq_true, Bool.or_eq_true, Bool.and_eq_false_iff, Bool.or_eq_false_iff] at c60
                refine W.skip ?_
                exact ⟨h0, h4, h5, rfl, rfl, congrArg Value.bool (by rw [Bool.eq_iff_iff]; (try simp only [decide_eq_true_eq, decide_eq_false_iff_not] at g64); (try simp only [decide_eq_true_eq, decide_eq_false_iff_not] at g72); (try (cases c60; done)); all_goals simp only [manyB, Bool.or_eq_true, Bool.and_eq_true, decide_eq_true_eq, Bool.false_eq_true, false_iff]; all_goals omega), rfl⟩
              · try simp only [decide_eq_true_eq, decide_eq_false_iff_not, Bool.not_eq_true', Bool.not_eq_false', Bool.and_eq_true, Bool.or_eq_true, Bool.and_eq_false_iff, Bool.or_eq_false_iff] at c60
                refine W.region ?_
                refine WL.c rfl (o_fa 0 TI36 rfl TI3 rfl rfl ?_)
                refine WL.c rfl (o_ld TI3 rfl rfl (cell_of hC7 rfl) ?_)
                refine WL.c rfl (o_eq rfl rfl ?_)
                refine WL.c rfl (o_mvh (show _ = Value.bool _ from rfl) ?_)
                refine WL.sp 3 rfl (fun g72 => ?_) (fun g72 => ?_)
                · skip
                  refine WL.g rfl (g72) rfl (o_fa 5 TI36 rfl TI3 rfl rfl ?_)
                  refine WL.g rfl (g72) rfl (o_ld TI3 rfl rfl (cell_of hC7 rfl) ?_)
                  refine WL.g rfl (g72) rfl (o_gt rfl rfl ?_)
                  refine WL.c rfl (o_pickA rfl rfl ?_)
                  refine WL.c rfl (o_ash (show _ = Value.bool _ from rfl) ?_)
                  refine WL.nil ?_
                  exact ⟨h0, h4, h5, rfl, rfl, congrArg Value.bool (by rw [Bool.eq_iff_iff]; (try simp only [decide_eq_true_eq, decide_eq_false_iff_not] at g64); (try simp only [decide_eq_true_eq, decide_eq_false_iff_not] at g72); (try (cases c60; done)); all_goals simp only [manyB, Bool.or_eq_true, Bool.and_eq_true, decide_eq_true_eq, Bool.false_eq_true, false_iff]; all_goals omega), rfl⟩
                · skip
                  refine WL.s rfl (g72) rfl ?_
                  refine WL.s rfl (g72) rfl ?_
                  refine WL.s rfl (g72) rfl ?_
                  refine WL.c rfl (o_pickF rfl (g72) ?_)
                  refine WL.c rfl (o_ash (show _ = Value.bool _ from rfl) ?_)
                  refine WL.nil ?_
                  exact ⟨h0, h4, h5, rfl, rfl, congrArg Value.bool (by rw [Bool.eq_iff_iff]; (try simp only [decide_eq_true_eq, decide_eq_false_iff_not] at g64); (try simp only [decide_eq_true_eq, decide_eq_false_iff_not] at g72); (try (cases c60; done)); all_goals simp only [manyB, Bool.or_eq_true, Bool.and_eq_true, decide_eq_true_eq, Bool.false_eq_true, false_iff]; all_goals omega), rfl⟩
            rintro e w ⟨h0, h4, h5, h6, h7, h60, rfl⟩
            refine W.cond h60 (fun c60 => ?_) (fun c60 => ?_)
            · try simp only [decide_eq_true_eq, decide_eq_false_iff_not, Bool.not_eq_true', Bool.not_eq_false', Bool.and_eq_true, Bool.or_eq_true, Bool.and_eq_false_iff, Bool.or_eq_false_iff] at c60
              refine W.seq ?_
              have hmany : manyB l[i] = true := by simpa using c60
              rw [if_pos hmany] at hres2
              refine W.region ?_
              refine WL.c rfl (o_mvh h5 ?_)
              refine WL.c rfl (o_ash (show _ = Value.int _ _ from rfl) ?_)
              refine WL.c rfl (o_ash (show _ = Value.int _ _ from rfl) ?_)
              refine WL.nil ?_
              refine W.ret ?_
              refine ret2v rfl (show _ = Value.int _ _ from rfl) (show _ = Value.int _ _ from rfl) ?_
              rw [hres2]
              exact ⟨rfl, hx⟩
            · try simp only [decide_eq_true_eq, decide_eq_false_iff_not, Bool.not_eq_true', Bool.not_eq_false', Bool.and_eq_true, Bool.or_eq_true, Bool.and_eq_false_iff, Bool.or_eq_false_iff] at c60
              refine W.seq ?_
              cases hrgt : rgtB l[i]
              · skip
                skip
                have hmany : manyB l[i] = false := by simpa using c60
                rw [if_neg (by simp [hmany])] at hres2
                obtain ⟨wd, hwd⟩ : ∃ wd, wd = w.drew := ⟨_, rfl⟩
                have hxd : Ext w wd := hwd ▸ Only.drew w
                replace hown := own_ext hown hxd
                replace hC7 := hxd.blk hC7 (fun h => h)
                replace hx := hx.tr hxd
                refine W.draw (Ext) [(0, fun v _ => v = _), (4, fun v _ => v = _), (5, fun v _ => v = _), (6, fun v _ => v = _), (7, fun v _ => v = _)] rfl (by kernel_rfl) (Only.refl No) (fun _ _ _ h k => h.trans k) ⟨Mono.eq, Mono.eq, Mono.eq, Mono.eq, Mono.eq, trivial⟩ ⟨h0, h4, h5, h6, h7, trivial⟩ ?_
                refine WD.p rfl (fun e w hR hh => by obtain ⟨h6, -⟩ := hh; rw [← hwd] at hR; exact SG.n (o_ldA TI36 rfl h6 (show Cells w c6 0 (exV l[i]) from Cells.of (hR.blk hC7 (fun h => h)) 0 _ (by simp)) rfl ⟨rfl, Only.refl No _⟩)) ?_
                refine WD.p rfl (fun e w hR hh => by obtain ⟨h79, -⟩ := hh; exact SG.n (o_call Tryd.call66 (lc h79 ln) ((rright_spec l[i] _ (hln _ (List.getElem_mem hil)).1).mono (fun v w' h => h)))) ?_
                refine WD.p rfl (fun e w hR hh => by obtain ⟨h80, -⟩ := hh; exact SG.n (o_not' h80 ⟨rfl, Only.refl No _⟩)) ?_
                refine WD.p rfl (fun e w hR hh => by obtain ⟨h81, -⟩ := hh; exact SG.n (o_mvh h81 ⟨rfl, Only.refl No _⟩)) ?_
                refine WD.p rfl (fun e w hR hh => by obtain ⟨h82, h6, -⟩ := hh; rw [← hwd] at hR; exact SG.s h82 (by simp [hrgt]) ⟨rfl, Only.refl No _⟩) ?_
                refine WD.p rfl (fun e w hR hh => by obtain ⟨h82, h4, -⟩ := hh; exact SG.s h82 (by simp [hrgt]) ⟨rfl, Only.refl No _⟩) ?_
                refine WD.p rfl (fun e w hR hh => by obtain ⟨h82, h7, -⟩ := hh; exact SG.s h82 (by simp [hrgt]) ⟨rfl, Only.refl No _⟩) ?_
                refine WD.p rfl (fun e w hR hh => by obtain ⟨h85, h84, h82, -⟩ := hh; exact SG.s h82 (by simp [hrgt]) ⟨rfl, Only.refl No _⟩) ?_
                refine WD.p rfl (fun e w hR hh => by obtain ⟨h86, h82, -⟩ := hh; exact SG.s h82 (by simp [hrgt]) ⟨rfl, Only.refl No _⟩) ?_
                refine WD.p rfl (fun e w hR hh => by obtain ⟨h87, h82, -⟩ := hh; rw [← hwd] at hR; exact SG.s h82 (by simp [hrgt]) ⟨rfl, Only.refl No _⟩) ?_
                refine WD.p rfl (fun e w hR hh => by obtain ⟨h88, h83, h82, -⟩ := hh; exact SG.s h82 (by simp [hrgt]) ⟨rfl, Only.refl No _⟩) ?_
                refine WD.p rfl (fun e w hR hh => by obtain ⟨h89, h82, -⟩ := hh; exact SG.s h82 (by simp [hrgt]) ⟨rfl, Only.refl No _⟩) ?_
                refine WD.p rfl (fun e w hR hh => by obtain ⟨h90, h82, -⟩ := hh; exact SG.n (o_pickT h82 (by simp [hrgt]) ⟨rfl, Only.refl No _⟩)) ?_
                refine WD.p rfl (fun e w hR hh => by obtain ⟨h91, -⟩ := hh; exact SG.n (o_ash h91 ⟨rfl, Only.refl No _⟩)) ?_
                rintro e w hR ⟨h78, h91, h90, h89, h88, h87, h86, h85, h84, h83, h82, h81, h80, h79, h0, h4, h5, h6, h7, -⟩
                rw [← hwd] at hR
                replace hown := own_ext hown hR
                replace hC7 := hR.blk hC7 (fun h => h)
                replace hx := hx.tr hR
                refine W.condT' h78 (rfl) ?_
                refine W.seq ?_
                have hright : rightB l[i] o.kind = false := by rw [rightB_two, hrgt]; rfl
                rw [if_pos hright] at hres2
                refine W.region ?_
                refine WL.c rfl (o_mvh h5 ?_)
                refine WL.c rfl (o_ash (show _ = Value.int _ _ from rfl) ?_)
                refine WL.c rfl (o_ash (show _ = Value.int _ _ from rfl) ?_)
                refine WL.nil ?_
                refine W.ret ?_
                refine ret2v rfl (show _ = Value.int _ _ from rfl) (show _ = Value.int _ _ from rfl) ?_
                rw [hres2]
                exact ⟨rfl, hx⟩
              · skip
                skip
                have hmany : manyB l[i] = false := by simpa using c60
                rw [if_neg (by simp [hmany])] at hres2
                obtain ⟨wd, hwd⟩ : ∃ wd, wd = w.drew := ⟨_, rfl⟩
                have hxd : Ext w wd := hwd ▸ Only.drew w
                replace hown := own_ext hown hxd
                replace hC7 := hxd.blk hC7 (fun h => h)
                replace hx := hx.tr hxd
                refine W.draw (Ext) [(0, fun v _ => v = _), (4, fun v _ => v = _), (5, fun v _ => v = _), (6, fun v _ => v = _), (7, fun v _ => v = _)] rfl (by kernel_rfl) (Only.refl No) (fun _ _ _ h k => h.trans k) ⟨Mono.eq, Mono.eq, Mono.eq, Mono.eq, Mono.eq, trivial⟩ ⟨h0, h4, h5, h6, h7, trivial⟩ ?_
                refine WD.p rfl (fun e w hR hh => by obtain ⟨h6, -⟩ := hh; rw [← hwd] at hR; exact SG.n (o_ldA TI36 rfl h6 (show Cells w c6 0 (exV l[i]) from Cells.of (hR.blk hC7 (fun h => h)) 0 _ (by simp)) rfl ⟨rfl, Only.refl No _⟩)) ?_
                refine WD.p rfl (fun e w hR hh => by obtain ⟨h79, -⟩ := hh; exact SG.n (o_call Tryd.call66 (lc h79 ln) ((rright_spec l[i] _ (hln _ (List.getElem_mem hil)).1).mono (fun v w' h => h)))) ?_
                refine WD.p rfl (fun e w hR hh => by obtain ⟨h80, -⟩ := hh; exact SG.n (o_not' h80 ⟨rfl, Only.refl No _⟩)) ?_
                refine WD.p rfl (fun e w hR hh => by obtain ⟨h81, -⟩ := hh; exact SG.n (o_mvh h81 ⟨rfl, Only.refl No _⟩)) ?_
                refine WD.p rfl (fun e w hR hh => by obtain ⟨h82, h6, -⟩ := hh; rw [← hwd] at hR; exact SG.g h82 (by simp [hrgt]) (o_ldA TI36 rfl h6 (show Cells w c6 0 (exV l[i]) from Cells.of (hR.blk hC7 (fun h => h)) 0 _ (by simp)) rfl ⟨rfl, Only.refl No _⟩)) ?_
                refine WD.p rfl (fun e w hR hh => by obtain ⟨h82, h4, -⟩ := hh; exact SG.g h82 (by simp [hrgt]) (o_mvh h4 ⟨rfl, Only.refl No _⟩)) ?_
                refine WD.p rfl (fun e w hR hh => by obtain ⟨h82, h7, -⟩ := hh; exact SG.g h82 (by simp [hrgt]) (o_mvh h7 ⟨rfl, Only.refl No _⟩)) ?_
                refine WD.p rfl (fun e w hR hh => by obtain ⟨h85, h84, h82, -⟩ := hh; exact SG.g h82 (by simp [hrgt]) (o_ixB (i := S.length) TI111 TI110 h84 h85 (by omega) ⟨rfl, Only.refl No _⟩)) ?_
                refine WD.p rfl (fun e w hR hh => by obtain ⟨h86, h82, -⟩ := hh; exact SG.g h82 (by simp [hrgt]) (o_fa 0 TI110 rfl TI3 rfl h86 ⟨rfl, Only.refl No _⟩)) ?_
                refine WD.p rfl (fun e w hR hh => by obtain ⟨h87, h82, -⟩ := hh; rw [← hwd] at hR; exact SG.g h82 (by simp [hrgt]) (o_ld TI3 rfl h87 (own_cell (own_ext hown hR) (j := 0 + S.length * 2 + 0) (by rw [Nat.zero_add]; exact opsQ_get _ rfl)) ⟨rfl, Only.refl No _⟩)) ?_
                refine WD.p rfl (fun e w hR hh => by obtain ⟨h88, h83, h82, -⟩ := hh; exact SG.g h82 (by simp [hrgt]) (o_call Tryd.call67 (lc h83 (lc h88 ln)) ((placed_spec l[i] o.kind _ (hln _ (List.getElem_mem hil)).2).mono (fun v w' h => h)))) ?_
                refine WD.p rfl (fun e w hR hh => by obtain ⟨h89, h82, -⟩ := hh; exact SG.g h82 (by simp [hrgt]) (o_not' h89 ⟨rfl, Only.refl No _⟩)) ?_
                refine WD.p rfl (fun e w hR hh => by obtain ⟨h90, h82, -⟩ := hh; exact SG.n (o_pickO h82 h90 ⟨rfl, Only.refl No _⟩)) ?_
                refine WD.p rfl (fun e w hR hh => by obtain ⟨h91, -⟩ := hh; exact SG.n (o_ash h91 ⟨rfl, Only.refl No _⟩)) ?_
                rintro e w hR ⟨h78, h91, h90, h89, h88, h87, h86, h85, h84, h83, h82, h81, h80, h79, h0, h4, h5, h6, h7, -⟩
                rw [← hwd] at hR
                replace hown := own_ext hown hR
                replace hC7 := hR.blk hC7 (fun h => h)
                replace hx := hx.tr hR
                refine W.cond h78 (fun c78 => ?_) (fun c78 => ?_)
                · try simp only [decide_eq_true_eq, decide_eq_false_iff_not, Bool.not_eq_true', Bool.not_eq_false', Bool.and_eq_true, Bool.or_eq_true, Bool.and_eq_false_iff, Bool.or_eq_false_iff] at c78
                  have hright : rightB l[i] o.kind = false := by rw [rightB_two, hrgt]; simpa [hrgt] using c78
                  rw [if_pos hright] at hres2
                  refine W.seq ?_
                  refine W.region ?_
                  refine WL.c rfl (o_mvh h5 ?_)
                  refine WL.c rfl (o_ash (show _ = Value.int _ _ from rfl) ?_)
                  refine WL.c rfl (o_ash (show _ = Value.int _ _ from rfl) ?_)
                  refine WL.nil ?_
                  refine W.ret ?_
                  refine ret2v rfl (show _ = Value.int _ _ from rfl) (show _ = Value.int _ _ from rfl) ?_
                  rw [hres2]
                  exact ⟨rfl, hx⟩
                · try simp only [decide_eq_true_eq, decide_eq_false_iff_not, Bool.not_eq_true', Bool.not_eq_false', Bool.and_eq_true, Bool.or_eq_true, Bool.and_eq_false_iff, Bool.or_eq_false_iff] at c78
                  have hright : rightB l[i] o.kind = true := by rw [rightB_two, hrgt]; simpa [hrgt] using c78
                  rw [if_neg (by simp [hright])] at hres2
                  have hkd := rightB_kids hright hmany
                  refine W.skip ?_
                  refine W.seq ?_
                  refine W.region ?_
                  refine WL.c rfl (o_mvh h4 ?_)
                  refine WL.c rfl (o_mvh h7 ?_)
                  refine WL.c rfl (o_ixB (i := S.length) TI111 TI110 rfl rfl (by omega) ?_)
                  refine WL.c rfl (o_fa 1 TI110 rfl TI3 rfl rfl ?_)
                  refine WL.c rfl (o_ld TI3 rfl rfl (own_cell hown (j := 0 + S.length * 2 + 1) (by rw [Nat.zero_add]; exact opsQ_get _ rfl)) ?_)
                  refine WL.c rfl (o_subi rfl rfl (by omega) ?_)
                  refine WL.c rfl (o_ixB (i := S.length) TI111 TI110 rfl rfl (by omega) ?_)
                  refine WL.c rfl (o_fa 1 TI110 rfl TI3 rfl rfl ?_)
                  refine WL.u (o_stRj (i := S.length * 2 + 1) TI3 rfl (by omega) (show _ = Value.int .i64 (o.left - 1) from rfl) rfl hown rfl (by omega) ?_)
                  intro wA hown' hoA hsA
                  replace hown : wA.ownsRow w0.heap.size 110 2 (Value.slice (some ⟨g, 0, none⟩) (S.length + 1) cap) (S.length + 1) (opsQ ({ o with left := o.left - 1 } :: S)) := by rw [← opsQ_set]; exact hown'
                  clear hown'
                  replace hC7 := hoA.blk hC7 (fun hk => hcg (by simpa [Value.ownBlock] using hk))
                  replace hx := hx.trans' hoA (fun _ h => h) (fun k hk he => by have := ob he; omega)
                  have hok3 : OkS ({ o with left := o.left - 1 } :: S) := ⟨hdp, by show 0 ≤ o.left - 1; omega, by show o.left - 1 ≤ 64; omega, hok2⟩
                  refine WL.nil ?_
                  refine W.seq ?_
                  refine W.region ?_
                  refine WL.c rfl (o_fa 5 TI36 rfl TI3 rfl h6 ?_)
                  refine WL.c rfl (o_ld TI3 rfl rfl (cell_of hC7 rfl) ?_)
                  refine WL.c rfl (o_gt rfl rfl ?_)
                  refine WL.nil ?_
                  refine W.cond rfl (fun c103 => ?_) (fun c103 => ?_)
                  · try simp only [decide_eq_true_eq, decide_eq_false_iff_not, Bool.not_eq_true', Bool.not_eq_false', Bool.and_eq_true, Bool.or_eq_true, Bool.and_eq_false_iff, Bool.or_eq_false_iff] at c103
                    have hkp : 0 < l[i].kids := by omega
                    refine W.region ?_
                    refine WL.c rfl (o_mvh h4 ?_)
                    refine WL.c rfl (o_fa 0 TI36 rfl TI3 rfl h6 ?_)
                    refine WL.c rfl (o_ld TI3 rfl rfl (cell_of hC7 rfl) ?_)
                    refine WL.c rfl (o_fa 5 TI36 rfl TI3 rfl h6 ?_)
                    refine WL.c rfl (o_ld TI3 rfl rfl (cell_of hC7 rfl) ?_)
                    refine WL.c rfl (o_bldC (cs := [_, _]) TI110 (Sizes.cons TI3 (Sizes.cons TI3 Sizes.nil)) rfl (lcp (show _ = Value.int _ _ from rfl) (lcp (show _ = Value.int _ _ from rfl) lnp)) rfl rfl ?_)
                    refine WL.apO (w0.heap.size) rfl rfl TI111 TI110 rfl rfl hown (by decide) (by decide) rfl (fun a ha => List.all_eq_true.1 (show List.all _ (fun a => a.oneCell') = true from rfl) a ha) rfl (by rw [maxLen_eq]; omega) (by omega) hx.size ?_
                    intro v111 w111 hown111 ho111 hb111 _
                    have hrow : w111.ownsRow w0.heap.size 110 2 v111 (⟨l[i].kind, l[i].kids, o.deep + 1⟩ :: { o with left := o.left - 1 } :: S).length (opsQ (⟨l[i].kind, l[i].kids, o.deep + 1⟩ :: { o with left := o.left - 1 } :: S)) := by rw [opsQ_cons ⟨l[i].kind, l[i].kids, o.deep + 1⟩]; exact hown111
                    replace ho111 : Only (fun k => (Value.slice (some ⟨g, 0, none⟩) (S.length + 1) cap).ownBlock = some k) wA w111 := ho111
                    replace hx := hx.trans' ho111 (fun _ h => h) (fun k hk he => by have := ob he; omega)
                    have hokN : OkS (⟨l[i].kind, l[i].kids, o.deep + 1⟩ :: { o with left := o.left - 1 } :: S) := ⟨by simp only [List.length_cons]; omega, hkd.1, hkd.2, hok3⟩
                    refine WL.c rfl (o_ash (by first | exact (show _ = Value.slice _ _ _ from rfl) | exact rfl) ?_)
                    refine WL.nil ?_
                    refine W.region ?_
                    refine WL.c rfl (o_mvh h5 ?_)
                    refine WL.c rfl (o_addi rfl rfl (by omega) ?_)
                    refine WL.c rfl (o_ash (show _ = Value.int _ _ from rfl) ?_)
                    refine WL.nil ?_
                    refine ⟨⟨i + 1, _, _, by omega, h0, by first | exact h4 | exact rfl, rfl, hrow, hokN, by simp only [List.length_cons]; omega, ?_, hx⟩, ?_⟩
                    · rw [hres, hlc, chkE_o hpz2, if_neg hdeep, if_neg (by simp [hmany]), if_neg (by simp [hright])]
                      all_goals first | rfl | exact chkE_pz hkz
                    · show l.length - ((i : Int) + 1).toNat < _
                      rw [hm5]; simp [intOf]; omega
                  · try simp only [decide_eq_true_eq, decide_eq_false_iff_not, Bool.not_eq_true', Bool.not_eq_false', Bool.and_eq_true, Bool.or_eq_true, Bool.and_eq_false_iff, Bool.or_eq_false_iff] at c103
                    have hkz : l[i].kids = 0 := by omega
                    have hrow := hown
                    have hokN := hok3
                    refine W.skip ?_
                    refine W.region ?_
                    refine WL.c rfl (o_mvh h5 ?_)
                    refine WL.c rfl (o_addi rfl rfl (by omega) ?_)
                    refine WL.c rfl (o_ash (show _ = Value.int _ _ from rfl) ?_)
                    refine WL.nil ?_
                    refine ⟨⟨i + 1, _, _, by omega, h0, by first | exact h4 | exact rfl, rfl, hrow, hokN, by simp only [List.length_cons]; omega, ?_, hx⟩, ?_⟩
                    · rw [hres, hlc, chkE_o hpz2, if_neg hdeep, if_neg (by simp [hmany]), if_neg (by simp [hright])]
                      all_goals first | rfl | exact chkE_pz hkz
                    · show l.length - ((i : Int) + 1).toNat < _
                      rw [hm5]; simp [intOf]; omega
          · skip
            refine WL.s rfl (g64) rfl ?_
            refine WL.s rfl (g64) rfl ?_
            refine WL.s rfl (g64) rfl ?_
            refine WL.c rfl (o_pickF rfl (g64) ?_)
            refine WL.c rfl (o_ash (show _ = Value.bool _ from rfl) ?_)
            refine WL.nil ?_
            refine W.cut (fun e1 w1 => e1 0 = v ∧ e1 4 = Value.slice (some ⟨g, 0, none⟩) (S.length + 1) cap ∧ e1 5 = .int .i64 (i : Int) ∧ e1 6 = .pointer (some ⟨c6, 0, none⟩) ∧ e1 7 = .int .i64 (S.length : Int) ∧ e1 60 = .bool (manyB l[i]) ∧ w1 = w7) ?_ ?_
            · -- both ways
              refine W.cond rfl (fun c60 => ?_) (fun c60 => ?_)
              · try simp only [decide_eq_true_eq, decide_eq_false_iff_not, Bool.not_eq_true', Bool.not_eq_false', Bool.and_eq_true, Bool.or_eq_true, Bool.and_eq_false_iff, Bool.or_eq_false_iff] at c60
                refine W.skip ?_
                exact ⟨h0, h4, h5, rfl, rfl, congrArg Value.bool (by rw [Bool.eq_iff_iff]; (try simp only [decide_eq_true_eq, decide_eq_false_iff_not] at g64); (try simp only [decide_eq_true_eq, decide_eq_false_iff_not] at g72); (try (cases c60; done)); all_goals simp only [manyB, Bool.or_eq_true, Bool.and_eq_true, decide_eq_true_eq, Bool.false_eq_true, false_iff]; all_goals omega), rfl⟩
              · try simp only [decide_eq_true_eq, decide_eq_false_iff_not, Bool.not_eq_true', Bool.not_eq_false', Bool.and_eq_true, Bool.or_eq_true, Bool.and_eq_false_iff, Bool.or_eq_false_iff] at c60
                refine W.region ?_
                refine WL.c rfl (o_fa 0 TI36 rfl TI3 rfl rfl ?_)
                refine WL.c rfl (o_ld TI3 rfl rfl (cell_of hC7 rfl) ?_)
                refine WL.c rfl (o_eq rfl rfl ?_)
                refine WL.c rfl (o_mvh (show _ = Value.bool _ from rfl) ?_)
                refine WL.sp 3 rfl (fun g72 => ?_) (fun g72 => ?_)
                · skip
                  refine WL.g rfl (g72) rfl (o_fa 5 TI36 rfl TI3 rfl rfl ?_)
                  refine WL.g rfl (g72) rfl (o_ld TI3 rfl rfl (cell_of hC7 rfl) ?_)
                  refine WL.g rfl (g72) rfl (o_gt rfl rfl ?_)
                  refine WL.c rfl (o_pickA rfl rfl ?_)
                  refine WL.c rfl (o_ash (show _ = Value.bool _ from rfl) ?_)
                  refine WL.nil ?_
                  exact ⟨h0, h4, h5, rfl, rfl, congrArg Value.bool (by rw [Bool.eq_iff_iff]; (try simp only [decide_eq_true_eq, decide_eq_false_iff_not] at g64); (try simp only [decide_eq_true_eq, decide_eq_false_iff_not] at g72); (try (cases c60; done)); all_goals simp only [manyB, Bool.or_eq_true, Bool.and_eq_true, decide_eq_true_eq, Bool.false_eq_true, false_iff]; all_goals omega), rfl⟩
                · skip
                  refine WL.s rfl (g72) rfl ?_
                  refine WL.s rfl (g72) rfl ?_
                  refine WL.s rfl (g72) rfl ?_
                  refine WL.c rfl (o_pickF rfl (g72) ?_)
                  refine WL.c rfl (o_ash (show _ = Value.bool _ from rfl) ?_)
                  refine WL.nil ?_
                  exact ⟨h0, h4, h5, rfl, rfl, congrArg Value.bool (by rw [Bool.eq_iff_iff]; (try simp only [decide_eq_true_eq, decide_eq_false_iff_not] at g64); (try simp only [decide_eq_true_eq, decide_eq_false_iff_not] at g72); (try (cases c60; done)); all_goals simp only [manyB, Bool.or_eq_true, Bool.and_eq_true, decide_eq_true_eq, Bool.false_eq_true, false_iff]; all_goals omega), rfl⟩
            rintro e w ⟨h0, h4, h5, h6, h7, h60, rfl⟩
            refine W.cond h60 (fun c60 => ?_) (fun c60 => ?_)
            · try simp only [decide_eq_true_eq, decide_eq_false_iff_not, Bool.not_eq_true', Bool.not_eq_false', Bool.and_eq_true, Bool.or_eq_true, Bool.and_eq_false_iff, Bool.or_eq_false_iff] at c60
              refine W.seq ?_
              have hmany : manyB l[i] = true := by simpa using c60
              rw [if_pos hmany] at hres2
              refine W.region ?_
              refine WL.c rfl (o_mvh h5 ?_)
              refine WL.c rfl (o_ash (show _ = Value.int _ _ from rfl) ?_)
              refine WL.c rfl (o_ash (show _ = Value.int _ _ from rfl) ?_)
              refine WL.nil ?_
              refine W.ret ?_
              refine ret2v rfl (show _ = Value.int _ _ from rfl) (show _ = Value.int _ _ from rfl) ?_
              rw [hres2]
              exact ⟨rfl, hx⟩
            · try simp only [decide_eq_true_eq, decide_eq_false_iff_not, Bool.not_eq_true', Bool.not_eq_false', Bool.and_eq_true, Bool.or_eq_true, Bool.and_eq_false_iff, Bool.or_eq_false_iff] at c60
              refine W.seq ?_
              cases hrgt : rgtB l[i]
              · skip
                skip
                have hmany : manyB l[i] = false := by simpa using c60
                rw [if_neg (by simp [hmany])] at hres2
                obtain ⟨wd, hwd⟩ : ∃ wd, wd = w.drew := ⟨_, rfl⟩
                have hxd : Ext w wd := hwd ▸ Only.drew w
                replace hown := own_ext hown hxd
                replace hC7 := hxd.blk hC7 (fun h => h)
                replace hx := hx.tr hxd
                refine W.draw (Ext) [(0, fun v _ => v = _), (4, fun v _ => v = _), (5, fun v _ => v = _), (6, fun v _ => v = _), (7, fun v _ => v = _)] rfl (by kernel_rfl) (Only.refl No) (fun _ _ _ h k => h.trans k) ⟨Mono.eq, Mono.eq, Mono.eq, Mono.eq, Mono.eq, trivial⟩ ⟨h0, h4, h5, h6, h7, trivial⟩ ?_
                refine WD.p rfl (fun e w hR hh => by obtain ⟨h6, -⟩ := hh; rw [← hwd] at hR; exact SG.n (o_ldA TI36 rfl h6 (show Cells w c6 0 (exV l[i]) from Cells.of (hR.blk hC7 (fun h => h)) 0 _ (by simp)) rfl ⟨rfl, Only.refl No _⟩)) ?_
                refine WD.p rfl (fun e w hR hh => by obtain ⟨h79, -⟩ := hh; exact SG.n (o_call Tryd.call66 (lc h79 ln) ((rright_spec l[i] _ (hln _ (List.getElem_mem hil)).1).mono (fun v w' h => h)))) ?_
                refine WD.p rfl (fun e w hR hh => by obtain ⟨h80, -⟩ := hh; exact SG.n (o_not' h80 ⟨rfl, Only.refl No _⟩)) ?_
                refine WD.p rfl (fun e w hR hh => by obtain ⟨h81, -⟩ := hh; exact SG.n (o_mvh h81 ⟨rfl, Only.refl No _⟩)) ?_
                refine WD.p rfl (fun e w hR hh => by obtain ⟨h82, h6, -⟩ := hh; rw [← hwd] at hR; exact SG.s h82 (by simp [hrgt]) ⟨rfl, Only.refl No _⟩) ?_
                refine WD.p rfl (fun e w hR hh => by obtain ⟨h82, h4, -⟩ := hh; exact SG.s h82 (by simp [hrgt]) ⟨rfl, Only.refl No _⟩) ?_
                refine WD.p rfl (fun e w hR hh => by obtain ⟨h82, h7, -⟩ := hh; exact SG.s h82 (by simp [hrgt]) ⟨rfl, Only.refl No _⟩) ?_
                refine WD.p rfl (fun e w hR hh => by obtain ⟨h85, h84, h82, -⟩ := hh; exact SG.s h82 (by simp [hrgt]) ⟨rfl, Only.refl No _⟩) ?_
                refine WD.p rfl (fun e w hR hh => by obtain ⟨h86, h82, -⟩ := hh; exact SG.s h82 (by simp [hrgt]) ⟨rfl, Only.refl No _⟩) ?_
                refine WD.p rfl (fun e w hR hh => by obtain ⟨h87, h82, -⟩ := hh; rw [← hwd] at hR; exact SG.s h82 (by simp [hrgt]) ⟨rfl, Only.refl No _⟩) ?_
                refine WD.p rfl (fun e w hR hh => by obtain ⟨h88, h83, h82, -⟩ := hh; exact SG.s h82 (by simp [hrgt]) ⟨rfl, Only.refl No _⟩) ?_
                refine WD.p rfl (fun e w hR hh => by obtain ⟨h89, h82, -⟩ := hh; exact SG.s h82 (by simp [hrgt]) ⟨rfl, Only.refl No _⟩) ?_
                refine WD.p rfl (fun e w hR hh => by obtain ⟨h90, h82, -⟩ := hh; exact SG.n (o_pickT h82 (by simp [hrgt]) ⟨rfl, Only.refl No _⟩)) ?_
                refine WD.p rfl (fun e w hR hh => by obtain ⟨h91, -⟩ := hh; exact SG.n (o_ash h91 ⟨rfl, Only.refl No _⟩)) ?_
                rintro e w hR ⟨h78, h91, h90, h89, h88, h87, h86, h85, h84, h83, h82, h81, h80, h79, h0, h4, h5, h6, h7, -⟩
                rw [← hwd] at hR
                replace hown := own_ext hown hR
                replace hC7 := hR.blk hC7 (fun h => h)
                replace hx := hx.tr hR
                refine W.condT' h78 (rfl) ?_
                refine W.seq ?_
                have hright : rightB l[i] o.kind = false := by rw [rightB_two, hrgt]; rfl
                rw [if_pos hright] at hres2
                refine W.region ?_
                refine WL.c rfl (o_mvh h5 ?_)
                refine WL.c rfl (o_ash (show _ = Value.int _ _ from rfl) ?_)
                refine WL.c rfl (o_ash (show _ = Value.int _ _ from rfl) ?_)
                refine WL.nil ?_
                refine W.ret ?_
                refine ret2v rfl (show _ = Value.int _ _ from rfl) (show _ = Value.int _ _ from rfl) ?_
                rw [hres2]
                exact ⟨rfl, hx⟩
              · skip
                skip
                have hmany : manyB l[i] = false := by simpa using c60
                rw [if_neg (by simp [hmany])] at hres2
                obtain ⟨wd, hwd⟩ : ∃ wd, wd = w.drew := ⟨_, rfl⟩
                have hxd : Ext w wd := hwd ▸ Only.drew w
                replace hown := own_ext hown hxd
                replace hC7 := hxd.blk hC7 (fun h => h)
                replace hx := hx.tr hxd
                refine W.draw (Ext) [(0, fun v _ => v = _), (4, fun v _ => v = _), (5, fun v _ => v = _), (6, fun v _ => v = _), (7, fun v _ => v = _)] rfl (by kernel_rfl) (Only.refl No) (fun _ _ _ h k => h.trans k) ⟨Mono.eq, Mono.eq, Mono.eq, Mono.eq, Mono.eq, trivial⟩ ⟨h0, h4, h5, h6, h7, trivial⟩ ?_
                refine WD.p rfl (fun e w hR hh => by obtain ⟨h6, -⟩ := hh; rw [← hwd] at hR; exact SG.n (o_ldA TI36 rfl h6 (show Cells w c6 0 (exV l[i]) from Cells.of (hR.blk hC7 (fun h => h)) 0 _ (by simp)) rfl ⟨rfl, Only.refl No _⟩)) ?_
                refine WD.p rfl (fun e w hR hh => by obtain ⟨h79, -⟩ := hh; exact SG.n (o_call Tryd.call66 (lc h79 ln) ((rright_spec l[i] _ (hln _ (List.getElem_mem hil)).1).mono (fun v w' h => h)))) ?_
                refine WD.p rfl (fun e w hR hh => by obtain ⟨h80, -⟩ := hh; exact SG.n (o_not' h80 ⟨rfl, Only.refl No _⟩)) ?_
                refine WD.p rfl (fun e w hR hh => by obtain ⟨h81, -⟩ := hh; exact SG.n (o_mvh h81 ⟨rfl, Only.refl No _⟩)) ?_
                refine WD.p rfl (fun e w hR hh => by obtain ⟨h82, h6, -⟩ := hh; rw [← hwd] at hR; exact SG.g h82 (by simp [hrgt]) (o_ldA TI36 rfl h6 (show Cells w c6 0 (exV l[i]) from Cells.of (hR.blk hC7 (fun h => h)) 0 _ (by simp)) rfl ⟨rfl, Only.refl No _⟩)) ?_
                refine WD.p rfl (fun e w hR hh => by obtain ⟨h82, h4, -⟩ := hh; exact SG.g h82 (by simp [hrgt]) (o_mvh h4 ⟨rfl, Only.refl No _⟩)) ?_
                refine WD.p rfl (fun e w hR hh => by obtain ⟨h82, h7, -⟩ := hh; exact SG.g h82 (by simp [hrgt]) (o_mvh h7 ⟨rfl, Only.refl No _⟩)) ?_
                refine WD.p rfl (fun e w hR hh => by obtain ⟨h85, h84, h82, -⟩ := hh; exact SG.g h82 (by simp [hrgt]) (o_ixB (i := S.length) TI111 TI110 h84 h85 (by omega) ⟨rfl, Only.refl No _⟩)) ?_
                refine WD.p rfl (fun e w hR hh => by obtain ⟨h86, h82, -⟩ := hh; exact SG.g h82 (by simp [hrgt]) (o_fa 0 TI110 rfl TI3 rfl h86 ⟨rfl, Only.refl No _⟩)) ?_
                refine WD.p rfl (fun e w hR hh => by obtain ⟨h87, h82, -⟩ := hh; rw [← hwd] at hR; exact SG.g h82 (by simp [hrgt]) (o_ld TI3 rfl h87 (own_cell (own_ext hown hR) (j := 0 + S.length * 2 + 0) (by rw [Nat.zero_add]; exact opsQ_get _ rfl)) ⟨rfl, Only.refl No _⟩)) ?_
                refine WD.p rfl (fun e w hR hh => by obtain ⟨h88, h83, h82, -⟩ := hh; exact SG.g h82 (by simp [hrgt]) (o_call Tryd.call67 (lc h83 (lc h88 ln)) ((placed_spec l[i] o.kind _ (hln _ (List.getElem_mem hil)).2).mono (fun v w' h => h)))) ?_
                refine WD.p rfl (fun e w hR hh => by obtain ⟨h89, h82, -⟩ := hh; exact SG.g h82 (by simp [hrgt]) (o_not' h89 ⟨rfl, Only.refl No _⟩)) ?_
                refine WD.p rfl (fun e w hR hh => by obtain ⟨h90, h82, -⟩ := hh; exact SG.n (o_pickO h82 h90 ⟨rfl, Only.refl No _⟩)) ?_
                refine WD.p rfl (fun e w hR hh => by obtain ⟨h91, -⟩ := hh; exact SG.n (o_ash h91 ⟨rfl, Only.refl No _⟩)) ?_
                rintro e w hR ⟨h78, h91, h90, h89, h88, h87, h86, h85, h84, h83, h82, h81, h80, h79, h0, h4, h5, h6, h7, -⟩
                rw [← hwd] at hR
                replace hown := own_ext hown hR
                replace hC7 := hR.blk hC7 (fun h => h)
                replace hx := hx.tr hR
                refine W.cond h78 (fun c78 => ?_) (fun c78 => ?_)
                · try simp only [decide_eq_true_eq, decide_eq_false_iff_not, Bool.not_eq_true', Bool.not_eq_false', Bool.and_eq_true, Bool.or_eq_true, Bool.and_eq_false_iff, Bool.or_eq_false_iff] at c78
                  have hright : rightB l[i] o.kind = false := by rw [rightB_two, hrgt]; simpa [hrgt] using c78
                  rw [if_pos hright] at hres2
                  refine W.seq ?_
                  refine W.region ?_
                  refine WL.c rfl (o_mvh h5 ?_)
                  refine WL.c rfl (o_ash (show _ = Value.int _ _ from rfl) ?_)
                  refine WL.c rfl (o_ash (show _ = Value.int _ _ from rfl) ?_)
                  refine WL.nil ?_
                  refine W.ret ?_
                  refine ret2v rfl (show _ = Value.int _ _ from rfl) (show _ = Value.int _ _ from rfl) ?_
                  rw [hres2]
                  exact ⟨rfl, hx⟩
                · try simp only [decide_eq_true_eq, decide_eq_false_iff_not, Bool.not_eq_true', Bool.not_eq_false', Bool.and_eq_true, Bool.or_eq_true, Bool.and_eq_false_iff, Bool.or_eq_false_iff] at c78
                  have hright : rightB l[i] o.kind = true := by rw [rightB_two, hrgt]; simpa [hrgt] using c78
                  rw [if_neg (by simp [hright])] at hres2
                  have hkd := rightB_kids hright hmany
                  refine W.skip ?_
                  refine W.seq ?_
                  refine W.region ?_
                  refine WL.c rfl (o_mvh h4 ?_)
                  refine WL.c rfl (o_mvh h7 ?_)
                  refine WL.c rfl (o_ixB (i := S.length) TI111 TI110 rfl rfl (by omega) ?_)
                  refine WL.c rfl (o_fa 1 TI110 rfl TI3 rfl rfl ?_)
                  refine WL.c rfl (o_ld TI3 rfl rfl (own_cell hown (j := 0 + S.length * 2 + 1) (by rw [Nat.zero_add]; exact opsQ_get _ rfl)) ?_)
                  refine WL.c rfl (o_subi rfl rfl (by omega) ?_)
                  refine WL.c rfl (o_ixB (i := S.length) TI111 TI110 rfl rfl (by omega) ?_)
                  refine WL.c rfl (o_fa 1 TI110 rfl TI3 rfl rfl ?_)
                  refine WL.u (o_stRj (i := S.length * 2 + 1) TI3 rfl (by omega) (show _ = Value.int .i64 (o.left - 1) from rfl) rfl hown rfl (by omega) ?_)
                  intro wA hown' hoA hsA
                  replace hown : wA.ownsRow w0.heap.size 110 2 (Value.slice (some ⟨g, 0, none⟩) (S.length + 1) cap) (S.length + 1) (opsQ ({ o with left := o.left - 1 } :: S)) := by rw [← opsQ_set]; exact hown'
                  clear hown'
                  replace hC7 := hoA.blk hC7 (fun hk => hcg (by simpa [Value.ownBlock] using hk))
                  replace hx := hx.trans' hoA (fun _ h => h) (fun k hk he => by have := ob he; omega)
                  have hok3 : OkS ({ o with left := o.left - 1 } :: S) := ⟨hdp, by show 0 ≤ o.left - 1; omega, by show o.left - 1 ≤ 64; omega, hok2⟩
                  refine WL.nil ?_
                  refine W.seq ?_
                  refine W.region ?_
                  refine WL.c rfl (o_fa 5 TI36 rfl TI3 rfl h6 ?_)
                  refine WL.c rfl (o_ld TI3 rfl rfl (cell_of hC7 rfl) ?_)
                  refine WL.c rfl (o_gt rfl rfl ?_)
                  refine WL.nil ?_
                  refine W.cond rfl (fun c103 => ?_) (fun c103 => ?_)
                  · try simp only [decide_eq_true_eq, decide_eq_false_iff_not, Bool.not_eq_true', Bool.not_eq_false', Bool.and_eq_true, Bool.or_eq_true, Bool.and_eq_false_iff, Bool.or_eq_false_iff] at c103
                    have hkp : 0 < l[i].kids := by omega
                    refine W.region ?_
                    refine WL.c rfl (o_mvh h4 ?_)
                    refine WL.c rfl (o_fa 0 TI36 rfl TI3 rfl h6 ?_)
                    refine WL.c rfl (o_ld TI3 rfl rfl (cell_of hC7 rfl) ?_)
                    refine WL.c rfl (o_fa 5 TI36 rfl TI3 rfl h6 ?_)
                    refine WL.c rfl (o_ld TI3 rfl rfl (cell_of hC7 rfl) ?_)
                    refine WL.c rfl (o_bldC (cs := [_, _]) TI110 (Sizes.cons TI3 (Sizes.cons TI3 Sizes.nil)) rfl (lcp (show _ = Value.int _ _ from rfl) (lcp (show _ = Value.int _ _ from rfl) lnp)) rfl rfl ?_)
                    refine WL.apO (w0.heap.size) rfl rfl TI111 TI110 rfl rfl hown (by decide) (by decide) rfl (fun a ha => List.all_eq_true.1 (show List.all _ (fun a => a.oneCell') = true from rfl) a ha) rfl (by rw [maxLen_eq]; omega) (by omega) hx.size ?_
                    intro v111 w111 hown111 ho111 hb111 _
                    have hrow : w111.ownsRow w0.heap.size 110 2 v111 (⟨l[i].kind, l[i].kids, o.deep + 1⟩ :: { o with left := o.left - 1 } :: S).length (opsQ (⟨l[i].kind, l[i].kids, o.deep + 1⟩ :: { o with left := o.left - 1 } :: S)) := by rw [opsQ_cons ⟨l[i].kind, l[i].kids, o.deep + 1⟩]; exact hown111
                    replace ho111 : Only (fun k => (Value.slice (some ⟨g, 0, none⟩) (S.length + 1) cap).ownBlock = some k) wA w111 := ho111
                    replace hx := hx.trans' ho111 (fun _ h => h) (fun k hk he => by have := ob he; omega)
                    have hokN : OkS (⟨l[i].kind, l[i].kids, o.deep + 1⟩ :: { o with left := o.left - 1 } :: S) := ⟨by simp only [List.length_cons]; omega, hkd.1, hkd.2, hok3⟩
                    refine WL.c rfl (o_ash (by first | exact (show _ = Value.slice _ _ _ from rfl) | exact rfl) ?_)
                    refine WL.nil ?_
                    refine W.region ?_
                    refine WL.c rfl (o_mvh h5 ?_)
                    refine WL.c rfl (o_addi rfl rfl (by omega) ?_)
                    refine WL.c rfl (o_ash (show _ = Value.int _ _ from rfl) ?_)
                    refine WL.nil ?_
                    refine ⟨⟨i + 1, _, _, by omega, h0, by first | exact h4 | exact rfl, rfl, hrow, hokN, by simp only [List.length_cons]; omega, ?_, hx⟩, ?_⟩
                    · rw [hres, hlc, chkE_o hpz2, if_neg hdeep, if_neg (by simp [hmany]), if_neg (by simp [hright])]
                      all_goals first | rfl | exact chkE_pz hkz
                    · show l.length - ((i : Int) + 1).toNat < _
                      rw [hm5]; simp [intOf]; omega
                  · try simp only [decide_eq_true_eq, decide_eq_false_iff_not, Bool.not_eq_true', Bool.not_eq_false', Bool.and_eq_true, Bool.or_eq_true, Bool.and_eq_false_iff, Bool.or_eq_false_iff] at c103
                    have hkz : l[i].kids = 0 := by omega
                    have hrow := hown
                    have hokN := hok3
                    refine W.skip ?_
                    refine W.region ?_
                    refine WL.c rfl (o_mvh h5 ?_)
                    refine WL.c rfl (o_addi rfl rfl (by omega) ?_)
                    refine WL.c rfl (o_ash (show _ = Value.int _ _ from rfl) ?_)
                    refine WL.nil ?_
                    refine ⟨⟨i + 1, _, _, by omega, h0, by first | exact h4 | exact rfl, rfl, hrow, hokN, by simp only [List.length_cons]; omega, ?_, hx⟩, ?_⟩
                    · rw [hres, hlc, chkE_o hpz2, if_neg hdeep, if_neg (by simp [hmany]), if_neg (by simp [hright])]
                      all_goals first | rfl | exact chkE_pz hkz
                    · show l.length - ((i : Int) + 1).toNat < _
                      rw [hm5]; simp [intOf]; omega
set_option maxHeartbeats 2000000 in
theorem rcheck_spec (D : List Df) (dv : Value) (V : Nat → Value) (w0 : World) (hD : DefR w0 D dv V) (hlim : DLim D) : Ca Tryd.prog 24 #[.agg #[dv]] w0 (fun r w' => r = rs3 (chkS D) ∧ Ext w0 w') := by
  refine Ca.of Tryd.func24 Tryd.ntmps24 rfl rfl ?_
  refine W.seq ?_
  refine W.region ?_
  refine WL.c rfl (o_boxB rfl ?_)
  intro w1 hC1 hx1 hs1
  have hx := hx1
  replace hC1 : w1.heap[w0.heap.size]? = some (.cells #[dv] 24 (0, 0)) := hC1
  obtain ⟨c1, hc1⟩ : ∃ c, c = w0.heap.size := ⟨_, rfl⟩
  rw [← hc1] at hC1 ⊢
  replace hD := hD.ext hx1
  refine WL.c rfl (o_ash (show _ = Value.int _ _ from rfl) ?_)
  refine WL.c rfl (o_ash (show _ = Value.int _ _ from rfl) ?_)
  refine WL.c rfl (o_ash (show _ = Value.int _ _ from rfl) ?_)
  refine WL.nil ?_
  refine W.seq ?_
  refine W.seq ?_
  refine W.region ?_
  refine WL.c rfl (o_fa 0 TI24 rfl TI22 rfl rfl ?_)
  refine WL.c rfl (o_ld TI22 rfl rfl (cell_of hC1 rfl) ?_)
  refine WL.c rfl (o_lenR TI22 rfl hD.row ?_)
  refine WL.c rfl (o_gt rfl rfl ?_)
  refine WL.nil ?_
  refine W.cond rfl (fun c11 => ?_) (fun c11 => ?_)
  · try simp only [decide_eq_true_eq, decide_eq_false_iff_not, Bool.not_eq_true', Bool.not_eq_false', Bool.and_eq_true, Bool.or_eq_true, Bool.and_eq_false_iff, Bool.or_eq_false_iff] at c11
    have hn : 256 < D.length := by omega
    refine W.seq ?_
    refine W.region ?_
    refine WL.c rfl (o_ash (show _ = Value.int _ _ from rfl) ?_)
    refine WL.c rfl (o_ash (show _ = Value.int _ _ from rfl) ?_)
    refine WL.c rfl (o_ash (show _ = Value.int _ _ from rfl) ?_)
    refine WL.nil ?_
    refine W.ret ?_
    refine ret3v rfl (show _ = Value.int _ _ from rfl) (show _ = Value.int _ _ from rfl) (show _ = Value.int _ _ from rfl) ?_
    exact ⟨by rw [chkS, if_pos hn]; rfl, hx⟩
  · try simp only [decide_eq_true_eq, decide_eq_false_iff_not, Bool.not_eq_true', Bool.not_eq_false', Bool.and_eq_true, Bool.or_eq_true, Bool.and_eq_false_iff, Bool.or_eq_false_iff] at c11
    have hn : ¬ 256 < D.length := by omega
    refine W.skip ?_
    refine W.seq ?_
    refine W.seq ?_
    refine W.region ?_
    refine WL.c rfl (o_ash (show _ = Value.int _ _ from rfl) ?_)
    refine WL.nil ?_
    refine W.block ?_
    refine W.loop (fun e w => ∃ i : Nat, i ≤ D.length ∧ e 1 = .pointer (some ⟨c1, 0, none⟩) ∧ e 5 = .int .i64 (i : Int) ∧ w.heap[c1]? = some (.cells #[dv] 24 (0, 0)) ∧ chkS D = chkA i (D.drop i) ∧ DefR w D dv V ∧ Ext w0 w) (fun e w => D.length - (intOf (e 5)).toNat) ?_ ?_
    · exact ⟨0, Nat.zero_le _, rfl, rfl, hC1, by rw [chkS, if_neg hn]; rfl, hD, hx⟩
    rintro e w ⟨i, hi, h1, h5, hC1, hres, hD, hx⟩
    have hm5 := h5
    refine W.seq ?_
    refine W.seq ?_
    refine W.region ?_
    refine WL.c rfl (o_mvh h5 ?_)
    refine WL.c rfl (o_fa 0 TI24 rfl TI22 rfl h1 ?_)
    refine WL.c rfl (o_ld TI22 rfl rfl (cell_of hC1 rfl) ?_)
    refine WL.c rfl (o_lenR TI22 rfl hD.row ?_)
    refine WL.c rfl (o_lt rfl rfl ?_)
    refine WL.nil ?_
    refine W.cond rfl (fun c16 => ?_) (fun c16 => ?_)
    · try simp only [decide_eq_true_eq, decide_eq_false_iff_not, Bool.not_eq_true', Bool.not_eq_false', Bool.and_eq_true, Bool.or_eq_true, Bool.and_eq_false_iff, Bool.or_eq_false_iff] at c16
      have hil : i < D.length := by omega
      obtain ⟨tb, to_, tc, rfl, htc, hty⟩ := hD.atk hil
      have hdr : D.drop i = D[i] :: D.drop (i + 1) := (List.getElem_cons_drop hil).symm
      have hli := hlim _ (List.getElem_mem hil)
      refine W.skip ?_
      refine W.seq ?_
      refine W.block ?_
      refine W.seq ?_
      refine W.seq ?_
      refine W.region ?_
      refine WL.c rfl (o_fa 0 TI24 rfl TI22 rfl h1 ?_)
      refine WL.c rfl (o_ld TI22 rfl rfl (cell_of hC1 rfl) ?_)
      refine WL.c rfl (o_mvh h5 ?_)
      refine WL.c rfl (o_ixB TI22 TI34 rfl rfl (by omega) ?_)
      refine WL.c rfl (o_fa 0 TI34 rfl TI9 rfl rfl ?_)
      refine WL.c rfl (o_ld TI9 rfl rfl (htc 0 _ rfl) ?_)
      refine WL.c rfl (o_call Tryd.call43 (lc rfl ln) ((rname_spec D[i].name _ hli.1).mono ?_))
      rintro v25 w25 ⟨rfl, rfl⟩
      refine WL.c rfl (o_not' rfl ?_)
      refine WL.nil ?_
      refine W.cond rfl (fun c26 => ?_) (fun c26 => ?_)
      · try simp only [decide_eq_true_eq, decide_eq_false_iff_not, Bool.not_eq_true', Bool.not_eq_false', Bool.and_eq_true, Bool.or_eq_true, Bool.and_eq_false_iff, Bool.or_eq_false_iff] at c26
        have hnm : nameB D[i].name = false := by simpa using c26
        refine W.seq ?_
        refine W.region ?_
        refine WL.c rfl (o_mvh h5 ?_)
        refine WL.c rfl (o_ash (show _ = Value.int _ _ from rfl) ?_)
        refine WL.c rfl (o_ash (show _ = Value.int _ _ from rfl) ?_)
        refine WL.c rfl (o_ash (show _ = Value.int _ _ from rfl) ?_)
        refine WL.nil ?_
        refine W.ret ?_
        refine ret3v rfl (show _ = Value.int _ _ from rfl) (show _ = Value.int _ _ from rfl) (show _ = Value.int _ _ from rfl) ?_
        rw [hres, hdr, chkA_cons, if_pos hnm]
        exact ⟨rfl, hx⟩
      · try simp only [decide_eq_true_eq, decide_eq_false_iff_not, Bool.not_eq_true', Bool.not_eq_false', Bool.and_eq_true, Bool.or_eq_true, Bool.and_eq_false_iff, Bool.or_eq_false_iff] at c26
        have hnm : nameB D[i].name = true := by simpa using c26
        refine W.skip ?_
        refine W.seq ?_
        refine W.region ?_
        refine WL.c rfl (o_fa 0 TI24 rfl TI22 rfl h1 ?_)
        refine WL.c rfl (o_ld TI22 rfl rfl (cell_of hC1 rfl) ?_)
        refine WL.c rfl (o_mvh h5 ?_)
        refine WL.c rfl (o_ixB TI22 TI34 rfl rfl (by omega) ?_)
        refine WL.c rfl (o_fa 2 TI34 rfl TI32 rfl rfl ?_)
        refine WL.c rfl (o_ld TI32 rfl rfl (htc 2 _ rfl) ?_)
        refine WL.c rfl (o_call Tryd.call44 (lc rfl ln) ((nodes_spec D[i].ty (V i) _ hty hli.2.1 hli.2.2).mono ?_))
        rintro v35 w35 ⟨rfl, hx35⟩
        replace hx := hx.tr hx35
        replace hD := hD.ext hx35
        replace hC1 := hx35.blk hC1 (fun h => h)
        refine WL.c rfl (o_mvh (by first | exact (show _ = Value.tuple _ from rfl) | exact rfl) ?_)
        refine WL.c rfl (o_ext rfl rfl ?_)
        refine WL.c rfl (o_ext rfl rfl ?_)
        refine WL.c rfl (o_ash (show _ = Value.int _ _ from rfl) ?_)
        refine WL.c rfl (o_ash (show _ = Value.int _ _ from rfl) ?_)
        refine WL.nil ?_
        refine W.seq ?_
        refine W.region ?_
        refine WL.c rfl (o_mvh (show _ = Value.int _ _ from rfl) ?_)
        refine WL.c rfl (o_ne rfl rfl ?_)
        refine WL.nil ?_
        refine W.cond rfl (fun c39 => ?_) (fun c39 => ?_)
        · try simp only [decide_eq_true_eq, decide_eq_false_iff_not, Bool.not_eq_true', Bool.not_eq_false', Bool.and_eq_true, Bool.or_eq_true, Bool.and_eq_false_iff, Bool.or_eq_false_iff] at c39
          have hce : ¬ (chkT D[i].ty).2 = 0 := by omega
          refine W.seq ?_
          refine W.region ?_
          refine WL.c rfl (o_mvh h5 ?_)
          refine WL.c rfl (o_mvh (show _ = Value.int _ _ from rfl) ?_)
          refine WL.c rfl (o_mvh (show _ = Value.int _ _ from rfl) ?_)
          refine WL.c rfl (o_ash (show _ = Value.int _ _ from rfl) ?_)
          refine WL.c rfl (o_ash (show _ = Value.int _ _ from rfl) ?_)
          refine WL.c rfl (o_ash (show _ = Value.int _ _ from rfl) ?_)
          refine WL.nil ?_
          refine W.ret ?_
          refine ret3v rfl (show _ = Value.int _ _ from rfl) (show _ = Value.int _ _ from rfl) (show _ = Value.int _ _ from rfl) ?_
          rw [hres, hdr, chkA_cons, if_neg (by simp [hnm]), if_neg hce]
          exact ⟨rfl, hx⟩
        · try simp only [decide_eq_true_eq, decide_eq_false_iff_not, Bool.not_eq_true', Bool.not_eq_false', Bool.and_eq_true, Bool.or_eq_true, Bool.and_eq_false_iff, Bool.or_eq_false_iff] at c39
          have hce : (chkT D[i].ty).2 = 0 := by omega
          refine W.skip ?_
          refine W.region ?_
          refine WL.c rfl (o_mvh h5 ?_)
          refine WL.c rfl (o_addi rfl rfl (by omega) ?_)
          refine WL.c rfl (o_ash (show _ = Value.int _ _ from rfl) ?_)
          refine WL.nil ?_
          refine ⟨⟨i + 1, by omega, h1, rfl, hC1, ?_, hD, hx⟩, ?_⟩
          · rw [hres, hdr, chkA_cons, if_neg (by simp [hnm]), if_pos hce]
          · show D.length - ((i : Int) + 1).toNat < _
            rw [hm5]; simp [intOf]; omega
    · try simp only [decide_eq_true_eq, decide_eq_false_iff_not, Bool.not_eq_true', Bool.not_eq_false', Bool.and_eq_true, Bool.or_eq_true, Bool.and_eq_false_iff, Bool.or_eq_false_iff] at c16
      have hil : i = D.length := by omega
      rw [hil, List.drop_length, chkA_nil] at hres
      refine W.exit ?_
      refine W.seq ?_
      refine W.region ?_
      refine WL.c rfl (o_ash (show _ = Value.int _ _ from rfl) ?_)
      refine WL.c rfl (o_ash (show _ = Value.int _ _ from rfl) ?_)
      refine WL.c rfl (o_ash (show _ = Value.int _ _ from rfl) ?_)
      refine WL.nil ?_
      refine W.ret ?_
      refine ret3v rfl (show _ = Value.int _ _ from rfl) (show _ = Value.int _ _ from rfl) (show _ = Value.int _ _ from rfl) ?_
      rw [hres]
      exact ⟨rfl, hx⟩
end Go.Proofs.YtanimeifmicmoaaDoor

set_option linter.unusedSimpArgs false
set_option linter.unusedVariables false
namespace Go.Vc
open Go Go.RowKit Go.ChangeShapes Go.WideShapes

theorem addr_add (a : Addr) (m k : Nat) : (a.add m).add k = a.add (m + k) := by
  unfold Addr.add
  by_cases hm : m = 0 <;> by_cases hk : k = 0 <;> simp [hm, hk, Nat.add_assoc]

theorem list_of {α : Type} (p : Nat → α → Prop) : ∀ n, (∀ i, i < n → ∃ o, p i o) → ∃ os : List α, os.length = n ∧ ∀ i (h : i < os.length), p i os[i]
  | 0, _ => ⟨[], rfl, fun i h => by simp at h⟩
  | n + 1, h => by
    obtain ⟨os, h1, h2⟩ := list_of p n (fun i hi => h i (by omega))
    obtain ⟨o, ho⟩ := h n (by omega)
    refine ⟨os ++ [o], by simp [h1], fun i hi => ?_⟩
    by_cases e : i < os.length
    · rw [List.getElem_append_left e]; exact h2 i e
    · simp at hi
      have e2 : i = n := by omega
      subst e2
      rw [List.getElem_append_right (by omega)]
      simpa [h1] using ho
theorem flatMap_get {α : Type} {cells : α → List Value} {s : Nat} (hlen : ∀ o, (cells o).length = s) : ∀ (os : List α) (idx : Nat) (v : Value), (os.flatMap cells)[idx]? = some v → ∃ i j, ∃ h : i < os.length, idx = i * s + j ∧ (cells os[i])[j]? = some v
  | [], idx, v, h => by simp at h
  | o :: os, idx, v, h => by
    rw [List.flatMap_cons] at h
    by_cases e : idx < s
    · rw [List.getElem?_append_left (by rw [hlen]; exact e)] at h
      exact ⟨0, idx, by simp, by omega, h⟩
    · rw [List.getElem?_append_right (by rw [hlen]; omega), hlen] at h
      obtain ⟨i, j, hi, h1, h2⟩ := flatMap_get hlen os (idx - s) v h
      refine ⟨i + 1, j, by simp; omega, ?_, by simpa using h2⟩
      rw [Nat.add_mul]; omega
theorem weightsAll_mem {H : Type} {P : Program} {e : TypeId} : ∀ {l : List (DataW H)} {d : DataW H} {n : Nat}, d ∈ l → n ∈ d.weights P e → n ∈ DataW.weightsAll P e l
  | d0 :: l, d, n, hd, hn => by
    simp only [DataW.weightsAll, List.mem_append]
    rcases List.mem_cons.1 hd with rfl | hd
    · exact .inl hn
    · exact .inr (weightsAll_mem hd hn)
/-- its weights are within reach -/
def Small {H : Type} (P : Program) (t : TypeId) (d : DataW H) : Prop := ∀ n ∈ d.weights P t, n ≤ reachBytes
theorem Small.top {H : Type} {P : Program} {ts : List TypeId} {ds : List (DataW H)} {j : Nat} {t : TypeId} {d : DataW H} (h : (DataW.weightsEach P ts ds).all (· ≤ reachBytes) = true) (ht : ts[j]? = some t) (hd : ds[j]? = some d) : Small P t d := fun n hn => by
  have := List.all_eq_true.1 h _ (DataW.weights_mem_each ht hd n hn)
  simpa using this
theorem Small.elem {H : Type} {P : Program} {t e : TypeId} {elems spare : List (DataW H)} {d : DataW H} (h : Small P t (.slice elems spare)) (hu : P.underlying t = some (.slice e)) (hd : d ∈ elems) : Small P e d := fun n hn =>
  h n (by simp only [DataW.weights, hu]; exact List.mem_cons_of_mem _ (List.mem_append_left _ (weightsAll_mem hd hn)))
theorem Small.size {H : Type} {P : Program} {t e : TypeId} {elems spare : List (DataW H)} (h : Small P t (.slice elems spare)) (hu : P.underlying t = some (.slice e)) : (elems.length + spare.length) * P.bytesOf e ≤ reachBytes :=
  h _ (by simp only [DataW.weights, hu]; exact List.mem_cons_self ..)
theorem Small.part {H : Type} {P : Program} {t u : TypeId} {fs : Array Field} {parts : List (DataW H)} {i : Nat} {d : DataW H} (h : Small P t (.agg parts)) (hu : P.underlying t = some (.struct fs)) (hf : (fs.toList.map (·.type))[i]? = some u) (hd : parts[i]? = some d) : Small P u d := fun n hn =>
  h n (by simp only [DataW.weights, hu]; exact DataW.weights_mem_each hf hd n hn)
section
variable {H : Type} {enc : TypeId × Value → H} {P : Program} {W : World} {held : Bool}
theorem open_struct_len {t : TypeId} {fs : Array Field} {s : Nat} (hu : P.underlying t = some (.struct fs)) (hs : P.cellsOf t = s) {fuel : Nat} {cs : List Value} {x : DataW H × List MemPlace} (h : DataW.trod enc P W 0 (fun _ => true) held fuel t cs = some x) : cs.length = s := by
  obtain ⟨xs, n, -, -, h1, -⟩ := DataW.trod_struct hu h
  rw [h1, hs]
end
end Go.Vc

set_option linter.unusedSimpArgs false
set_option linter.unusedVariables false
set_option maxRecDepth 100000
namespace Go.Proofs.YtanimeifmicmoaaDoor
open Go Go.Vc Go.RowKit Go.Proofs

theorem seven_cells {cs : List Value} (h : cs.length = 7) : ∃ a b c d e f g, cs = [a, b, c, d, e, f, g] := by
  match cs, h with
  | [a, b, c, d, e, f, g], _ => exact ⟨a, b, c, d, e, f, g, rfl⟩
theorem three_cells {cs : List Value} (h : cs.length = 3) : ∃ a b c, cs = [a, b, c] := by
  match cs, h with
  | [a, b, c], _ => exact ⟨a, b, c, rfl⟩
theorem str_list {s : ByteArray} : Value.string s = st s.data.toList := by
  cases s; simp [st]
theorem size_list {s : ByteArray} (h : s.size ≤ maxLen) : s.data.toList.length ≤ 9223372036854775807 := by
  rw [maxLen_eq] at h; simpa using h
def ExOk (x : Ex) : Prop := x.name.length ≤ 9223372036854775807 ∧ x.label.length ≤ 9223372036854775807
section
variable {H : Type} {enc : TypeId × Value → H} {W : World} {held : Bool}
abbrev DfV := Df × Value
def dfV (o : DfV) : List Value := dcell o.1 o.2
end
def setE (D : List Df) (d n : Nat) (x : Ex) : List Df := D.set d { D.getD d df0 with ty := (tyD D d).set n x }
theorem setE_len (D : List Df) (d n : Nat) (x : Ex) : (setE D d n x).length = D.length := by rw [setE, List.length_set]
theorem setE_at {D : List Df} {d n : Nat} {x : Ex} (j : Nat) : (setE D d n x).getD j df0 = if j = d ∧ d < D.length then { D.getD d df0 with ty := (tyD D d).set n x } else D.getD j df0 := by
  rw [setE, List.getD_eq_getElem?_getD, List.getElem?_set]
  by_cases h : d = j
  · subst h
    by_cases h2 : d < D.length
    · simp [h2]
    · simp [h2, List.getD_eq_getElem?_getD]
  · rw [if_neg h, if_neg (fun hh => h hh.1.symm), List.getD_eq_getElem?_getD]
theorem Defs.setE {w w' : World} {H : Nat} {D : List Df} {lv : Value} {V : Nat → Value} (h : Defs w H D lv V) {d n : Nat} {x : Ex} (hd : d < D.length) (ho : Only (fun k => (V d).ownBlock = some k) w w')
    (hr : w'.ownsRow H 36 7 (V d) (tyD D d).length (exs ((tyD D d).set n x))) : Defs w' H (setE D d n x) lv V := by
  have hrows : drows (Go.Proofs.YtanimeifmicmoaaDoor.setE D d n x) V = drows D V := by
    rw [drows, drows, setE_len]
    refine dfm_congr fun j hj => ?_
    rw [setE_at]
    split
    · rename_i hh; rw [hh.1]; rfl
    · rfl
  refine ⟨by rw [hrows, setE_len]; exact own_only h.row ho (fun k hk hF => own_row_off h.row (h.tys.row d hd) (by decide) k hF hk), ?_⟩
  rw [setE_len]
  refine (h.tys.set hd ho hr).congr (fun _ _ => rfl) (fun j hj => ?_) (fun j hj => ?_)
  · rw [tyD, setE_at]
    by_cases e : j = d
    · rw [if_pos ⟨e, hd⟩, if_pos e, List.length_set]
    · rw [if_neg (fun hh => e hh.1), if_neg e]; rfl
  · rw [tyD, setE_at]
    by_cases e : j = d
    · rw [if_pos ⟨e, hd⟩, if_pos e]
    · rw [if_neg (fun hh => e hh.1), if_neg e]; rfl
theorem DOk.setE {D : List Df} {d n : Nat} {x : Ex} (h : DOk D) (hx : ExOk x) : DOk (setE D d n x) := by
  have hm : ∀ e ∈ Go.Proofs.YtanimeifmicmoaaDoor.setE D d n x, e ∈ D ∨ (d < D.length ∧ e = { D.getD d df0 with ty := (tyD D d).set n x }) := by
    intro e he
    by_cases hd : d < D.length
    · rcases List.mem_or_eq_of_mem_set he with h1 | h1
      · exact .inl h1
      · exact .inr ⟨hd, h1⟩
    · rw [Go.Proofs.YtanimeifmicmoaaDoor.setE, List.set_eq_of_length_le (by omega)] at he
      exact .inl he
  have hmem : d < D.length → D.getD d df0 ∈ D := fun hd => by rw [getD_at hd]; exact List.getElem_mem hd
  refine ⟨by rw [setE_len]; exact h.len, fun e he => ?_, fun e he => ?_, fun e he y hy => ?_⟩
  · rcases hm e he with h1 | ⟨hd, rfl⟩
    · exact h.ty e h1
    · show ((tyD D d).set n x).length * 72 ≤ _
      rw [List.length_set]; exact h.ty _ (hmem hd)
  · rcases hm e he with h1 | ⟨hd, rfl⟩
    · exact h.nm e h1
    · exact h.nm (D.getD d df0) (hmem hd)
  · rcases hm e he with h1 | ⟨hd, rfl⟩
    · exact h.ex e h1 y hy
    · rcases List.mem_or_eq_of_mem_set hy with h2 | rfl
      · exact h.ex (D.getD d df0) (hmem hd) y h2
      · exact hx

end Go.Proofs.YtanimeifmicmoaaDoor

set_option linter.unusedSimpArgs false
set_option linter.unusedVariables false
set_option maxRecDepth 100000
namespace Go.Proofs.YtanimeifmicmoaaDoor
open Go Go.Vc Go.RowKit Go.Proofs

/-- definitions whose places rise -/
def RiD (T : List Tk) : Int → List Df → Prop
  | _, [] => True
  | lo, d :: ds => lo ≤ d.at_ ∧ 0 ≤ d.at_ ∧ d.at_ < T.length ∧ (tkA T d.at_.toNat).kind = 1 ∧ (tkA T d.at_.toNat).text = d.name ∧ (∃ hi : Int, hi ≤ T.length ∧ Rise (d.at_ + 1) d.ty hi ∧ RiD T hi ds) ∧ ∀ y ∈ d.ty, NdOk T y
theorem RiD.lo {T : List Tk} {a b : Int} {D : List Df} (h : RiD T b D) (hab : a ≤ b) : RiD T a D := by
  cases D with
  | nil => trivial
  | cons d ds => exact ⟨Int.le_trans hab h.1, h.2⟩
/-- lengths -/
theorem Rise.len {L : List Ex} : ∀ {a b : Int}, Rise a L b → (L.length : Int) ≤ b - a := by
  induction L with
  | nil => intro a b h; have : a ≤ b := h; simp; omega
  | cons y l ih => intro a b h; have h1 := ih h.2; have h2 := h.1; rw [List.length_cons]; omega
end Go.Proofs.YtanimeifmicmoaaDoor

set_option linter.unusedSimpArgs false
set_option linter.unusedVariables false
set_option maxRecDepth 100000
namespace Go.Proofs.YtanimeifmicmoaaDoor
open Go Go.Vc Go.RowKit Go.Proofs
/-- the same, further behind -/
def shiftT (k : Nat) (t : Tk) : Tk := ⟨t.kind, t.text, t.n, k + t.at_, k + t.fin⟩
theorem runL_shift (p : UInt8 → Bool) (xs : List UInt8) (k j : Nat) : runL p xs (k + j) = k + runL p (xs.drop k) j := by
  unfold runL
  rw [List.drop_drop]; omega
theorem sub_shift (xs : List UInt8) (k l h : Nat) : sub xs (k + l) (k + h) = sub (xs.drop k) l h := by
  unfold sub
  rw [← List.drop_drop, List.drop_take, Nat.add_sub_cancel_left]
theorem oneL_shift (xs : List UInt8) (k j : Nat) (h : k + j < xs.length) (h' : j < (xs.drop k).length) : (oneL xs (k + j) h).1 = (oneL (xs.drop k) j h').1 ∧ ((oneL (xs.drop k) j h').1 = 0 → (oneL xs (k + j) h).2 = shiftT k (oneL (xs.drop k) j h').2) := by
  have he : (xs.drop k)[j] = xs[k + j] := by simp
  unfold oneL
  rw [he]
  by_cases h1 : letB xs[k + j] = true
  · rw [if_pos h1, if_pos h1, runL_shift, sub_shift]
    by_cases h2 : 32 < k + runL goeB (xs.drop k) j - (k + j)
    · rw [if_pos h2, if_pos (by omega)]; exact ⟨rfl, fun h => by simp at h⟩
    · rw [if_neg h2, if_neg (by omega)]; exact ⟨rfl, fun _ => rfl⟩
  · rw [if_neg h1, if_neg h1]
    by_cases h2 : digB xs[k + j] = true
    · rw [if_pos h2, if_pos h2, runL_shift, sub_shift]; exact ⟨rfl, fun _ => rfl⟩
    · rw [if_neg h2, if_neg h2]
      by_cases h3 : markB xs[k + j] = true
      · rw [if_pos h3, if_pos h3, Nat.add_assoc, sub_shift]; exact ⟨rfl, fun _ => rfl⟩
      · rw [if_neg h3, if_neg h3]; exact ⟨rfl, fun h => by simp at h⟩


def Pr.sh {α β : Type} (m : Nat) (g : α → β) : Pr α → Pr β
  | .ok a i => .ok (g a) (m + i)
  | .bad e i => .bad e (m + i)
theorem bind_sh {α α' β β' : Type} {m : Nat} {g : α → α'} {h : β → β'} {r : Pr α} {F : α → Nat → Pr β} {F' : α' → Nat → Pr β'} (hF : ∀ a i, r = .ok a i → F' (g a) (m + i) = (F a i).sh m h) : (r.sh m g).bind F' = (r.bind F).sh m h := by
  cases r with
  | ok a i => exact hF a i rfl
  | bad e i => rfl
/-- tokens that differ in places alone, from the m-th on -/
structure Like (m : Nat) (T T2 : List Tk) : Prop where
  len : T.length = m + T2.length
  tok : ∀ i, (tkA T (m + i)).kind = (tkA T2 i).kind ∧ (tkA T (m + i)).text = (tkA T2 i).text ∧ (tkA T (m + i)).n = (tkA T2 i).n
def shE (m : Nat) (x : Ex) : Ex := if x.at_ < 0 then x else { x with at_ := x.at_ + m }
theorem Like.eqT {m : Nat} {T T2 : List Tk} (h : Like m T T2) (i k : Nat) (s : List UInt8) : isT (tkA T (m + i)) k s = isT (tkA T2 i) k s := by
  unfold isT; rw [(h.tok i).1, (h.tok i).2.1]
theorem Like.eqN {m : Nat} {T T2 : List Tk} (h : Like m T T2) (i : Nat) : nmT (tkA T (m + i)) = nmT (tkA T2 i) := by
  unfold nmT; rw [(h.tok i).1, (h.tok i).2.1]
theorem Like.bgn {m : Nat} {T T2 : List Tk} (h : Like m T T2) (i : Nat) : bgnT (tkA T (m + i)) = bgnT (tkA T2 i) := by
  unfold bgnT; rw [(h.tok i).1, (h.tok i).2.1]
theorem Like.want {m : Nat} {T T2 : List Tk} (h : Like m T T2) (i k : Nat) (s : List UInt8) : wantT T (m + i) k s = (wantT T2 i k s).sh m id := by
  unfold wantT; rw [h.eqT]; split <;> rfl
theorem Like.num {m : Nat} {T T2 : List Tk} (h : Like m T T2) (i : Nat) : numT T (m + i) = (numT T2 i).sh m id := by
  unfold numT; rw [(h.tok i).1, (h.tok i).2.2]; split <;> rfl
theorem Like.name {m : Nat} {T T2 : List Tk} (h : Like m T T2) (i : Nat) : nameT T (m + i) = (nameT T2 i).sh m id := by
  unfold nameT; rw [h.eqN, (h.tok i).2.1]; split <;> rfl
theorem shE_0 {m i : Nat} {x : Ex} (h : x.at_ = (i : Int)) : shE m x = { x with at_ := ((m + i : Nat) : Int) } := by
  obtain ⟨k, n, nm, l, t, kd, a⟩ := x
  have h : a = (i : Int) := h
  have h2 : ¬ a < 0 := by omega
  simp only [shE, h2, if_false, Ex.mk.injEq, true_and]; omega
theorem shE_exM {m : Nat} : shE m exM = exM := rfl
theorem shE_atE {m i : Nat} {x : Ex} : atE (m + i) (shE m x) = shE m (atE i x) := by
  obtain ⟨k, n, nm, l, t, kd, a⟩ := x
  by_cases h : a < 0
  · have h2 : ¬ (i : Int) < 0 := by omega
    simp only [shE, atE, h, h2, if_true, if_false, Ex.mk.injEq, true_and]; omega
  · have h2 : ¬ a + (m : Int) < 0 := by omega
    simp only [shE, atE, h, h2, if_true, if_false]
theorem shE_lf {m : Nat} {x : Ex} {a b : Int} : (shE m x).lf a b = shE m (x.lf a b) := by unfold shE Ex.lf; split <;> rfl
theorem shE_vec {m : Nat} {x : Ex} {b : Bool} {n : Int} : (shE m x).vec b n = shE m (x.vec b n) := by
  obtain ⟨kd, n', nm, l, t, kk, a⟩ := x
  by_cases h : a < 0 <;> simp [shE, Ex.vec, h]
theorem shE_opt {m : Nat} {x : Ex} : (shE m x).opt = shE m x.opt := by unfold shE Ex.opt; split <;> rfl
theorem shE_br {m : Nat} {x : Ex} {u : Bool} {n : Int} : (shE m x).br u n = shE m (x.br u n) := by
  obtain ⟨kd, n', nm, l, t, kk, a⟩ := x
  by_cases h : a < 0 <;> simp [shE, Ex.br, h]
theorem shE_nm {m : Nat} {x : Ex} {s : List UInt8} : (shE m x).nm s = shE m (x.nm s) := by unfold shE Ex.nm; split <;> rfl
theorem Like.head {m : Nat} {T T2 : List Tk} (h : Like m T T2) (u full : Bool) (i : Nat) : headT T u full (m + i) { ex0 with at_ := ((m + i : Nat) : Int) } = (headT T2 u full i { ex0 with at_ := (i : Int) }).sh m (shE m) := by
  cases u
  · rw [headT_s, headT_s, h.eqN]
    split
    · rfl
    · rw [h.name]
      refine bind_sh fun a j hh => ?_
      show Pr.ok _ _ = Pr.ok _ _
      rw [shE_0 (i := i) rfl]; rfl
  · rw [headT_u, headT_u, (h.tok i).1]
    split
    · rfl
    · rw [h.num]
      refine bind_sh fun a j hh => ?_
      show Pr.ok _ _ = Pr.ok _ _
      rw [shE_0 (i := i) rfl]; rfl
theorem Like.rows {m : Nat} {T T2 : List Tk} (h : Like m T T2) {u : Bool} {i0 : Nat} {E E2 : Nat → Ex → Pr (List Ex)} (hE : ∀ i x, i0 ≤ i → i ≤ T2.length → E (m + i) (shE m x) = (E2 i x).sh m (List.map (shE m))) (hE2 : ∀ i x N j, E2 i x = .ok N j → i < j ∧ j ≤ T2.length) :
    ∀ (g g2 i k : Nat), i0 ≤ i → i ≤ T2.length → T2.length + 2 ≤ g + i → T2.length + 2 ≤ g2 + i → rowsT E T u g (m + i) k = (rowsT E2 T2 u g2 i k).sh m (fun r => (r.1.map (shE m), r.2))
  | 0, g2, i, k, h0, hi, hg, hg2 => by omega
  | g + 1, 0, i, k, h0, hi, hg, hg2 => by omega
  | g + 1, g2 + 1, i, k, h0, hi, hg, hg2 => by
    rw [rowsT_s, rowsT_s, h.head]
    refine bind_sh fun y i1 h1 => ?_
    obtain ⟨rfl, hi1⟩ := headT_le h1
    rw [h.want]
    refine bind_sh fun _ i2 h2 => ?_
    obtain ⟨rfl, hi2⟩ := wantT_le (by decide) h2
    rw [hE _ _ (by omega) (by omega)]
    refine bind_sh fun N j h3 => ?_
    obtain ⟨b1, b2⟩ := hE2 _ _ _ _ h3
    rw [h.eqT]
    split
    · rename_i hm
      have hm2 := isT_lt (by decide) hm
      rw [show m + j + 1 = m + (j + 1) by omega, Like.rows h hE hE2 g g2 (j + 1) (k + 1) (by omega) (by omega) (by omega) (by omega)]
      refine bind_sh fun r j2 h4 => ?_
      show Pr.ok (_, _) _ = Pr.ok (List.map _ (_ ++ _), _) _
      rw [List.map_append]
    · rw [h.want]
      exact bind_sh fun _ j2 h4 => rfl
theorem Like.expr {m : Nat} {T T2 : List Tk} (h : Like m T T2) : ∀ (f f2 i : Nat) (x : Ex) (deep : Nat), i ≤ T2.length → T2.length + 2 ≤ f + i → T2.length + 2 ≤ f2 + i → exprT T f (m + i) (shE m x) deep = (exprT T2 f2 i x deep).sh m (List.map (shE m))
  | 0, f2, i, x, deep, hi, hf, hf2 => by omega
  | f + 1, 0, i, x, deep, hi, hf, hf2 => by omega
  | f + 1, f2 + 1, i, x, deep, hi, hf, hf2 => by
    rw [exprT_s, exprT_s, h.bgn, (h.tok i).2.1]
    split
    · rfl
    · rename_i hb
      have hil : i < T2.length := tkA_kind (by decide) (bgn_kind (by simpa using hb))
      split
      · rfl
      · split
        · show Pr.ok _ _ = Pr.ok _ _
          rw [shE_atE, shE_lf]; rfl
        · split
          · rw [show m + i + 1 = m + (i + 1) by omega, h.want]
            refine bind_sh fun _ i1 h1 => ?_
            obtain ⟨rfl, hi1⟩ := wantT_le (by decide) h1
            rw [← shE_exM (m := m), Like.expr h f f2 _ _ _ (by omega) (by omega) (by omega)]
            refine bind_sh fun N i2 h2 => ?_
            obtain ⟨b1, b2⟩ := expr_lt h2
            rw [h.want]
            refine bind_sh fun _ i3 h3 => ?_
            rw [h.num]
            refine bind_sh fun n i4 h4 => ?_
            rw [h.want]
            refine bind_sh fun _ i5 h5 => ?_
            show Pr.ok _ _ = Pr.ok _ _
            rw [shE_atE, shE_vec]; rfl
          · split
            · rw [show m + i + 1 = m + (i + 1) by omega, h.want]
              refine bind_sh fun _ i1 h1 => ?_
              obtain ⟨rfl, hi1⟩ := wantT_le (by decide) h1
              rw [← shE_exM (m := m), Like.expr h f f2 _ _ _ (by omega) (by omega) (by omega)]
              refine bind_sh fun N i2 h2 => ?_
              rw [h.want]
              refine bind_sh fun _ i3 h3 => ?_
              show Pr.ok _ _ = Pr.ok _ _
              rw [shE_atE, shE_opt]; rfl
            · have hrow : ∀ (u : Bool), (((wantT T (m + i + 1) 3 [123]).bind fun _ j => rowsT (fun i x => exprT T f i x (deep + 1)) T u f j 0).bind fun r j => (.ok ((atE (m + i) (shE m x)).br u (r.2 : Nat) :: r.1) j : Pr (List Ex))) =
                  (((wantT T2 (i + 1) 3 [123]).bind fun _ j => rowsT (fun i x => exprT T2 f2 i x (deep + 1)) T2 u f2 j 0).bind fun r j => (.ok ((atE i x).br u (r.2 : Nat) :: r.1) j : Pr (List Ex))).sh m (List.map (shE m)) := by
                intro u
                rw [show m + i + 1 = m + (i + 1) by omega, h.want]
                have := bind_sh (m := m) (g := id) (h := fun r : List Ex × Nat => (r.1.map (shE m), r.2)) (r := wantT T2 (i + 1) 3 [123]) (F := fun _ j => rowsT (fun i x => exprT T2 f2 i x (deep + 1)) T2 u f2 j 0) (F' := fun _ j => rowsT (fun i x => exprT T f i x (deep + 1)) T u f j 0) (fun _ i1 h1 => by
                  obtain ⟨rfl, hi1⟩ := wantT_le (by decide) h1
                  exact Like.rows h (i0 := i + 1 + 1) (fun i x h0 hi => Like.expr h f f2 i x _ hi (by omega) (by omega)) (fun i x N j hh => expr_lt hh) f f2 _ _ (Nat.le_refl _) (by omega) (by omega) (by omega))
                rw [this]
                refine bind_sh fun r j h2 => ?_
                show Pr.ok _ _ = Pr.ok _ _
                rw [shE_atE, shE_br]; rfl
              split
              · exact hrow true
              · split
                · exact hrow false
                · show Pr.ok _ _ = Pr.ok _ _
                  rw [shE_atE, shE_nm]; rfl
def shD (m : Nat) (d : Df) : Df := ⟨d.name, d.at_ + m, d.ty.map (shE m)⟩
theorem Like.defs {m : Nat} {T T2 : List Tk} (h : Like m T T2) : ∀ (g g2 i k k2 : Nat), i ≤ T2.length → T2.length + 2 ≤ g + i → T2.length + 2 ≤ g2 + i → k2 ≤ k → k ≤ 256 → (∃ j, defsT T g (m + i) k = .bad 5 j ∧ ∀ D e, defsT T2 g2 i k2 = .ok D e → 256 < k + D.length) ∨ defsT T g (m + i) k = (defsT T2 g2 i k2).sh m (List.map (shD m))
  | 0, g2, i, k, k2, hi, hf, hf2, hk, hkm => by omega
  | g + 1, 0, i, k, k2, hi, hf, hf2, hk, hkm => by omega
  | g + 1, g2 + 1, i, k, k2, hi, hf, hf2, hk, hkm => by
    have hlen := h.len
    rw [defsT_s, defsT_s]
    by_cases hi2 : T2.length ≤ i
    · rw [if_pos (by omega), if_pos hi2]; exact .inr rfl
    · rw [if_neg (by omega), if_neg hi2, h.eqT]
      by_cases hnm : k = 256 ∧ isT (tkA T2 i) 1 [116, 121, 112, 101] = true
      · rw [if_pos hnm]
        refine .inl ⟨_, rfl, fun D e hD => ?_⟩
        split at hD
        · cases hD
        · obtain ⟨_, i1, h1, hD⟩ := bind_ok hD
          obtain ⟨_, i1, h1, hD⟩ := bind_ok hD
          obtain ⟨_, i1, h1, hD⟩ := bind_ok hD
          obtain ⟨_, i1, h1, hD⟩ := bind_ok hD
          obtain ⟨_, i1, h1, hD⟩ := bind_ok hD
          obtain ⟨_, i1, h1, hD⟩ := bind_ok hD
          cases hD
          rw [List.length_cons]; omega
      · rw [if_neg hnm, if_neg (fun hh => hnm ⟨by omega, hh.2⟩), h.want]
        rcases hw : wantT T2 i 1 [116, 121, 112, 101] with ⟨_, i1⟩ | ⟨e, j⟩
        · obtain ⟨rfl, hi1⟩ := wantT_le (by decide) hw
          simp only [Pr.sh, Pr.bind_ok]
          rw [show m + (i + 1) = m + (i + 1) from rfl, h.name]
          rcases hn : nameT T2 (i + 1) with ⟨sn, i2⟩ | ⟨e, j⟩
          · obtain ⟨g2', -, rfl⟩ := nameT_ok hn
            have hi2' : i + 1 < T2.length := by simp only [nmT, Bool.and_eq_true, decide_eq_true_eq] at g2'; exact tkA_kind (by decide) g2'.1
            simp only [Pr.sh, Pr.bind_ok]
            rw [h.want]
            rcases he : wantT T2 (i + 1 + 1) 3 [61] with ⟨_, i3⟩ | ⟨e, j⟩
            · obtain ⟨rfl, hi3⟩ := wantT_le (by decide) he
              simp only [Pr.sh, Pr.bind_ok]
              have hx := h.expr (T.length + 2) (T2.length + 2) (i + 1 + 1 + 1) exM 0 (by omega) (by omega) (by omega)
              rw [shE_exM] at hx
              rw [hx]
              rcases hN : exprT T2 (T2.length + 2) (i + 1 + 1 + 1) exM 0 with ⟨N, j⟩ | ⟨e, j⟩
              · obtain ⟨b1, b2⟩ := expr_lt hN
                simp only [Pr.sh, Pr.bind_ok]
                rw [h.want]
                rcases hs : wantT T2 j 3 [59] with ⟨_, i5⟩ | ⟨e, j⟩
                · obtain ⟨rfl, hi5⟩ := wantT_le (by decide) hs
                  simp only [Pr.sh, Pr.bind_ok]
                  rcases Like.defs h g g2 (j + 1) (k + 1) (k2 + 1) (by omega) (by omega) (by omega) (by omega) (by
                    rcases Nat.lt_or_ge k 256 with h7 | h7
                    · exact h7
                    · exact absurd ⟨by omega, (wantT_ok hw).1⟩ hnm) with ⟨q, hq, hbig⟩ | hq
                  · refine .inl ⟨q, by rw [hq]; rfl, fun D e hD => ?_⟩
                    obtain ⟨D', e', h6, hD⟩ := bind_ok hD
                    cases hD
                    have := hbig _ _ h6
                    rw [List.length_cons]; omega
                  · refine .inr ?_
                    rw [hq]
                    refine bind_sh fun D q hD => ?_
                    show Pr.ok (_ :: _) _ = Pr.ok (_ :: _) _
                    congr 2
                    simp only [shD, id, Df.mk.injEq, true_and, and_true]
                    omega
                · exact .inr rfl
              · exact .inr rfl
            · exact .inr rfl
          · exact .inr rfl
        · exact .inr rfl
theorem bind_pre {α β : Type} {n : Nat} {r r2 : Pr α} {F F2 : α → Nat → Pr β} (hne : ∀ e, r2.bind F2 ≠ .bad e n) (hr : (∀ e, r2 ≠ .bad e n) → r = r2) (hF : ∀ a j, r2 = .ok a j → (∀ e, F2 a j ≠ .bad e n) → F a j = F2 a j) : r.bind F = r2.bind F2 := by
  cases r2 with
  | ok a i => rw [hr (fun e h => by cases h)]; exact hF a i rfl hne
  | bad e i => rw [hr (fun e' h => hne e' (by injection h with h1 h2; rw [h1, h2]; rfl))]; rfl
theorem bind_pre2 {α β γ : Type} {n : Nat} {r r2 : Pr α} {F : α → Nat → Pr γ} {F2 : α → Nat → Pr β} {G : α → Nat → Pr γ} (hne : ∀ e, r2.bind F2 ≠ .bad e n) (hr : (∀ e, r2 ≠ .bad e n) → r = r2) (hF : ∀ a j, r2 = .ok a j → (∀ e, F2 a j ≠ .bad e n) → F a j = G a j) : r.bind F = r2.bind G := by
  cases r2 with
  | ok a i => rw [hr (fun e h => by cases h)]; exact hF a i rfl hne
  | bad e i => rw [hr (fun e' h => hne e' (by injection h with h1 h2; rw [h1, h2]; rfl))]; rfl
structure Pre (T T2 : List Tk) : Prop where
  le : T2.length ≤ T.length
  tok : ∀ i, i < T2.length → tkA T i = tkA T2 i
theorem Pre.want {T T2 : List Tk} (h : Pre T T2) {i k : Nat} {s : List UInt8} (hk : 1 ≤ k) (hi : i ≤ T2.length) (hne : ∀ e, wantT T2 i k s ≠ .bad e T2.length) : wantT T i k s = wantT T2 i k s := by
  rcases Nat.lt_or_ge i T2.length with hl | hl
  · unfold wantT; rw [h.tok i hl]
  · have : i = T2.length := by omega
    subst this
    refine absurd ?_ (hne 60)
    unfold wantT
    rw [if_neg (fun hh => by have := isT_lt hk hh; omega)]
theorem Pre.num {T T2 : List Tk} (h : Pre T T2) {i : Nat} (hi : i ≤ T2.length) (hne : ∀ e, numT T2 i ≠ .bad e T2.length) : numT T i = numT T2 i := by
  rcases Nat.lt_or_ge i T2.length with hl | hl
  · unfold numT; rw [h.tok i hl]
  · have : i = T2.length := by omega
    subst this
    refine absurd ?_ (hne 60)
    unfold numT
    rw [if_neg (fun hh => by have := tkA_kind (by decide) hh; omega)]
theorem nmT_lt {T : List Tk} {i : Nat} (h : nmT (tkA T i) = true) : i < T.length := by
  simp only [nmT, Bool.and_eq_true, decide_eq_true_eq] at h; exact tkA_kind (by decide) h.1
theorem Pre.name {T T2 : List Tk} (h : Pre T T2) {i : Nat} (hi : i ≤ T2.length) (hne : ∀ e, nameT T2 i ≠ .bad e T2.length) : nameT T i = nameT T2 i := by
  rcases Nat.lt_or_ge i T2.length with hl | hl
  · unfold nameT; rw [h.tok i hl]
  · have : i = T2.length := by omega
    subst this
    refine absurd ?_ (hne 60)
    unfold nameT
    rw [if_neg (fun hh => by have := nmT_lt hh; omega)]
theorem Pre.head {T T2 : List Tk} (h : Pre T T2) {u full : Bool} {i : Nat} {x : Ex} (hi : i ≤ T2.length) (hne : ∀ e, headT T2 u full i x ≠ .bad e T2.length) : headT T u full i x = headT T2 u full i x := by
  rcases Nat.lt_or_ge i T2.length with hl | hl
  · cases u
    · rw [headT_s, headT_s]; unfold nameT; rw [h.tok i hl]
    · rw [headT_u, headT_u]; unfold numT; rw [h.tok i hl]
  · have : i = T2.length := by omega
    subst this
    cases u
    · refine absurd ?_ (hne 60)
      rw [headT_s, if_neg (fun hh => by have := nmT_lt hh.2; omega)]
      unfold nameT
      rw [if_neg (fun hh => by have := nmT_lt hh; omega)]
      rfl
    · refine absurd ?_ (hne 60)
      rw [headT_u, if_neg (fun hh => by have := tkA_kind (by decide) hh.2; omega)]
      unfold numT
      rw [if_neg (fun hh => by have := tkA_kind (by decide) hh; omega)]
      rfl
theorem Pre.rows {T T2 : List Tk} (h : Pre T T2) {u : Bool} {i0 : Nat} {E E2 : Nat → Ex → Pr (List Ex)} (hE : ∀ i x, i0 ≤ i → i ≤ T2.length → (∀ e, E2 i x ≠ .bad e T2.length) → E i x = E2 i x) (hE2 : ∀ i x N j, E2 i x = .ok N j → i < j ∧ j ≤ T2.length) :
    ∀ (g g2 i k : Nat), i0 ≤ i → i ≤ T2.length → T.length + 2 ≤ g + i → T2.length + 2 ≤ g2 + i → (∀ e, rowsT E2 T2 u g2 i k ≠ .bad e T2.length) → rowsT E T u g i k = rowsT E2 T2 u g2 i k
  | 0, g2, i, k, h0, hi, hg, hg2, hne => by have := h.le; omega
  | g + 1, 0, i, k, h0, hi, hg, hg2, hne => by omega
  | g + 1, g2 + 1, i, k, h0, hi, hg, hg2, hne => by
    rw [rowsT_s] at hne
    rw [rowsT_s, rowsT_s]
    refine bind_pre hne (fun hn => h.head hi hn) fun y i1 h1 hne => ?_
    obtain ⟨rfl, hi1⟩ := headT_le h1
    refine bind_pre hne (fun hn => h.want (by decide) (by omega) hn) fun _ i2 h2 hne => ?_
    obtain ⟨rfl, hi2⟩ := wantT_le (by decide) h2
    refine bind_pre hne (fun hn => hE _ _ (by omega) (by omega) hn) fun N j h3 hne => ?_
    obtain ⟨b1, b2⟩ := hE2 _ _ _ _ h3
    have hjl : j < T2.length := by
      rcases Nat.lt_or_ge j T2.length with hl | hl
      · exact hl
      · exfalso
        have hj : j = T2.length := by omega
        subst hj
        have hf : ∀ {k s}, 1 ≤ k → ¬ isT (tkA T2 T2.length) k s = true := fun hk hh => by have := isT_lt hk hh; omega
        rw [if_neg (hf (by decide))] at hne
        refine hne 60 ?_
        unfold wantT
        rw [if_neg (hf (by decide))]
        rfl
    rw [h.tok j hjl]
    split
    · rename_i hm
      rw [if_pos hm] at hne
      exact bind_pre hne (fun hn => Pre.rows h hE hE2 g g2 (j + 1) (k + 1) (by omega) (by omega) (by omega) (by omega) hn) fun r j2 h4 hne => rfl
    · rename_i hm
      rw [if_neg hm] at hne
      exact bind_pre hne (fun hn => h.want (by decide) b2 hn) fun _ j2 h4 hne => rfl
theorem Pre.expr {T T2 : List Tk} (h : Pre T T2) : ∀ (f f2 i : Nat) (x : Ex) (deep : Nat), i ≤ T2.length → T.length + 2 ≤ f + i → T2.length + 2 ≤ f2 + i → (∀ e, exprT T2 f2 i x deep ≠ .bad e T2.length) → exprT T f i x deep = exprT T2 f2 i x deep
  | 0, f2, i, x, deep, hi, hf, hf2, hne => by have := h.le; omega
  | f + 1, 0, i, x, deep, hi, hf, hf2, hne => by omega
  | f + 1, f2 + 1, i, x, deep, hi, hf, hf2, hne => by
    rw [exprT_s] at hne
    rw [exprT_s, exprT_s]
    have hil : i < T2.length := by
      rcases Nat.lt_or_ge i T2.length with hl | hl
      · exact hl
      · exfalso
        have hj : i = T2.length := by omega
        subst hj
        refine hne 60 ?_
        rw [if_pos]
        cases hb : bgnT (tkA T2 T2.length) with
        | false => rfl
        | true => have := tkA_kind (T := T2) (by decide) (bgn_kind hb); omega
    rw [h.tok i hil]
    split
    · rfl
    · rename_i hb
      rw [if_neg hb] at hne
      split
      · rfl
      · rename_i hd
        rw [if_neg hd] at hne
        split
        · rfl
        · rename_i hl
          rw [hl] at hne
          simp only at hne
          split
          · rename_i hv
            rw [if_pos hv] at hne
            refine bind_pre hne (fun hn => h.want (by decide) (by omega) hn) fun _ i1 h1 hne => ?_
            obtain ⟨rfl, hi1⟩ := wantT_le (by decide) h1
            refine bind_pre hne (fun hn => Pre.expr h f f2 _ _ _ (by omega) (by omega) (by omega) hn) fun N i2 h2 hne => ?_
            obtain ⟨b1, b2⟩ := expr_lt h2
            refine bind_pre hne (fun hn => h.want (by decide) (by omega) hn) fun _ i3 h3 hne => ?_
            obtain ⟨rfl, hi3⟩ := wantT_le (by decide) h3
            refine bind_pre hne (fun hn => h.num (by omega) hn) fun n i4 h4 hne => ?_
            obtain ⟨g4, -, rfl⟩ := numT_ok h4
            have hi4 := tkA_kind (by decide) g4
            exact bind_pre hne (fun hn => h.want (by decide) (by omega) hn) fun _ i5 h5 hne => rfl
          · rename_i hv
            rw [if_neg hv] at hne
            split
            · rename_i ho
              rw [if_pos ho] at hne
              refine bind_pre hne (fun hn => h.want (by decide) (by omega) hn) fun _ i1 h1 hne => ?_
              obtain ⟨rfl, hi1⟩ := wantT_le (by decide) h1
              refine bind_pre hne (fun hn => Pre.expr h f f2 _ _ _ (by omega) (by omega) (by omega) hn) fun N i2 h2 hne => ?_
              obtain ⟨b1, b2⟩ := expr_lt h2
              exact bind_pre hne (fun hn => h.want (by decide) (by omega) hn) fun _ i3 h3 hne => rfl
            · rename_i ho
              rw [if_neg ho] at hne
              have hrow : ∀ (u : Bool), (∀ e, (((wantT T2 (i + 1) 3 [123]).bind fun _ j => rowsT (fun i x => exprT T2 f2 i x (deep + 1)) T2 u f2 j 0).bind fun r j => (.ok ((atE i x).br u (r.2 : Nat) :: r.1) j : Pr (List Ex))) ≠ .bad e T2.length) → (((wantT T (i + 1) 3 [123]).bind fun _ j => rowsT (fun i x => exprT T f i x (deep + 1)) T u f j 0).bind fun r j => (.ok ((atE i x).br u (r.2 : Nat) :: r.1) j : Pr (List Ex))) =
                  (((wantT T2 (i + 1) 3 [123]).bind fun _ j => rowsT (fun i x => exprT T2 f2 i x (deep + 1)) T2 u f2 j 0).bind fun r j => (.ok ((atE i x).br u (r.2 : Nat) :: r.1) j : Pr (List Ex))) := by
                intro u hne
                refine bind_pre hne (fun hn => ?_) fun r j h2 hne => rfl
                refine bind_pre hn (fun hn => h.want (by decide) (by omega) hn) fun _ i1 h1 hne => ?_
                obtain ⟨rfl, hi1⟩ := wantT_le (by decide) h1
                exact Pre.rows h (i0 := i + 1 + 1) (fun i x h0 hi hn => Pre.expr h f f2 i x _ hi (by omega) (by omega) hn) (fun i x N j hh => expr_lt hh) f f2 _ _ (Nat.le_refl _) (by omega) (by omega) (by omega) hne
              split
              · rename_i hu
                rw [if_pos hu] at hne
                exact hrow true hne
              · rename_i hu
                rw [if_neg hu] at hne
                split
                · rename_i hs
                  rw [if_pos hs] at hne
                  exact hrow false hne
                · rfl
theorem bind_congr' {α β : Type} {r : Pr α} {F F2 : α → Nat → Pr β} (hF : ∀ a j, r = .ok a j → F a j = F2 a j) : r.bind F = r.bind F2 := by
  cases r with
  | ok a i => exact hF a i rfl
  | bad e i => rfl
theorem defs_fuel {T : List Tk} : ∀ (g g2 i k : Nat), i ≤ T.length → T.length + 2 ≤ g + i → T.length + 2 ≤ g2 + i → defsT T g i k = defsT T g2 i k
  | 0, g2, i, k, hi, hg, hg2 => by omega
  | g + 1, 0, i, k, hi, hg, hg2 => by omega
  | g + 1, g2 + 1, i, k, hi, hg, hg2 => by
    rw [defsT_s, defsT_s]
    split
    · rfl
    · split
      · rfl
      · refine bind_congr' fun _ i1 h1 => ?_
        obtain ⟨rfl, hi1⟩ := wantT_le (by decide) h1
        refine bind_congr' fun s i2 h2 => ?_
        obtain ⟨g2', -, rfl⟩ := nameT_ok h2
        have := nmT_lt g2'
        refine bind_congr' fun _ i3 h3 => ?_
        obtain ⟨rfl, hi3⟩ := wantT_le (by decide) h3
        refine bind_congr' fun N j h4 => ?_
        obtain ⟨b1, b2⟩ := expr_lt h4
        refine bind_congr' fun _ i5 h5 => ?_
        obtain ⟨rfl, hi5⟩ := wantT_le (by decide) h5
        rw [defs_fuel g g2 (j + 1) (k + 1) (by omega) (by omega) (by omega)]
theorem Pr.bind_assoc {α β γ : Type} {r : Pr α} {F : α → Nat → Pr β} {G : β → Nat → Pr γ} : (r.bind F).bind G = r.bind fun a j => (F a j).bind G := by cases r <;> rfl
theorem Pre.defs {T T2 : List Tk} (h : Pre T T2) : ∀ (g g2 i k : Nat), i ≤ T2.length → T.length + 2 ≤ g + i → T2.length + 2 ≤ g2 + i → (∀ e, defsT T2 g2 i k ≠ .bad e T2.length) →
    defsT T g i k = (defsT T2 g2 i k).bind fun D _ => (defsT T (T.length + 2) T2.length (k + D.length)).bind fun D' j => .ok (D ++ D') j
  | 0, g2, i, k, hi, hg, hg2, hne => by have := h.le; omega
  | g + 1, 0, i, k, hi, hg, hg2, hne => by omega
  | g + 1, g2 + 1, i, k, hi, hg, hg2, hne => by
    rw [defsT_s (T := T2)] at hne
    rw [defsT_s (T := T2)]
    by_cases hi2 : T2.length ≤ i
    · have hie : i = T2.length := by omega
      rw [if_pos hi2, hie, defs_fuel (g + 1) (T.length + 2) T2.length k h.le (by omega) (by omega), Pr.bind_ok]
      show _ = (defsT T (T.length + 2) T2.length (k + 0)).bind fun D' j => .ok ([] ++ D') j
      rw [Nat.add_zero]
      cases defsT T (T.length + 2) T2.length k <;> rfl
    · have hlt : i < T2.length := by omega
      have hle := h.le
      rw [if_neg hi2] at hne ⊢
      rw [defsT_s, if_neg (by omega), h.tok i hlt]
      by_cases hnm : k = 256 ∧ isT (tkA T2 i) 1 [116, 121, 112, 101] = true
      · rw [if_pos hnm, if_pos hnm]; rfl
      · rw [if_neg hnm] at hne ⊢
        rw [if_neg hnm]
        simp only [Pr.bind_assoc]
        refine bind_pre2 hne (fun hn => h.want (by decide) (by omega) hn) fun _ i1 h1 hne => ?_
        obtain ⟨rfl, hi1⟩ := wantT_le (by decide) h1
        refine bind_pre2 hne (fun hn => h.name (by omega) hn) fun s i2 h2 hne => ?_
        obtain ⟨g2', -, rfl⟩ := nameT_ok h2
        have := nmT_lt g2'
        refine bind_pre2 hne (fun hn => h.want (by decide) (by omega) hn) fun _ i3 h3 hne => ?_
        obtain ⟨rfl, hi3⟩ := wantT_le (by decide) h3
        refine bind_pre2 hne (fun hn => h.expr _ _ _ _ _ (by omega) (by omega) (by omega) hn) fun N j h4 hne => ?_
        obtain ⟨b1, b2⟩ := expr_lt h4
        refine bind_pre2 hne (fun hn => h.want (by decide) (by omega) hn) fun _ i5 h5 hne => ?_
        obtain ⟨rfl, hi5⟩ := wantT_le (by decide) h5
        rw [Pre.defs h g g2 (j + 1) (k + 1) (by omega) (by omega) (by omega) (fun e he => hne e (by rw [he]; rfl))]
        rw [Pr.bind_assoc]
        refine bind_congr' fun D q hD => ?_
        simp only [Pr.bind_assoc, Pr.bind_ok, List.length_cons]
        rw [show k + 1 + D.length = k + (D.length + 1) by omega]
        refine bind_congr' fun D' q hD' => rfl

end Go.Proofs.YtanimeifmicmoaaDoor

set_option linter.unusedSimpArgs false
set_option linter.unusedVariables false
set_option maxRecDepth 100000
namespace Go.Proofs.YtanimeifmicmoaaDoor
open Go Go.Vc Go.RowKit Go.Proofs

def bareE (x : Ex) : Ex := { x with at_ := 0 }
def bareD (d : Df) : Df := ⟨d.name, 0, d.ty.map bareE⟩
end Go.Proofs.YtanimeifmicmoaaDoor

set_option linter.unusedSimpArgs false
set_option linter.unusedVariables false
set_option maxRecDepth 100000
namespace Go.Proofs.YtanimeifmicmoaaDoor
open Go Go.Vc Go.RowKit Go.Proofs

/-- the first k without places -/
def BareTo (D E : List Df) (k : Nat) : Prop := E.length = D.length ∧ (∀ i, i < k → E.getD i df0 = bareD (D.getD i df0)) ∧ ∀ i, k ≤ i → E.getD i df0 = D.getD i df0
def BareIn (D E : List Df) (k j : Nat) : Prop := E.length = D.length ∧ (∀ i, i < k → E.getD i df0 = bareD (D.getD i df0)) ∧ (∀ i, k < i → E.getD i df0 = D.getD i df0) ∧ E.getD k df0 = ⟨(D.getD k df0).name, 0, ((tyD D k).take j).map bareE ++ (tyD D k).drop j⟩
theorem BareIn.ty {D E : List Df} {k j : Nat} (h : BareIn D E k j) : tyD E k = ((tyD D k).take j).map bareE ++ (tyD D k).drop j := by
  rw [tyD, h.2.2.2]
theorem BareIn.len {D E : List Df} {k j : Nat} (h : BareIn D E k j) (hj : j ≤ (tyD D k).length) : (tyD E k).length = (tyD D k).length := by
  rw [h.ty, List.length_append, List.length_map, List.length_take, List.length_drop]; omega
theorem BareIn.step {D E : List Df} {k j : Nat} (h : BareIn D E k j) (hk : k < D.length) (hj : j < (tyD D k).length) (x : Ex) (hx : (tyD E k)[j]? = some x) : BareIn D (setE E k j { x with at_ := 0 }) k (j + 1) := by
  obtain ⟨h1, h2, h3, h4⟩ := h
  have hE : tyD E k = ((tyD D k).take j).map bareE ++ (tyD D k).drop j := by rw [tyD, h4]
  have hx2 : x = (tyD D k)[j] := by
    rw [hE, List.getElem?_append_right (by simp; omega)] at hx
    simp only [List.length_map, List.length_take, Nat.min_eq_left (Nat.le_of_lt hj), Nat.sub_self, List.getElem?_drop, Nat.add_zero, List.getElem?_eq_getElem hj, Option.some.injEq] at hx
    exact hx.symm
  refine ⟨by rw [setE_len, h1], fun i hi => ?_, fun i hi => ?_, ?_⟩
  · rw [setE_at, if_neg (by omega)]; exact h2 i hi
  · rw [setE_at, if_neg (by omega)]; exact h3 i hi
  · rw [setE_at, if_pos ⟨rfl, by omega⟩, hE, h4]
    simp only [Df.mk.injEq, true_and]
    rw [List.set_append_right _ _ (by simp; omega)]
    simp only [List.length_map, List.length_take, Nat.min_eq_left (Nat.le_of_lt hj), Nat.sub_self]
    rw [← List.getElem_cons_drop hj, List.set_cons_zero, List.take_add_one, List.getElem?_eq_getElem hj, List.map_append, List.append_assoc, hx2]
    rfl
theorem BareIn.done {D E : List Df} {k : Nat} (h : BareIn D E k (tyD D k).length) : BareTo D E (k + 1) := by
  obtain ⟨h1, h2, h3, h4⟩ := h
  refine ⟨h1, fun i hi => ?_, fun i hi => h3 i (by omega)⟩
  rcases Nat.lt_or_ge i k with hl | hl
  · exact h2 i hl
  · obtain rfl : i = k := by omega
    rw [h4, List.take_length, List.drop_length, List.append_nil]; rfl
theorem DOk.tyD {D : List Df} (h : DOk D) {k : Nat} (hk : k < D.length) : (tyD D k).length * 72 ≤ 140737488351232 := by
  rw [tyD_at hk]; exact h.ty _ (List.getElem_mem hk)
end Go.Proofs.YtanimeifmicmoaaDoor
