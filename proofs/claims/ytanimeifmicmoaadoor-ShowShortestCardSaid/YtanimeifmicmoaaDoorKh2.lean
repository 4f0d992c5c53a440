/-
  Walks and lemmas. Written by program out of specs of mine.
-/
import Derived.WalkKit
import Derived.WalkSpells
import Derived.WalkLawsBesides
import Derived.Deep.Quiet
import Derived.StillTail
import Derived.StringKeys
import Derived.Laws.StructEq
import Derived.Laws.Externs
import Derived.Laws.Tables
import Derived.Scope
import Derived.Test.YtanimeifmicmoaaDoorProg
import Derived.Laws.AppendOwn
import Derived.Maps.AppendAt
import Derived.Recover
import Derived.Lib.Bytealg
import Derived.SizedLaws
import Derived.ChangeArms
import Derived.ChangeSlices
import Derived.Lib.Builder
import Derived.Lib.UnsafeStr
import Derived.Shelf.Strconv.Itoa0
import Derived.Shelf.Strconv.Itoa1
import Derived.Shelf.LaysM
import Derived.Shelf.Strconv.Itoa2
import Derived.Shelf.Strconv.Itoa3
import Derived.Test.YtanimeifmicmoaaDoorRows
import Derived.ProofKit
import Derived.OpenShut
import Derived.ShutString
import Derived.ChangeOld
import Derived.Below
import Derived.JoinedCond
import Derived.SliceStrings
import Derived.Test.YtanimeifmicmoaaDoorCards
import Derived.Test.YtanimeifmicmoaaDoorTie
import Derived.Deep.DeepHandedRow
import Derived.Lib.LaidTab
import Derived.Test.YtanimeifmicmoaaDoorKh1
set_option linter.unusedSimpArgs false
set_option linter.unusedVariables false
set_option maxRecDepth 100000
set_option linter.unusedSimpArgs false
set_option linter.unusedVariables false
set_option maxRecDepth 100000
namespace Go.Proofs.YtanimeifmicmoaaDoor
open Go Go.Vc Go.RowKit Go.Proofs

def letB (c : UInt8) : Bool := decide (97 ≤ c.toNat) && decide (c.toNat ≤ 122)
def digB (c : UInt8) : Bool := decide (48 ≤ c.toNat) && decide (c.toNat ≤ 57)
def goeB (c : UInt8) : Bool := letB c || digB c || decide (c.toNat = 95)
def nnlB (c : UInt8) : Bool := !decide (c.toNat = 10)
def marks : List UInt8 := [61, 59, 60, 62, 44, 58, 123, 125]
def markB (c : UInt8) : Bool := marks.contains c
def runL (p : UInt8 → Bool) (xs : List UInt8) (k : Nat) : Nat := k + ((xs.drop k).takeWhile p).length
theorem runL_go {p : UInt8 → Bool} {xs : List UInt8} {k : Nat} (hk : k < xs.length) (hp : p xs[k] = true) : runL p xs k = runL p xs (k + 1) := by
  unfold runL
  rw [← List.getElem_cons_drop hk, List.takeWhile_cons_of_pos hp, List.length_cons]; omega
theorem runL_stop {p : UInt8 → Bool} {xs : List UInt8} {k : Nat} (hk : k < xs.length) (hp : p xs[k] = false) : runL p xs k = k := by
  unfold runL
  rw [← List.getElem_cons_drop hk, List.takeWhile_cons_of_neg (by simp [hp])]; rfl
theorem runL_end {p : UInt8 → Bool} {xs : List UInt8} {k : Nat} (hk : xs.length ≤ k) : runL p xs k = k := by
  unfold runL
  rw [List.drop_eq_nil_of_le hk]; rfl
theorem runL_le {p : UInt8 → Bool} {xs : List UInt8} {k : Nat} (hk : k ≤ xs.length) : k ≤ runL p xs k ∧ runL p xs k ≤ xs.length := by
  unfold runL
  have := (List.takeWhile_sublist p (l := xs.drop k)).length_le
  simp at this; omega
theorem runL_cases (p : UInt8 → Bool) (xs : List UInt8) (k : Nat) (hk : k ≤ xs.length) : (∃ h : k < xs.length, p xs[k] = true) ∨ (∃ h : k < xs.length, p xs[k] = false) ∨ k = xs.length := by
  by_cases h : k < xs.length
  · cases hp : p xs[k]
    · exact .inr (.inl ⟨h, hp⟩)
    · exact .inl ⟨h, hp⟩
  · exact .inr (.inr (by omega))
def words : List (List UInt8) := [[116, 121, 112, 101], [117, 56], [117, 49, 54], [117, 51, 50], [117, 54, 52], [98, 111, 111, 108], [118, 97, 114, 105, 110, 116], [118, 101, 99, 116, 111, 114], [108, 105, 115, 116], [111, 112, 116, 105, 111, 110], [117, 110, 105, 111, 110], [115, 116, 114, 117, 99, 116]]
def wordB (xs : List UInt8) : Bool := decide (xs ∈ words)
def nameB (xs : List UInt8) : Bool := decide (xs ≠ []) && decide (xs.length ≤ 32) && (xs.head?.any letB) && xs.all goeB && !wordB xs
theorem cells_all {w : World} {b T : Nat} {cs : Array Value} (h : w.heap[b]? = some (.cells cs T (0, 0))) : Cells w b 0 cs.toList := Cells.of h 0 _ (fun i v hv => by simpa using hv)

theorem letter_spec (c : UInt8) (w0 : World) : Ca Tryd.prog 57 #[bv c] w0 (fun v w' => v = .bool (letB c) ∧ w' = w0) := by
  refine Ca.of Tryd.func57 Tryd.ntmps57 rfl rfl ?_
  refine W.seq ?_
  refine W.region ?_
  refine WL.c rfl (o_as ?_)
  refine WL.nil ?_
  refine W.seq ?_
  refine W.region ?_
  refine WL.c rfl (o_mv ?_)
  refine WL.c rfl (o_ge rfl rfl ?_)
  refine WL.c rfl (o_mv ?_)
  refine WL.sp 2 rfl (fun g5 => ?_) (fun g5 => ?_)
  · skip
    refine WL.g rfl (g5) rfl (o_mv ?_)
    refine WL.g rfl (g5) rfl (o_le rfl rfl ?_)
    refine WL.c rfl (o_pickA rfl rfl ?_)
    refine WL.c rfl (o_as ?_)
    refine WL.nil ?_
    refine W.ret ?_
    refine ret1v rfl (show _ = Value.bool _ from rfl) ?_
    exact ⟨congrArg Value.bool (by rw [Bool.eq_iff_iff]; simp_all [letB] <;> omega), rfl⟩
  · skip
    refine WL.s rfl (g5) rfl ?_
    refine WL.s rfl (g5) rfl ?_
    refine WL.c rfl (o_pickF rfl (g5) ?_)
    refine WL.c rfl (o_as ?_)
    refine WL.nil ?_
    refine W.ret ?_
    refine ret1v rfl (show _ = Value.bool _ from rfl) ?_
    exact ⟨congrArg Value.bool (by rw [Bool.eq_iff_iff]; simp_all [letB] <;> omega), rfl⟩
theorem digit_spec (c : UInt8) (w0 : World) : Ca Tryd.prog 68 #[bv c] w0 (fun v w' => v = .bool (digB c) ∧ w' = w0) := by
  refine Ca.of Tryd.func68 Tryd.ntmps68 rfl rfl ?_
  refine W.seq ?_
  refine W.region ?_
  refine WL.c rfl (o_as ?_)
  refine WL.nil ?_
  refine W.seq ?_
  refine W.region ?_
  refine WL.c rfl (o_mv ?_)
  refine WL.c rfl (o_ge rfl rfl ?_)
  refine WL.c rfl (o_mv ?_)
  refine WL.sp 2 rfl (fun g5 => ?_) (fun g5 => ?_)
  · skip
    refine WL.g rfl (g5) rfl (o_mv ?_)
    refine WL.g rfl (g5) rfl (o_le rfl rfl ?_)
    refine WL.c rfl (o_pickA rfl rfl ?_)
    refine WL.c rfl (o_as ?_)
    refine WL.nil ?_
    refine W.ret ?_
    refine ret1v rfl (show _ = Value.bool _ from rfl) ?_
    exact ⟨congrArg Value.bool (by rw [Bool.eq_iff_iff]; simp_all [digB] <;> omega), rfl⟩
  · skip
    refine WL.s rfl (g5) rfl ?_
    refine WL.s rfl (g5) rfl ?_
    refine WL.c rfl (o_pickF rfl (g5) ?_)
    refine WL.c rfl (o_as ?_)
    refine WL.nil ?_
    refine W.ret ?_
    refine ret1v rfl (show _ = Value.bool _ from rfl) ?_
    exact ⟨congrArg Value.bool (by rw [Bool.eq_iff_iff]; simp_all [digB] <;> omega), rfl⟩
theorem nnl_spec (c : UInt8) (w0 : World) : Ca Tryd.prog 47 #[bv c] w0 (fun v w' => v = .bool (nnlB c) ∧ w' = w0) := by
  refine Ca.of Tryd.func47 Tryd.ntmps47 rfl rfl ?_
  refine W.seq ?_
  refine W.region ?_
  refine WL.c rfl (o_as ?_)
  refine WL.nil ?_
  refine W.seq ?_
  refine W.region ?_
  refine WL.c rfl (o_mv ?_)
  refine WL.c rfl (o_ne rfl rfl ?_)
  refine WL.c rfl (o_as ?_)
  refine WL.nil ?_
  refine W.ret ?_
  refine ret1v rfl (show _ = Value.bool _ from rfl) ?_
  exact ⟨congrArg Value.bool (by rw [Bool.eq_iff_iff]; simp_all [nnlB] <;> omega), rfl⟩
theorem further_spec (c : UInt8) (w0 : World) : Ca Tryd.prog 58 #[bv c] w0 (fun v w' => v = .bool (goeB c) ∧ w' = w0) := by
  refine Ca.of Tryd.func58 Tryd.ntmps58 rfl rfl ?_
  refine W.seq ?_
  refine W.region ?_
  refine WL.c rfl (o_as ?_)
  refine WL.nil ?_
  refine W.seq ?_
  refine W.region ?_
  refine WL.c rfl (o_mv ?_)
  refine WL.c rfl (o_call Tryd.call57 (lc rfl ln) ((letter_spec c _).mono ?_))
  rintro v4 w4 ⟨rfl, rfl⟩
  refine WL.c rfl (o_mv ?_)
  refine WL.sp 2 rfl (fun g5 => ?_) (fun g5 => ?_)
  · skip
    refine WL.s rfl (g5) rfl ?_
    refine WL.s rfl (g5) rfl ?_
    refine WL.c rfl (o_pickT rfl (g5) ?_)
    refine WL.c rfl (o_mv ?_)
    refine WL.s rfl (rfl) rfl ?_
    refine WL.s rfl (rfl) rfl ?_
    refine WL.c rfl (o_pickT rfl (rfl) ?_)
    refine WL.c rfl (o_as ?_)
    refine WL.nil ?_
    refine W.ret ?_
    refine ret1v rfl (show _ = Value.bool _ from rfl) ?_
    exact ⟨congrArg Value.bool (by rw [Bool.eq_iff_iff]; simp_all [goeB] <;> omega), rfl⟩
  · skip
    refine WL.g rfl (g5) rfl (o_mv ?_)
    refine WL.g rfl (g5) rfl (o_call Tryd.call68 (lc rfl ln) ((digit_spec c _).mono ?_))
    rintro v7 w7 ⟨rfl, rfl⟩
    refine WL.c rfl (o_pickO rfl rfl ?_)
    refine WL.c rfl (o_mv ?_)
    refine WL.sp 6 rfl (fun g9 => ?_) (fun g9 => ?_)
    · skip
      refine WL.s rfl (g9) rfl ?_
      refine WL.s rfl (g9) rfl ?_
      refine WL.c rfl (o_pickT rfl (g9) ?_)
      refine WL.c rfl (o_as ?_)
      refine WL.nil ?_
      refine W.ret ?_
      refine ret1v rfl (show _ = Value.bool _ from rfl) ?_
      exact ⟨congrArg Value.bool (by rw [Bool.eq_iff_iff]; simp_all [goeB] <;> omega), rfl⟩
    · skip
      refine WL.g rfl (g9) rfl (o_mv ?_)
      refine WL.g rfl (g9) rfl (o_eq rfl rfl ?_)
      refine WL.c rfl (o_pickO rfl rfl ?_)
      refine WL.c rfl (o_as ?_)
      refine WL.nil ?_
      refine W.ret ?_
      refine ret1v rfl (show _ = Value.bool _ from rfl) ?_
      exact ⟨congrArg Value.bool (by rw [Bool.eq_iff_iff]; simp_all [goeB] <;> omega), rfl⟩
theorem run_spec (p : UInt8 → Bool) (g : FuncId) (xs : List UInt8) (k0 : Nat) (w0 : World) (hk0 : k0 ≤ xs.length) (hlen : xs.length ≤ 9223372036854775807) (hp : ∀ c w, Ca Tryd.prog g #[bv c] w (fun v w' => v = .bool (p c) ∧ w' = w)) (hg : ∀ args w, (callFunc g args).run Tryd.prog w = .ok (.enter g args) w) : Ca Tryd.prog 46 #[st xs, .int .i64 (k0 : Int), .func (.func g) #[] #[]] w0 (fun v w' => v = .int .i64 (runL p xs k0 : Int) ∧ w' = w0) := by
  refine Ca.of Tryd.func46 Tryd.ntmps46 rfl rfl ?_
  refine W.seq ?_
  refine W.region ?_
  refine WL.c rfl (o_as ?_)
  refine WL.nil ?_
  refine W.seq ?_
  refine W.block ?_
  refine W.loop (fun e w => ∃ k : Nat, k ≤ xs.length ∧ e 0 = st xs ∧ e 1 = .int .i64 (k : Int) ∧ e 2 = .func (.func g) #[] #[] ∧ runL p xs k0 = runL p xs k ∧ w = w0) (fun e w => xs.length - (intOf (e 1)).toNat) ?_ ?_
  · exact ⟨k0, hk0, rfl, rfl, rfl, rfl, rfl⟩
  rintro e w ⟨k, hk, h0, h1, h2, hr, rfl⟩
  refine W.seq ?_
  refine W.seq ?_
  rcases runL_cases p xs k hk with ⟨hk1, hpk⟩ | ⟨hk1, hpk⟩ | hk1
  · skip
    refine W.region ?_
    refine WL.c rfl (o_mvh h1 ?_)
    refine WL.c rfl (o_mvh h0 ?_)
    refine WL.c rfl (o_lenT TI9 rfl ?_)
    refine WL.c rfl (o_lt rfl rfl ?_)
    refine WL.c rfl (o_mv ?_)
    refine WL.g rfl (by simp; omega) rfl (o_mvh h2 ?_)
    refine WL.g rfl (by simp; omega) rfl (o_mvh h0 ?_)
    refine WL.g rfl (by simp; omega) rfl (o_mvh h1 ?_)
    refine WL.g rfl (by simp; omega) rfl (o_idT TI9 rfl rfl (by omega) ?_)
    refine WL.g rfl (by simp; omega) rfl (o_callF rfl hg (lc rfl ln) ((hp xs[k] _).mono ?_))
    rintro v16 w16 ⟨rfl, rfl⟩
    refine WL.c rfl (o_pickA rfl rfl ?_)
    refine WL.nil ?_
    refine W.condT' rfl (by simp [hpk]; omega) ?_
    refine W.skip ?_
    refine W.block ?_
    refine W.region ?_
    refine WL.c rfl (o_mvh h1 ?_)
    refine WL.c rfl (o_addi rfl rfl (by omega) ?_)
    refine WL.c rfl (o_as ?_)
    refine WL.nil ?_
    refine ⟨⟨k + 1, by omega, h0, rfl, h2, by rw [hr]; exact runL_go hk1 hpk, rfl⟩, ?_⟩
    show xs.length - ((k : Int) + 1).toNat < _
    rw [h1]; simp [intOf]; omega
  · skip
    refine W.region ?_
    refine WL.c rfl (o_mvh h1 ?_)
    refine WL.c rfl (o_mvh h0 ?_)
    refine WL.c rfl (o_lenT TI9 rfl ?_)
    refine WL.c rfl (o_lt rfl rfl ?_)
    refine WL.c rfl (o_mv ?_)
    refine WL.g rfl (by simp; omega) rfl (o_mvh h2 ?_)
    refine WL.g rfl (by simp; omega) rfl (o_mvh h0 ?_)
    refine WL.g rfl (by simp; omega) rfl (o_mvh h1 ?_)
    refine WL.g rfl (by simp; omega) rfl (o_idT TI9 rfl rfl (by omega) ?_)
    refine WL.g rfl (by simp; omega) rfl (o_callF rfl hg (lc rfl ln) ((hp xs[k] _).mono ?_))
    rintro v16 w16 ⟨rfl, rfl⟩
    refine WL.c rfl (o_pickA rfl rfl ?_)
    refine WL.nil ?_
    refine W.condF' rfl (by simp [hpk]) ?_
    refine W.exit ?_
    refine W.seq ?_
    refine W.region ?_
    refine WL.c rfl (o_mvh h1 ?_)
    refine WL.c rfl (o_as ?_)
    refine WL.nil ?_
    refine W.ret ?_
    refine ret1v rfl (show _ = Value.int _ _ from rfl) ?_
    exact ⟨by rw [hr, runL_stop hk1 hpk], rfl⟩
  · skip
    refine W.region ?_
    refine WL.c rfl (o_mvh h1 ?_)
    refine WL.c rfl (o_mvh h0 ?_)
    refine WL.c rfl (o_lenT TI9 rfl ?_)
    refine WL.c rfl (o_lt rfl rfl ?_)
    refine WL.c rfl (o_mv ?_)
    refine WL.s rfl (by simp; omega) rfl ?_
    refine WL.s rfl (by simp; omega) rfl ?_
    refine WL.s rfl (by simp; omega) rfl ?_
    refine WL.s rfl (by simp; omega) rfl ?_
    refine WL.s rfl (by simp; omega) rfl ?_
    refine WL.c rfl (o_pickF rfl (by simp; omega) ?_)
    refine WL.nil ?_
    refine W.condF' rfl (rfl) ?_
    refine W.exit ?_
    refine W.seq ?_
    refine W.region ?_
    refine WL.c rfl (o_mvh h1 ?_)
    refine WL.c rfl (o_as ?_)
    refine WL.nil ?_
    refine W.ret ?_
    refine ret1v rfl (show _ = Value.int _ _ from rfl) ?_
    exact ⟨by rw [hr, runL_end (by omega)], rfl⟩

theorem runL_all (p : UInt8 → Bool) (xs : List UInt8) : runL p xs 0 = xs.length ↔ xs.all p = true := by
  unfold runL
  rw [List.drop_zero, Nat.zero_add]
  induction xs with
  | nil => simp
  | cons c cs ih =>
    cases hp : p c
    · rw [List.takeWhile_cons_of_neg (by simp [hp])]; simp [hp]
    · rw [List.takeWhile_cons_of_pos hp]; simp [hp, ih]
theorem head_any {xs : List UInt8} (p : UInt8 → Bool) (h : 0 < xs.length) : xs.head?.any p = p xs[0] := by
  cases xs with
  | nil => simp at h
  | cons c cs => rfl
theorem mark_idx (c : UInt8) : decide (0 ≤ Lib.indexByte marks c) = markB c := by
  have h : ∀ n : Fin 256, decide (0 ≤ Lib.indexByte marks (UInt8.ofNat n.1)) = markB (UInt8.ofNat n.1) := by decide +kernel
  have := h ⟨c.toNat, UInt8.toNat_lt c⟩
  simpa using this
def lead (xs : List UInt8) : Bool := decide (1 < xs.length) && decide (xs[0]?.map (·.toNat) = some 48)
def numF (n : Nat) : List UInt8 → Nat × Nat
  | [] => (n, 0)
  | c :: cs => if 2147483647 < 10 * n + (c.toNat - 48) then (0, 51) else numF (10 * n + (c.toNat - 48)) cs
def numL (xs : List UInt8) : Nat × Nat := if lead xs then (0, 51) else numF 0 xs
section
variable {P : Program} {e : Env} {w : World} {K : Value → World → Prop} {ty : TypeId}
theorem n_sub8 {x y : Operand} {t u : TypeId} {a b : Nat} (hx : ev e x = .int .u8 (a : Int)) (hy : ev e y = .int .u8 (b : Int)) (h : b ≤ a) (ha : a < 256) (kk : K (.int .u8 ((a - b : Nat) : Int)) w) : OP P e (.binOp .sub t x y u) ty w K := by
  refine o_sub hx hy ?_
  have : IntKind.u8.wrap ((a : Int) - b) = ((a - b : Nat) : Int) := by
    have h1 : (a : Int) - b = ((a - b : Nat) : Int) := by omega
    rw [h1, wrapU (by decide)]
    have h2 : 2 ^ ubits IntKind.u8 = 256 := by decide
    rw [h2, Nat.mod_eq_of_lt (by omega)]
  rw [this]; exact kk
theorem o_cvU {x : Operand} {t u : TypeId} {k : IntKind} {n : Nat} {s b s' b' : Nat} {z z' : Value} (ht : Ty P t (.int k) s b z) (hu : Ty P u (.int .i64) s' b' z') (hx : ev e x = .int k (n : Int)) (h : n < 9223372036854775808) (kk : K (.int .i64 (n : Int)) w) : OP P e (.convert t u x) ty w K :=
  o_cvI ht hu hx (by rw [wrap64' _ (by omega)]; exact kk)
end

theorem word_spec (xs : List UInt8) (w0 : World) : Ca Tryd.prog 59 #[st xs] w0 (fun v w' => v = .bool (wordB xs) ∧ w' = w0) := by
  refine Ca.of Tryd.func59 Tryd.ntmps59 rfl rfl ?_
  refine W.seq ?_
  refine W.region ?_
  refine WL.c rfl (o_as ?_)
  refine WL.nil ?_
  refine W.seq ?_
  refine W.seq ?_
  refine W.region ?_
  refine WL.c rfl (o_mv ?_)
  refine WL.nil ?_
  refine W.block ?_
  refine W.seq ?_
  refine W.seq ?_
  refine W.region ?_
  refine WL.c rfl (o_eqT rfl rfl ?_)
  refine WL.c rfl (o_as ?_)
  refine WL.nil ?_
  refine W.cond rfl (fun c4 => ?_) (fun c4 => ?_)
  · try simp only [decide_eq_true_eq, decide_eq_false_iff_not, Bool.not_eq_true', Bool.not_eq_false', Bool.and_eq_true, Bool.or_eq_true, Bool.and_eq_false_iff, Bool.or_eq_false_iff] at c4
    refine W.skip ?_
    refine W.cond rfl (fun c4 => ?_) (fun c4 => ?_)
    · try simp only [decide_eq_true_eq, decide_eq_false_iff_not, Bool.not_eq_true', Bool.not_eq_false', Bool.and_eq_true, Bool.or_eq_true, Bool.and_eq_false_iff, Bool.or_eq_false_iff] at c4
      refine W.seq ?_
      refine W.region ?_
      refine WL.c rfl (o_as ?_)
      refine WL.nil ?_
      refine W.ret ?_
      refine ret1v rfl (show _ = Value.bool _ from rfl) ?_
      exact ⟨congrArg Value.bool (by simp_all [wordB, words]), rfl⟩
    · try simp only [decide_eq_true_eq, decide_eq_false_iff_not, Bool.not_eq_true', Bool.not_eq_false', Bool.and_eq_true, Bool.or_eq_true, Bool.and_eq_false_iff, Bool.or_eq_false_iff] at c4
      refine W.skip ?_
      refine W.seq ?_
      refine W.region ?_
      refine WL.c rfl (o_as ?_)
      refine WL.nil ?_
      refine W.ret ?_
      refine ret1v rfl (show _ = Value.bool _ from rfl) ?_
      exact ⟨congrArg Value.bool (by simp_all [wordB, words]), rfl⟩
  · try simp only [decide_eq_true_eq, decide_eq_false_iff_not, Bool.not_eq_true', Bool.not_eq_false', Bool.and_eq_true, Bool.or_eq_true, Bool.and_eq_false_iff, Bool.or_eq_false_iff] at c4
    refine W.seq ?_
    refine W.region ?_
    refine WL.c rfl (o_eqT rfl rfl ?_)
    refine WL.c rfl (o_as ?_)
    refine WL.nil ?_
    refine W.cond rfl (fun c4 => ?_) (fun c4 => ?_)
    · try simp only [decide_eq_true_eq, decide_eq_false_iff_not, Bool.not_eq_true', Bool.not_eq_false', Bool.and_eq_true, Bool.or_eq_true, Bool.and_eq_false_iff, Bool.or_eq_false_iff] at c4
      refine W.skip ?_
      refine W.cond rfl (fun c4 => ?_) (fun c4 => ?_)
      · try simp only [decide_eq_true_eq, decide_eq_false_iff_not, Bool.not_eq_true', Bool.not_eq_false', Bool.and_eq_true, Bool.or_eq_true, Bool.and_eq_false_iff, Bool.or_eq_false_iff] at c4
        refine W.seq ?_
        refine W.region ?_
        refine WL.c rfl (o_as ?_)
        refine WL.nil ?_
        refine W.ret ?_
        refine ret1v rfl (show _ = Value.bool _ from rfl) ?_
        exact ⟨congrArg Value.bool (by simp_all [wordB, words]), rfl⟩
      · try simp only [decide_eq_true_eq, decide_eq_false_iff_not, Bool.not_eq_true', Bool.not_eq_false', Bool.and_eq_true, Bool.or_eq_true, Bool.and_eq_false_iff, Bool.or_eq_false_iff] at c4
        refine W.skip ?_
        refine W.seq ?_
        refine W.region ?_
        refine WL.c rfl (o_as ?_)
        refine WL.nil ?_
        refine W.ret ?_
        refine ret1v rfl (show _ = Value.bool _ from rfl) ?_
        exact ⟨congrArg Value.bool (by simp_all [wordB, words]), rfl⟩
    · try simp only [decide_eq_true_eq, decide_eq_false_iff_not, Bool.not_eq_true', Bool.not_eq_false', Bool.and_eq_true, Bool.or_eq_true, Bool.and_eq_false_iff, Bool.or_eq_false_iff] at c4
      refine W.seq ?_
      refine W.region ?_
      refine WL.c rfl (o_eqT rfl rfl ?_)
      refine WL.c rfl (o_as ?_)
      refine WL.nil ?_
      refine W.cond rfl (fun c4 => ?_) (fun c4 => ?_)
      · try simp only [decide_eq_true_eq, decide_eq_false_iff_not, Bool.not_eq_true', Bool.not_eq_false', Bool.and_eq_true, Bool.or_eq_true, Bool.and_eq_false_iff, Bool.or_eq_false_iff] at c4
        refine W.skip ?_
        refine W.cond rfl (fun c4 => ?_) (fun c4 => ?_)
        · try simp only [decide_eq_true_eq, decide_eq_false_iff_not, Bool.not_eq_true', Bool.not_eq_false', Bool.and_eq_true, Bool.or_eq_true, Bool.and_eq_false_iff, Bool.or_eq_false_iff] at c4
          refine W.seq ?_
          refine W.region ?_
          refine WL.c rfl (o_as ?_)
          refine WL.nil ?_
          refine W.ret ?_
          refine ret1v rfl (show _ = Value.bool _ from rfl) ?_
          exact ⟨congrArg Value.bool (by simp_all [wordB, words]), rfl⟩
        · try simp only [decide_eq_true_eq, decide_eq_false_iff_not, Bool.not_eq_true', Bool.not_eq_false', Bool.and_eq_true, Bool.or_eq_true, Bool.and_eq_false_iff, Bool.or_eq_false_iff] at c4
          refine W.skip ?_
          refine W.seq ?_
          refine W.region ?_
          refine WL.c rfl (o_as ?_)
          refine WL.nil ?_
          refine W.ret ?_
          refine ret1v rfl (show _ = Value.bool _ from rfl) ?_
          exact ⟨congrArg Value.bool (by simp_all [wordB, words]), rfl⟩
      · try simp only [decide_eq_true_eq, decide_eq_false_iff_not, Bool.not_eq_true', Bool.not_eq_false', Bool.and_eq_true, Bool.or_eq_true, Bool.and_eq_false_iff, Bool.or_eq_false_iff] at c4
        refine W.seq ?_
        refine W.region ?_
        refine WL.c rfl (o_eqT rfl rfl ?_)
        refine WL.c rfl (o_as ?_)
        refine WL.nil ?_
        refine W.cond rfl (fun c4 => ?_) (fun c4 => ?_)
        · try simp only [decide_eq_true_eq, decide_eq_false_iff_not, Bool.not_eq_true', Bool.not_eq_false', Bool.and_eq_true, Bool.or_eq_true, Bool.and_eq_false_iff, Bool.or_eq_false_iff] at c4
          refine W.skip ?_
          refine W.cond rfl (fun c4 => ?_) (fun c4 => ?_)
          · try simp only [decide_eq_true_eq, decide_eq_false_iff_not, Bool.not_eq_true', Bool.not_eq_false', Bool.and_eq_true, Bool.or_eq_true, Bool.and_eq_false_iff, Bool.or_eq_false_iff] at c4
            refine W.seq ?_
            refine W.region ?_
            refine WL.c rfl (o_as ?_)
            refine WL.nil ?_
            refine W.ret ?_
            refine ret1v rfl (show _ = Value.bool _ from rfl) ?_
            exact ⟨congrArg Value.bool (by simp_all [wordB, words]), rfl⟩
          · try simp only [decide_eq_true_eq, decide_eq_false_iff_not, Bool.not_eq_true', Bool.not_eq_false', Bool.and_eq_true, Bool.or_eq_true, Bool.and_eq_false_iff, Bool.or_eq_false_iff] at c4
            refine W.skip ?_
            refine W.seq ?_
            refine W.region ?_
            refine WL.c rfl (o_as ?_)
            refine WL.nil ?_
            refine W.ret ?_
            refine ret1v rfl (show _ = Value.bool _ from rfl) ?_
            exact ⟨congrArg Value.bool (by simp_all [wordB, words]), rfl⟩
        · try simp only [decide_eq_true_eq, decide_eq_false_iff_not, Bool.not_eq_true', Bool.not_eq_false', Bool.and_eq_true, Bool.or_eq_true, Bool.and_eq_false_iff, Bool.or_eq_false_iff] at c4
          refine W.seq ?_
          refine W.region ?_
          refine WL.c rfl (o_eqT rfl rfl ?_)
          refine WL.c rfl (o_as ?_)
          refine WL.nil ?_
          refine W.cond rfl (fun c4 => ?_) (fun c4 => ?_)
          · try simp only [decide_eq_true_eq, decide_eq_false_iff_not, Bool.not_eq_true', Bool.not_eq_false', Bool.and_eq_true, Bool.or_eq_true, Bool.and_eq_false_iff, Bool.or_eq_false_iff] at c4
            refine W.skip ?_
            refine W.cond rfl (fun c4 => ?_) (fun c4 => ?_)
            · try simp only [decide_eq_true_eq, decide_eq_false_iff_not, Bool.not_eq_true', Bool.not_eq_false', Bool.and_eq_true, Bool.or_eq_true, Bool.and_eq_false_iff, Bool.or_eq_false_iff] at c4
              refine W.seq ?_
              refine W.region ?_
              refine WL.c rfl (o_as ?_)
              refine WL.nil ?_
              refine W.ret ?_
              refine ret1v rfl (show _ = Value.bool _ from rfl) ?_
              exact ⟨congrArg Value.bool (by simp_all [wordB, words]), rfl⟩
            · try simp only [decide_eq_true_eq, decide_eq_false_iff_not, Bool.not_eq_true', Bool.not_eq_false', Bool.and_eq_true, Bool.or_eq_true, Bool.and_eq_false_iff, Bool.or_eq_false_iff] at c4
              refine W.skip ?_
              refine W.seq ?_
              refine W.region ?_
              refine WL.c rfl (o_as ?_)
              refine WL.nil ?_
              refine W.ret ?_
              refine ret1v rfl (show _ = Value.bool _ from rfl) ?_
              exact ⟨congrArg Value.bool (by simp_all [wordB, words]), rfl⟩
          · try simp only [decide_eq_true_eq, decide_eq_false_iff_not, Bool.not_eq_true', Bool.not_eq_false', Bool.and_eq_true, Bool.or_eq_true, Bool.and_eq_false_iff, Bool.or_eq_false_iff] at c4
            refine W.seq ?_
            refine W.region ?_
            refine WL.c rfl (o_eqT rfl rfl ?_)
            refine WL.c rfl (o_as ?_)
            refine WL.nil ?_
            refine W.cond rfl (fun c4 => ?_) (fun c4 => ?_)
            · try simp only [decide_eq_true_eq, decide_eq_false_iff_not, Bool.not_eq_true', Bool.not_eq_false', Bool.and_eq_true, Bool.or_eq_true, Bool.and_eq_false_iff, Bool.or_eq_false_iff] at c4
              refine W.skip ?_
              refine W.cond rfl (fun c4 => ?_) (fun c4 => ?_)
              · try simp only [decide_eq_true_eq, decide_eq_false_iff_not, Bool.not_eq_true', Bool.not_eq_false', Bool.and_eq_true, Bool.or_eq_true, Bool.and_eq_false_iff, Bool.or_eq_false_iff] at c4
                refine W.seq ?_
                refine W.region ?_
                refine WL.c rfl (o_as ?_)
                refine WL.nil ?_
                refine W.ret ?_
                refine ret1v rfl (show _ = Value.bool _ from rfl) ?_
                exact ⟨congrArg Value.bool (by simp_all [wordB, words]), rfl⟩
              · try simp only [decide_eq_true_eq, decide_eq_false_iff_not, Bool.not_eq_true', Bool.not_eq_false', Bool.and_eq_true, Bool.or_eq_true, Bool.and_eq_false_iff, Bool.or_eq_false_iff] at c4
                refine W.skip ?_
                refine W.seq ?_
                refine W.region ?_
                refine WL.c rfl (o_as ?_)
                refine WL.nil ?_
                refine W.ret ?_
                refine ret1v rfl (show _ = Value.bool _ from rfl) ?_
                exact ⟨congrArg Value.bool (by simp_all [wordB, words]), rfl⟩
            · try simp only [decide_eq_true_eq, decide_eq_false_iff_not, Bool.not_eq_true', Bool.not_eq_false', Bool.and_eq_true, Bool.or_eq_true, Bool.and_eq_false_iff, Bool.or_eq_false_iff] at c4
              refine W.seq ?_
              refine W.region ?_
              refine WL.c rfl (o_eqT rfl rfl ?_)
              refine WL.c rfl (o_as ?_)
              refine WL.nil ?_
              refine W.cond rfl (fun c4 => ?_) (fun c4 => ?_)
              · try simp only [decide_eq_true_eq, decide_eq_false_iff_not, Bool.not_eq_true', Bool.not_eq_false', Bool.and_eq_true, Bool.or_eq_true, Bool.and_eq_false_iff, Bool.or_eq_false_iff] at c4
                refine W.skip ?_
                refine W.cond rfl (fun c4 => ?_) (fun c4 => ?_)
                · try simp only [decide_eq_true_eq, decide_eq_false_iff_not, Bool.not_eq_true', Bool.not_eq_false', Bool.and_eq_true, Bool.or_eq_true, Bool.and_eq_false_iff, Bool.or_eq_false_iff] at c4
                  refine W.seq ?_
                  refine W.region ?_
                  refine WL.c rfl (o_as ?_)
                  refine WL.nil ?_
                  refine W.ret ?_
                  refine ret1v rfl (show _ = Value.bool _ from rfl) ?_
                  exact ⟨congrArg Value.bool (by simp_all [wordB, words]), rfl⟩
                · try simp only [decide_eq_true_eq, decide_eq_false_iff_not, Bool.not_eq_true', Bool.not_eq_false', Bool.and_eq_true, Bool.or_eq_true, Bool.and_eq_false_iff, Bool.or_eq_false_iff] at c4
                  refine W.skip ?_
                  refine W.seq ?_
                  refine W.region ?_
                  refine WL.c rfl (o_as ?_)
                  refine WL.nil ?_
                  refine W.ret ?_
                  refine ret1v rfl (show _ = Value.bool _ from rfl) ?_
                  exact ⟨congrArg Value.bool (by simp_all [wordB, words]), rfl⟩
              · try simp only [decide_eq_true_eq, decide_eq_false_iff_not, Bool.not_eq_true', Bool.not_eq_false', Bool.and_eq_true, Bool.or_eq_true, Bool.and_eq_false_iff, Bool.or_eq_false_iff] at c4
                refine W.seq ?_
                refine W.region ?_
                refine WL.c rfl (o_eqT rfl rfl ?_)
                refine WL.c rfl (o_as ?_)
                refine WL.nil ?_
                refine W.cond rfl (fun c4 => ?_) (fun c4 => ?_)
                · try simp only [decide_eq_true_eq, decide_eq_false_iff_not, Bool.not_eq_true', Bool.not_eq_false', Bool.and_eq_true, Bool.or_eq_true, Bool.and_eq_false_iff, Bool.or_eq_false_iff] at c4
                  refine W.skip ?_
                  refine W.cond rfl (fun c4 => ?_) (fun c4 => ?_)
                  · try simp only [decide_eq_true_eq, decide_eq_false_iff_not, Bool.not_eq_true', Bool.not_eq_false', Bool.and_eq_true, Bool.or_eq_true, Bool.and_eq_false_iff, Bool.or_eq_false_iff] at c4
                    refine W.seq ?_
                    refine W.region ?_
                    refine WL.c rfl (o_as ?_)
                    refine WL.nil ?_
                    refine W.ret ?_
                    refine ret1v rfl (show _ = Value.bool _ from rfl) ?_
                    exact ⟨congrArg Value.bool (by simp_all [wordB, words]), rfl⟩
                  · try simp only [decide_eq_true_eq, decide_eq_false_iff_not, Bool.not_eq_true', Bool.not_eq_false', Bool.and_eq_true, Bool.or_eq_true, Bool.and_eq_false_iff, Bool.or_eq_false_iff] at c4
                    refine W.skip ?_
                    refine W.seq ?_
                    refine W.region ?_
                    refine WL.c rfl (o_as ?_)
                    refine WL.nil ?_
                    refine W.ret ?_
                    refine ret1v rfl (show _ = Value.bool _ from rfl) ?_
                    exact ⟨congrArg Value.bool (by simp_all [wordB, words]), rfl⟩
                · try simp only [decide_eq_true_eq, decide_eq_false_iff_not, Bool.not_eq_true', Bool.not_eq_false', Bool.and_eq_true, Bool.or_eq_true, Bool.and_eq_false_iff, Bool.or_eq_false_iff] at c4
                  refine W.seq ?_
                  refine W.region ?_
                  refine WL.c rfl (o_eqT rfl rfl ?_)
                  refine WL.c rfl (o_as ?_)
                  refine WL.nil ?_
                  refine W.cond rfl (fun c4 => ?_) (fun c4 => ?_)
                  · try simp only [decide_eq_true_eq, decide_eq_false_iff_not, Bool.not_eq_true', Bool.not_eq_false', Bool.and_eq_true, Bool.or_eq_true, Bool.and_eq_false_iff, Bool.or_eq_false_iff] at c4
                    refine W.skip ?_
                    refine W.cond rfl (fun c4 => ?_) (fun c4 => ?_)
                    · try simp only [decide_eq_true_eq, decide_eq_false_iff_not, Bool.not_eq_true', Bool.not_eq_false', Bool.and_eq_true, Bool.or_eq_true, Bool.and_eq_false_iff, Bool.or_eq_false_iff] at c4
                      refine W.seq ?_
                      refine W.region ?_
                      refine WL.c rfl (o_as ?_)
                      refine WL.nil ?_
                      refine W.ret ?_
                      refine ret1v rfl (show _ = Value.bool _ from rfl) ?_
                      exact ⟨congrArg Value.bool (by simp_all [wordB, words]), rfl⟩
                    · try simp only [decide_eq_true_eq, decide_eq_false_iff_not, Bool.not_eq_true', Bool.not_eq_false', Bool.and_eq_true, Bool.or_eq_true, Bool.and_eq_false_iff, Bool.or_eq_false_iff] at c4
                      refine W.skip ?_
                      refine W.seq ?_
                      refine W.region ?_
                      refine WL.c rfl (o_as ?_)
                      refine WL.nil ?_
                      refine W.ret ?_
                      refine ret1v rfl (show _ = Value.bool _ from rfl) ?_
                      exact ⟨congrArg Value.bool (by simp_all [wordB, words]), rfl⟩
                  · try simp only [decide_eq_true_eq, decide_eq_false_iff_not, Bool.not_eq_true', Bool.not_eq_false', Bool.and_eq_true, Bool.or_eq_true, Bool.and_eq_false_iff, Bool.or_eq_false_iff] at c4
                    refine W.seq ?_
                    refine W.region ?_
                    refine WL.c rfl (o_eqT rfl rfl ?_)
                    refine WL.c rfl (o_as ?_)
                    refine WL.nil ?_
                    refine W.cond rfl (fun c4 => ?_) (fun c4 => ?_)
                    · try simp only [decide_eq_true_eq, decide_eq_false_iff_not, Bool.not_eq_true', Bool.not_eq_false', Bool.and_eq_true, Bool.or_eq_true, Bool.and_eq_false_iff, Bool.or_eq_false_iff] at c4
                      refine W.skip ?_
                      refine W.cond rfl (fun c4 => ?_) (fun c4 => ?_)
                      · try simp only [decide_eq_true_eq, decide_eq_false_iff_not, Bool.not_eq_true', Bool.not_eq_false', Bool.and_eq_true, Bool.or_eq_true, Bool.and_eq_false_iff, Bool.or_eq_false_iff] at c4
                        refine W.seq ?_
                        refine W.region ?_
                        refine WL.c rfl (o_as ?_)
                        refine WL.nil ?_
                        refine W.ret ?_
                        refine ret1v rfl (show _ = Value.bool _ from rfl) ?_
                        exact ⟨congrArg Value.bool (by simp_all [wordB, words]), rfl⟩
                      · try simp only [decide_eq_true_eq, decide_eq_false_iff_not, Bool.not_eq_true', Bool.not_eq_false', Bool.and_eq_true, Bool.or_eq_true, Bool.and_eq_false_iff, Bool.or_eq_false_iff] at c4
                        refine W.skip ?_
                        refine W.seq ?_
                        refine W.region ?_
                        refine WL.c rfl (o_as ?_)
                        refine WL.nil ?_
                        refine W.ret ?_
                        refine ret1v rfl (show _ = Value.bool _ from rfl) ?_
                        exact ⟨congrArg Value.bool (by simp_all [wordB, words]), rfl⟩
                    · try simp only [decide_eq_true_eq, decide_eq_false_iff_not, Bool.not_eq_true', Bool.not_eq_false', Bool.and_eq_true, Bool.or_eq_true, Bool.and_eq_false_iff, Bool.or_eq_false_iff] at c4
                      refine W.seq ?_
                      refine W.region ?_
                      refine WL.c rfl (o_eqT rfl rfl ?_)
                      refine WL.c rfl (o_as ?_)
                      refine WL.nil ?_
                      refine W.cond rfl (fun c4 => ?_) (fun c4 => ?_)
                      · try simp only [decide_eq_true_eq, decide_eq_false_iff_not, Bool.not_eq_true', Bool.not_eq_false', Bool.and_eq_true, Bool.or_eq_true, Bool.and_eq_false_iff, Bool.or_eq_false_iff] at c4
                        refine W.skip ?_
                        refine W.cond rfl (fun c4 => ?_) (fun c4 => ?_)
                        · try simp only [decide_eq_true_eq, decide_eq_false_iff_not, Bool.not_eq_true', Bool.not_eq_false', Bool.and_eq_true, Bool.or_eq_true, Bool.and_eq_false_iff, Bool.or_eq_false_iff] at c4
                          refine W.seq ?_
                          refine W.region ?_
                          refine WL.c rfl (o_as ?_)
                          refine WL.nil ?_
                          refine W.ret ?_
                          refine ret1v rfl (show _ = Value.bool _ from rfl) ?_
                          exact ⟨congrArg Value.bool (by simp_all [wordB, words]), rfl⟩
                        · try simp only [decide_eq_true_eq, decide_eq_false_iff_not, Bool.not_eq_true', Bool.not_eq_false', Bool.and_eq_true, Bool.or_eq_true, Bool.and_eq_false_iff, Bool.or_eq_false_iff] at c4
                          refine W.skip ?_
                          refine W.seq ?_
                          refine W.region ?_
                          refine WL.c rfl (o_as ?_)
                          refine WL.nil ?_
                          refine W.ret ?_
                          refine ret1v rfl (show _ = Value.bool _ from rfl) ?_
                          exact ⟨congrArg Value.bool (by simp_all [wordB, words]), rfl⟩
                      · try simp only [decide_eq_true_eq, decide_eq_false_iff_not, Bool.not_eq_true', Bool.not_eq_false', Bool.and_eq_true, Bool.or_eq_true, Bool.and_eq_false_iff, Bool.or_eq_false_iff] at c4
                        refine W.region ?_
                        refine WL.c rfl (o_eqT rfl rfl ?_)
                        refine WL.c rfl (o_as ?_)
                        refine WL.nil ?_
                        refine W.cond rfl (fun c4 => ?_) (fun c4 => ?_)
                        · try simp only [decide_eq_true_eq, decide_eq_false_iff_not, Bool.not_eq_true', Bool.not_eq_false', Bool.and_eq_true, Bool.or_eq_true, Bool.and_eq_false_iff, Bool.or_eq_false_iff] at c4
                          refine W.seq ?_
                          refine W.region ?_
                          refine WL.c rfl (o_as ?_)
                          refine WL.nil ?_
                          refine W.ret ?_
                          refine ret1v rfl (show _ = Value.bool _ from rfl) ?_
                          exact ⟨congrArg Value.bool (by simp_all [wordB, words]), rfl⟩
                        · try simp only [decide_eq_true_eq, decide_eq_false_iff_not, Bool.not_eq_true', Bool.not_eq_false', Bool.and_eq_true, Bool.or_eq_true, Bool.and_eq_false_iff, Bool.or_eq_false_iff] at c4
                          refine W.skip ?_
                          refine W.seq ?_
                          refine W.region ?_
                          refine WL.c rfl (o_as ?_)
                          refine WL.nil ?_
                          refine W.ret ?_
                          refine ret1v rfl (show _ = Value.bool _ from rfl) ?_
                          exact ⟨congrArg Value.bool (by simp_all [wordB, words]), rfl⟩
theorem name_spec (xs : List UInt8) (w0 : World) (hlen : xs.length ≤ 9223372036854775807) : Ca Tryd.prog 35 #[st xs] w0 (fun v w' => v = .bool (nameB xs) ∧ w' = w0) := by
  have hra : ((runL goeB xs 0 : Nat) : Int) = (xs.length : Int) ↔ xs.all goeB = true := Iff.trans (by omega) (runL_all goeB xs)
  refine Ca.of Tryd.func35 Tryd.ntmps35 rfl rfl ?_
  refine W.seq ?_
  refine W.region ?_
  refine WL.c rfl (o_as ?_)
  refine WL.nil ?_
  refine W.seq ?_
  refine W.region ?_
  refine WL.c rfl (o_mv ?_)
  refine WL.c rfl (o_neT rfl rfl ?_)
  refine WL.c rfl (o_mv ?_)
  refine WL.sp 2 rfl (fun g5 => ?_) (fun g5 => ?_)
  · skip
    refine WL.g rfl (g5) rfl (o_mv ?_)
    refine WL.g rfl (g5) rfl (o_lenT TI9 rfl ?_)
    refine WL.g rfl (g5) rfl (o_le rfl rfl ?_)
    refine WL.c rfl (o_pickA rfl rfl ?_)
    refine WL.c rfl (o_mv ?_)
    refine WL.sp 7 rfl (fun g10 => ?_) (fun g10 => ?_)
    · skip
      refine WL.g rfl (g10) rfl (o_mv ?_)
      try (have hne : xs ≠ [] := by simpa using g5)
      try (have h0 := List.length_pos_iff.2 hne)
      try (have hh := head_any letB h0)
      refine WL.g rfl (g10) rfl (o_idT (i := 0) TI9 rfl rfl (by omega) ?_)
      refine WL.g rfl (g10) rfl (o_call Tryd.call57 (lc rfl ln) ((letter_spec xs[0] _).mono ?_))
      rintro v13 w13 ⟨rfl, rfl⟩
      refine WL.c rfl (o_pickA rfl rfl ?_)
      refine WL.c rfl (o_mv ?_)
      refine WL.sp 12 rfl (fun g15 => ?_) (fun g15 => ?_)
      · skip
        refine WL.g rfl (g15) rfl (o_mv ?_)
        refine WL.g rfl (g15) rfl (o_call Tryd.call46 (lc rfl (lc rfl (lc rfl ln))) ((run_spec goeB 58 xs 0 _ (Nat.zero_le _) hlen further_spec Tryd.call58).mono ?_))
        rintro v17 w17 ⟨rfl, rfl⟩
        refine WL.g rfl (g15) rfl (o_mv ?_)
        refine WL.g rfl (g15) rfl (o_lenT TI9 rfl ?_)
        refine WL.g rfl (g15) rfl (o_eq rfl rfl ?_)
        refine WL.c rfl (o_pickA rfl rfl ?_)
        refine WL.c rfl (o_mv ?_)
        refine WL.sp 19 rfl (fun g22 => ?_) (fun g22 => ?_)
        · skip
          refine WL.g rfl (g22) rfl (o_mv ?_)
          refine WL.g rfl (g22) rfl (o_call Tryd.call59 (lc rfl ln) ((word_spec xs _).mono ?_))
          rintro v24 w24 ⟨rfl, rfl⟩
          refine WL.g rfl (g22) rfl (o_not' rfl ?_)
          refine WL.c rfl (o_pickA rfl rfl ?_)
          refine WL.c rfl (o_as ?_)
          refine WL.nil ?_
          refine W.ret ?_
          refine ret1v rfl (show _ = Value.bool _ from rfl) ?_
          exact ⟨congrArg Value.bool (by rw [Bool.eq_iff_iff]; simp_all [nameB] <;> first | omega | grind), rfl⟩
        · skip
          refine WL.s rfl (g22) rfl ?_
          refine WL.s rfl (g22) rfl ?_
          refine WL.s rfl (g22) rfl ?_
          refine WL.c rfl (o_pickF rfl (g22) ?_)
          refine WL.c rfl (o_as ?_)
          refine WL.nil ?_
          refine W.ret ?_
          refine ret1v rfl (show _ = Value.bool _ from rfl) ?_
          exact ⟨congrArg Value.bool (by rw [Bool.eq_iff_iff]; simp_all [nameB] <;> first | omega | grind), rfl⟩
      · skip
        refine WL.s rfl (g15) rfl ?_
        refine WL.s rfl (g15) rfl ?_
        refine WL.s rfl (g15) rfl ?_
        refine WL.s rfl (g15) rfl ?_
        refine WL.s rfl (g15) rfl ?_
        refine WL.c rfl (o_pickF rfl (g15) ?_)
        refine WL.c rfl (o_mv ?_)
        refine WL.s rfl (rfl) rfl ?_
        refine WL.s rfl (rfl) rfl ?_
        refine WL.s rfl (rfl) rfl ?_
        refine WL.c rfl (o_pickF rfl (rfl) ?_)
        refine WL.c rfl (o_as ?_)
        refine WL.nil ?_
        refine W.ret ?_
        refine ret1v rfl (show _ = Value.bool _ from rfl) ?_
        exact ⟨congrArg Value.bool (by rw [Bool.eq_iff_iff]; simp_all [nameB] <;> first | omega | grind), rfl⟩
    · skip
      refine WL.s rfl (g10) rfl ?_
      try (have hne : xs ≠ [] := by simpa using g5)
      try (have h0 := List.length_pos_iff.2 hne)
      try (have hh := head_any letB h0)
      refine WL.s rfl (g10) rfl ?_
      refine WL.s rfl (g10) rfl ?_
      refine WL.c rfl (o_pickF rfl (g10) ?_)
      refine WL.c rfl (o_mv ?_)
      refine WL.s rfl (rfl) rfl ?_
      refine WL.s rfl (rfl) rfl ?_
      refine WL.s rfl (rfl) rfl ?_
      refine WL.s rfl (rfl) rfl ?_
      refine WL.s rfl (rfl) rfl ?_
      refine WL.c rfl (o_pickF rfl (rfl) ?_)
      refine WL.c rfl (o_mv ?_)
      refine WL.s rfl (rfl) rfl ?_
      refine WL.s rfl (rfl) rfl ?_
      refine WL.s rfl (rfl) rfl ?_
      refine WL.c rfl (o_pickF rfl (rfl) ?_)
      refine WL.c rfl (o_as ?_)
      refine WL.nil ?_
      refine W.ret ?_
      refine ret1v rfl (show _ = Value.bool _ from rfl) ?_
      exact ⟨congrArg Value.bool (by rw [Bool.eq_iff_iff]; simp_all [nameB] <;> first | omega | grind), rfl⟩
  · skip
    refine WL.s rfl (g5) rfl ?_
    refine WL.s rfl (g5) rfl ?_
    refine WL.s rfl (g5) rfl ?_
    refine WL.c rfl (o_pickF rfl (g5) ?_)
    refine WL.c rfl (o_mv ?_)
    refine WL.s rfl (rfl) rfl ?_
    try (have hne : xs ≠ [] := by simpa using g5)
    try (have h0 := List.length_pos_iff.2 hne)
    try (have hh := head_any letB h0)
    refine WL.s rfl (rfl) rfl ?_
    refine WL.s rfl (rfl) rfl ?_
    refine WL.c rfl (o_pickF rfl (rfl) ?_)
    refine WL.c rfl (o_mv ?_)
    refine WL.s rfl (rfl) rfl ?_
    refine WL.s rfl (rfl) rfl ?_
    refine WL.s rfl (rfl) rfl ?_
    refine WL.s rfl (rfl) rfl ?_
    refine WL.s rfl (rfl) rfl ?_
    refine WL.c rfl (o_pickF rfl (rfl) ?_)
    refine WL.c rfl (o_mv ?_)
    refine WL.s rfl (rfl) rfl ?_
    refine WL.s rfl (rfl) rfl ?_
    refine WL.s rfl (rfl) rfl ?_
    refine WL.c rfl (o_pickF rfl (rfl) ?_)
    refine WL.c rfl (o_as ?_)
    refine WL.nil ?_
    refine W.ret ?_
    refine ret1v rfl (show _ = Value.bool _ from rfl) ?_
    exact ⟨congrArg Value.bool (by rw [Bool.eq_iff_iff]; simp_all [nameB] <;> first | omega | grind), rfl⟩
theorem number_spec (xs : List UInt8) (w0 : World) (hlen : xs.length ≤ 9223372036854775807) (hd : ∀ c ∈ xs, digB c = true) : Ca Tryd.prog 69 #[st xs] w0 (fun v w' => v = .tuple #[.int .i64 ((numL xs).1 : Int), .int .i64 ((numL xs).2 : Int)] ∧ w' = w0) := by
  refine Ca.of Tryd.func69 Tryd.ntmps69 rfl rfl ?_
  refine W.seq ?_
  refine W.region ?_
  refine WL.c rfl (o_as ?_)
  refine WL.c rfl (o_as ?_)
  refine WL.nil ?_
  refine W.seq ?_
  refine W.seq ?_
  refine W.region ?_
  refine WL.cut (fun e1 w1 => e1 13 = .bool (lead xs) ∧ e1 0 = st xs ∧ w1 = w0) ?_ ?_
  · -- region 1
    refine WL.c rfl (o_mv ?_)
    refine WL.c rfl (o_lenT TI9 rfl ?_)
    refine WL.c rfl (o_gt rfl rfl ?_)
    refine WL.c rfl (o_mv ?_)
    refine WL.sp 3 rfl (fun g9 => ?_) (fun g9 => ?_)
    · skip
      refine WL.g rfl (g9) rfl (o_mv ?_)
      refine WL.g rfl (g9) rfl (o_idT (i := 0) TI9 rfl rfl (by simp at g9; omega) ?_)
      refine WL.g rfl (g9) rfl (o_eq rfl rfl ?_)
      refine WL.c rfl (o_pickA rfl rfl ?_)
      exact WL.nil (⟨congrArg Value.bool (by rw [Bool.eq_iff_iff]; simp_all [lead] <;> first | omega | grind), rfl, rfl⟩)
    · skip
      refine WL.s rfl (g9) rfl ?_
      refine WL.s rfl (g9) rfl ?_
      refine WL.s rfl (g9) rfl ?_
      refine WL.c rfl (o_pickF rfl (g9) ?_)
      exact WL.nil (⟨congrArg Value.bool (by rw [Bool.eq_iff_iff]; simp_all [lead] <;> first | omega | grind), rfl, rfl⟩)
  rintro e w ⟨h13, h0, hw⟩
  refine W.cond h13 (fun c13 => ?_) (fun c13 => ?_)
  · try simp only [decide_eq_true_eq, decide_eq_false_iff_not, Bool.not_eq_true', Bool.not_eq_false', Bool.and_eq_true, Bool.or_eq_true, Bool.and_eq_false_iff, Bool.or_eq_false_iff] at c13
    refine W.seq ?_
    refine W.region ?_
    refine WL.c rfl (o_as ?_)
    refine WL.c rfl (o_as ?_)
    refine WL.nil ?_
    refine W.ret ?_
    refine ret2v rfl (show _ = Value.int _ _ from rfl) (show _ = Value.int _ _ from rfl) ?_
    exact ⟨by simp [numL, c13], hw⟩
  · try simp only [decide_eq_true_eq, decide_eq_false_iff_not, Bool.not_eq_true', Bool.not_eq_false', Bool.and_eq_true, Bool.or_eq_true, Bool.and_eq_false_iff, Bool.or_eq_false_iff] at c13
    refine W.skip ?_
    refine W.seq ?_
    refine W.region ?_
    refine WL.c rfl (o_as ?_)
    refine WL.nil ?_
    refine W.seq ?_
    refine W.seq ?_
    refine W.region ?_
    refine WL.c rfl (o_mvh h0 ?_)
    refine WL.c rfl (o_lenT TI9 rfl ?_)
    refine WL.c rfl (o_mv ?_)
    refine WL.nil ?_
    refine W.block ?_
    refine W.loop (fun e w => ∃ k n : Nat, k ≤ xs.length ∧ e 0 = st xs ∧ e 4 = .int .i64 (n : Int) ∧ e 15 = .int .i64 (xs.length : Int) ∧ e 16 = .int .i64 (k : Int) ∧ n ≤ 2147483647 ∧ numF 0 xs = numF n (xs.drop k) ∧ w = w0) (fun e w => xs.length - (intOf (e 16)).toNat) ?_ ?_
    · exact ⟨0, 0, Nat.zero_le _, h0, rfl, rfl, rfl, by decide, rfl, hw⟩
    rintro e w ⟨k, n, hk, h0, h4, h15, h16, hn, hg, rfl⟩
    refine W.seq ?_
    refine W.region ?_
    refine WL.c rfl (o_lt h16 h15 ?_)
    refine WL.nil ?_
    refine W.seq ?_
    refine W.cond rfl (fun c17 => ?_) (fun c17 => ?_)
    · try simp only [decide_eq_true_eq, decide_eq_false_iff_not, Bool.not_eq_true', Bool.not_eq_false', Bool.and_eq_true, Bool.or_eq_true, Bool.and_eq_false_iff, Bool.or_eq_false_iff] at c17
      refine W.skip ?_
      refine W.seq ?_
      refine W.block ?_
      refine W.seq ?_
      have hk1 : k < xs.length := by omega
      have hcons : xs.drop k = xs[k] :: xs.drop (k + 1) := by rw [List.getElem_cons_drop]
      have hdk := hd xs[k] (List.getElem_mem hk1)
      have hc8 : (xs[k]).toNat < 256 := UInt8.toNat_lt _
      simp [digB] at hdk
      refine W.region ?_
      refine WL.c rfl (o_mvh h16 ?_)
      refine WL.c rfl (o_as ?_)
      refine WL.nil ?_
      refine W.seq ?_
      refine W.region ?_
      refine WL.c rfl (o_mvh h4 ?_)
      refine WL.c rfl (o_muli rfl rfl (by omega) ?_)
      refine WL.c rfl (o_mvh h0 ?_)
      refine WL.c rfl (o_mv ?_)
      refine WL.c rfl (o_idT TI9 rfl rfl (by omega) ?_)
      refine WL.c rfl (n_sub8 (b := 48) rfl rfl (by omega) (by omega) ?_)
      refine WL.c rfl (o_cvU TI5 TI3 rfl (by omega) ?_)
      refine WL.c rfl (o_addi rfl rfl (by omega) ?_)
      refine WL.c rfl (o_as ?_)
      refine WL.nil ?_
      refine W.seq ?_
      refine W.region ?_
      refine WL.c rfl (o_mv ?_)
      refine WL.c rfl (o_gt rfl rfl ?_)
      refine WL.nil ?_
      refine W.cond rfl (fun c28 => ?_) (fun c28 => ?_)
      · try simp only [decide_eq_true_eq, decide_eq_false_iff_not, Bool.not_eq_true', Bool.not_eq_false', Bool.and_eq_true, Bool.or_eq_true, Bool.and_eq_false_iff, Bool.or_eq_false_iff] at c28
        refine W.seq ?_
        refine W.region ?_
        refine WL.c rfl (o_as ?_)
        refine WL.c rfl (o_as ?_)
        refine WL.nil ?_
        refine W.ret ?_
        refine ret2v rfl (show _ = Value.int _ _ from rfl) (show _ = Value.int _ _ from rfl) ?_
        exact ⟨by simp [numL, c13]; rw [hg, hcons, numF, if_pos (by omega)]; exact ⟨rfl, rfl⟩, rfl⟩
      · try simp only [decide_eq_true_eq, decide_eq_false_iff_not, Bool.not_eq_true', Bool.not_eq_false', Bool.and_eq_true, Bool.or_eq_true, Bool.and_eq_false_iff, Bool.or_eq_false_iff] at c28
        refine W.skip ?_
        refine W.region ?_
        refine WL.c rfl (o_addi h16 rfl (by omega) ?_)
        refine WL.c rfl (o_mv ?_)
        refine WL.nil ?_
        refine ⟨⟨k + 1, 10 * n + ((xs[k]).toNat - 48), by omega, h0, (by show Value.int .i64 (10 * (n : Int) + (((xs[k]).toNat - 48 : Nat) : Int)) = _; congr 1), h15, rfl, by omega, by rw [hg, hcons, numF, if_neg (by omega)], rfl⟩, ?_⟩
        show xs.length - ((k : Int) + 1).toNat < _
        rw [h16]; simp [intOf]; omega
    · try simp only [decide_eq_true_eq, decide_eq_false_iff_not, Bool.not_eq_true', Bool.not_eq_false', Bool.and_eq_true, Bool.or_eq_true, Bool.and_eq_false_iff, Bool.or_eq_false_iff] at c17
      refine W.exit ?_
      refine W.seq ?_
      refine W.region ?_
      refine WL.c rfl (o_mvh h4 ?_)
      refine WL.c rfl (o_as ?_)
      refine WL.c rfl (o_as ?_)
      refine WL.nil ?_
      refine W.ret ?_
      refine ret2v rfl (show _ = Value.int _ _ from rfl) (show _ = Value.int _ _ from rfl) ?_
      have : k = xs.length := by omega
      rw [this, List.drop_length] at hg
      exact ⟨by simp [numL, c13, hg, numF], rfl⟩
theorem idx3_spec (xs : List UInt8) (c : UInt8) (w0 : World) : Ca Tryd.prog 74 #[st xs, bv c] w0 (fun v w' => v = .int .i64 (Lib.indexByte xs c) ∧ w' = w0) := by
  refine Ca.of Tryd.func74 Tryd.ntmps74 rfl rfl ?_
  refine W.seq ?_
  refine W.region ?_
  refine WL.c rfl (o_as ?_)
  refine WL.nil ?_
  refine W.seq ?_
  refine W.region ?_
  refine WL.c rfl (o_mv ?_)
  refine WL.c rfl (o_mv ?_)
  refine WL.c rfl (o_callX Tryd.func79 (by kernel_rfl) rfl (by kernel_rfl) (show _ = some Extern.BytealgIndexByte.indexByte by kernel_rfl) (lc rfl (lc rfl ln)) (Lib.run_indexByteString ⟨xs.toArray⟩ (c.toNat : Int) _) ?_)
  refine WL.c rfl (o_as ?_)
  refine WL.nil ?_
  refine W.ret ?_
  refine ret1v rfl (show _ = Value.int _ _ from rfl) ?_
  exact ⟨by simp, rfl⟩
theorem idx_spec (xs : List UInt8) (c : UInt8) (w0 : World) : Ca Tryd.prog 70 #[st xs, bv c] w0 (fun v w' => v = .int .i64 (Lib.indexByte xs c) ∧ w' = w0) := by
  refine Ca.of Tryd.func70 Tryd.ntmps70 rfl rfl ?_
  refine W.seq ?_
  refine W.region ?_
  refine WL.c rfl (o_as ?_)
  refine WL.nil ?_
  refine W.seq ?_
  refine W.region ?_
  refine WL.c rfl (o_mv ?_)
  refine WL.c rfl (o_mv ?_)
  refine WL.c rfl (o_call Tryd.call74 (lc rfl (lc rfl ln)) ((idx3_spec xs c _).mono ?_))
  rintro v7 w7 ⟨rfl, rfl⟩
  refine WL.c rfl (o_as ?_)
  refine WL.nil ?_
  refine W.ret ?_
  refine ret1v rfl (show _ = Value.int _ _ from rfl) ?_
  exact ⟨rfl, rfl⟩
end Go.Proofs.YtanimeifmicmoaaDoor

set_option linter.unusedSimpArgs false
set_option linter.unusedVariables false
set_option maxRecDepth 100000
namespace Go.Proofs.YtanimeifmicmoaaDoor
open Go Go.Vc Go.RowKit Go.Proofs

structure Tk where
  kind : Nat
  text : List UInt8
  n : Nat
  at_ : Nat
  fin : Nat
def tokV (t : Tk) : Array Value := #[.int .i64 (t.kind : Int), st t.text, .int .i64 (t.n : Int), .int .i64 (t.at_ : Int), .int .i64 (t.fin : Int)]
def sub (xs : List UInt8) (l h : Nat) : List UInt8 := (xs.take h).drop l
/-- the token that begins at a place; its error first -/
def oneL (xs : List UInt8) (k : Nat) (h : k < xs.length) : Nat × Tk :=
  if letB xs[k] then
    if 32 < runL goeB xs k - k then (52, ⟨1, [], 0, k, runL goeB xs k⟩) else (0, ⟨1, sub xs k (runL goeB xs k), 0, k, runL goeB xs k⟩)
  else if digB xs[k] then ((numL (sub xs k (runL digB xs k))).2, ⟨2, [], (numL (sub xs k (runL digB xs k))).1, k, runL digB xs k⟩)
  else if markB xs[k] then (0, ⟨3, sub xs k (k + 1), 0, k, k + 1⟩)
  else (50, ⟨0, [], 0, k, 0⟩)
theorem takeWhile_all (p : UInt8 → Bool) : ∀ (l : List UInt8), ∀ c ∈ l.takeWhile p, p c = true
  | [], c, h => by simp at h
  | a :: l, c, h => by
    by_cases ha : p a = true
    · rw [List.takeWhile_cons_of_pos ha] at h
      rcases List.mem_cons.1 h with rfl | h
      · exact ha
      · exact takeWhile_all p l c h
    · rw [List.takeWhile_cons_of_neg ha] at h; simp at h
theorem sub_run (p : UInt8 → Bool) (xs : List UInt8) (k : Nat) : sub xs k (runL p xs k) = (xs.drop k).takeWhile p := by
  unfold sub runL
  rw [List.drop_take, Nat.add_sub_cancel_left]
  have h : ∀ l : List UInt8, l.take (l.takeWhile p).length = l.takeWhile p := by
    intro l
    induction l with
    | nil => rfl
    | cons a l ih => by_cases ha : p a = true <;> simp [ha, ih]
  exact h _
theorem sub_len (xs : List UInt8) (l h : Nat) : (sub xs l h).length ≤ xs.length := by unfold sub; simp; omega

theorem token_spec (xs : List UInt8) (k : Nat) (hk : k < xs.length) (w0 : World) (hlen : xs.length ≤ 9223372036854775807) : Ca Tryd.prog 48 #[st xs, .int .i64 (k : Int)] w0 (fun v w' => v = .tuple #[.agg (tokV (oneL xs k hk).2), .int .i64 ((oneL xs k hk).1 : Int)] ∧ Ext w0 w') := by
  have hr1 := runL_le (p := goeB) (Nat.le_of_lt hk)
  have hr2 := runL_le (p := digB) (Nat.le_of_lt hk)
  have hmk := mark_idx xs[k]
  refine Ca.of Tryd.func48 Tryd.ntmps48 rfl rfl ?_
  refine W.seq ?_
  refine W.region ?_
  refine WL.c rfl (o_alB TI94 ?_)
  intro w4 hB4 hx4 hs4
  refine WL.c rfl (o_as ?_)
  refine WL.nil ?_
  refine W.seq ?_
  refine W.region ?_
  refine WL.c rfl (o_mv ?_)
  refine WL.c rfl (o_bldC (cs := [(.int .i64 0), (.string ⟨#[]⟩), (.int .i64 0), _, (.int .i64 0)]) TI94 (Sizes.cons TI3 (Sizes.cons TI9 (Sizes.cons TI3 (Sizes.cons TI3 (Sizes.cons TI3 Sizes.nil))))) rfl (lcp (show _ = Value.int _ _ from rfl) lnp) rfl rfl ?_)
  refine WL.c rfl (o_alB TI94 ?_)
  intro w6 hB6 hx6 hs6
  replace hB4 := hx6.blk hB4 (fun h => h)
  replace hx6 := hx4.tr hx6
  refine WL.u (o_stA TI94 rfl (show _ = Value.agg (tokV ⟨0, [], 0, k, 0⟩) from rfl) rfl rfl hB6 rfl ?_)
  intro w11 hC ho hs
  replace hB6 : w11.heap[w4.heap.size]? = some (.cells (tokV ⟨0, [], 0, k, 0⟩) 94 (0, 0)) := hC
  replace hB4 := ho.blk hB4 (by show ¬ _ = _; omega)
  replace hx6 := Ext.own hx6 (by omega) ho
  clear ho hC hs
  refine WL.nil ?_
  refine W.seq ?_
  refine W.region ?_
  refine WL.c rfl (o_mv ?_)
  refine WL.c rfl (o_mv ?_)
  refine WL.c rfl (o_idT TI9 rfl rfl (hk) ?_)
  refine WL.c rfl (o_as ?_)
  refine WL.nil ?_
  refine W.seq ?_
  refine W.block ?_
  refine W.seq ?_
  refine W.region ?_
  refine WL.c rfl (o_mv ?_)
  refine WL.c rfl (o_call Tryd.call57 (lc rfl ln) ((letter_spec xs[k] _).mono ?_))
  rintro v18 w18 ⟨rfl, rfl⟩
  refine WL.c rfl (o_as ?_)
  refine WL.nil ?_
  refine W.cond rfl (fun c16 => ?_) (fun c16 => ?_)
  · try simp only [decide_eq_true_eq, decide_eq_false_iff_not, Bool.not_eq_true', Bool.not_eq_false', Bool.and_eq_true, Bool.or_eq_true, Bool.and_eq_false_iff, Bool.or_eq_false_iff] at c16
    refine W.seq ?_
    refine W.region ?_
    refine WL.c rfl (o_fa 0 TI94 rfl TI3 rfl rfl ?_)
    refine WL.u (o_stB TI3 rfl (show _ = Value.int _ _ from rfl) rfl hB6 (show _ < 5 by decide) ?_)
    intro w19 hC ho hs
    replace hB6 : w19.heap[w4.heap.size]? = some (.cells (tokV ⟨1, [], 0, k, 0⟩) 94 (0, 0)) := hC
    replace hB4 := ho.blk hB4 (by show ¬ _ = _; omega)
    replace hx6 := Ext.own hx6 (by omega) ho
    clear ho hC hs
    refine WL.nil ?_
    refine W.seq ?_
    refine W.region ?_
    refine WL.c rfl (o_mv ?_)
    refine WL.c rfl (o_mv ?_)
    refine WL.c rfl (o_call Tryd.call46 (lc rfl (lc rfl (lc rfl ln))) ((run_spec goeB 58 xs k _ (by omega) hlen further_spec Tryd.call58).mono ?_))
    rintro v22 w22 ⟨rfl, rfl⟩
    refine WL.c rfl (o_fa 4 TI94 rfl TI3 rfl rfl ?_)
    refine WL.u (o_stB TI3 rfl (show _ = Value.int _ _ from rfl) rfl hB6 (show _ < 5 by decide) ?_)
    intro w23 hC ho hs
    replace hB6 : w23.heap[w4.heap.size]? = some (.cells (tokV ⟨1, [], 0, k, runL goeB xs k⟩) 94 (0, 0)) := hC
    replace hB4 := ho.blk hB4 (by show ¬ _ = _; omega)
    replace hx6 := Ext.own hx6 (by omega) ho
    clear ho hC hs
    refine WL.nil ?_
    refine W.seq ?_
    refine W.region ?_
    refine WL.c rfl (o_fa 4 TI94 rfl TI3 rfl rfl ?_)
    refine WL.c rfl (o_ld TI3 rfl rfl (cell_of hB6 rfl) ?_)
    refine WL.c rfl (o_mv ?_)
    refine WL.c rfl (o_subi rfl rfl (by dsimp only; omega) ?_)
    refine WL.c rfl (o_gt rfl rfl ?_)
    refine WL.nil ?_
    refine W.cond rfl (fun c28 => ?_) (fun c28 => ?_)
    · try simp only [decide_eq_true_eq, decide_eq_false_iff_not, Bool.not_eq_true', Bool.not_eq_false', Bool.and_eq_true, Bool.or_eq_true, Bool.and_eq_false_iff, Bool.or_eq_false_iff] at c28
      refine W.seq ?_
      refine W.region ?_
      refine WL.c rfl (o_ldA TI94 rfl rfl (cells_all hB6) rfl ?_)
      refine WL.u (o_stA TI94 rfl rfl rfl rfl hB4 rfl ?_)
      intro wE hE hoE hsE
      have hxE := Ext.own hx6 (by omega) hoE
      refine WL.c rfl (o_as ?_)
      refine WL.nil ?_
      refine W.ret ?_
      refine retCT rfl TI94 rfl (show _ = Value.int _ _ from rfl) rfl (cells_all hE) rfl ?_
      have ho : oneL xs k hk = (52, ⟨1, [], 0, k, runL goeB xs k⟩) := by unfold oneL; rw [if_pos c16, if_pos (by omega)]
      rw [ho]; exact ⟨rfl, hxE⟩
    · try simp only [decide_eq_true_eq, decide_eq_false_iff_not, Bool.not_eq_true', Bool.not_eq_false', Bool.and_eq_true, Bool.or_eq_true, Bool.and_eq_false_iff, Bool.or_eq_false_iff] at c28
      refine W.skip ?_
      refine W.seq ?_
      refine W.region ?_
      refine WL.c rfl (o_mv ?_)
      refine WL.c rfl (o_mv ?_)
      refine WL.c rfl (o_fa 4 TI94 rfl TI3 rfl rfl ?_)
      refine WL.c rfl (o_ld TI3 rfl rfl (cell_of hB6 rfl) ?_)
      refine WL.c rfl (o_ssT TI9 rfl (Lo.s rfl) (Hi.s rfl) (by first | (show k ≤ runL goeB xs k; omega) | (show k ≤ k + 1; omega)) (by first | (show runL goeB xs k ≤ _; omega) | (show k + 1 ≤ _; omega)) ?_)
      refine WL.c rfl (o_fa 1 TI94 rfl TI9 rfl rfl ?_)
      refine WL.u (o_stB TI9 rfl (show _ = Value.string _ from rfl) rfl hB6 (show _ < 5 by decide) ?_)
      intro w64 hC ho hs
      first
      | replace hB6 : w64.heap[w4.heap.size]? = some (.cells (tokV ⟨1, sub xs k (runL goeB xs k), 0, k, runL goeB xs k⟩) 94 (0, 0)) := hC
      | replace hB6 : w64.heap[w4.heap.size]? = some (.cells (tokV ⟨3, sub xs k (k + 1), 0, k, k + 1⟩) 94 (0, 0)) := hC
      replace hB4 := ho.blk hB4 (by show ¬ _ = _; omega)
      replace hx6 := Ext.own hx6 (by omega) ho
      clear ho hC hs
      refine WL.nil ?_
      refine W.seq ?_
      refine W.region ?_
      refine WL.c rfl (o_ldA TI94 rfl rfl (cells_all hB6) rfl ?_)
      refine WL.u (o_stA TI94 rfl rfl rfl rfl hB4 rfl ?_)
      intro wE hE hoE hsE
      have hxE := Ext.own hx6 (by omega) hoE
      refine WL.c rfl (o_as ?_)
      refine WL.nil ?_
      refine W.ret ?_
      refine retCT rfl TI94 rfl (show _ = Value.int _ _ from rfl) rfl (cells_all hE) rfl ?_
      first
      | (have ho : oneL xs k hk = (0, ⟨1, sub xs k (runL goeB xs k), 0, k, runL goeB xs k⟩) := by unfold oneL; rw [if_pos c16, if_neg (by omega)]
         rw [ho]; exact ⟨rfl, hxE⟩)
      | (have ho : oneL xs k hk = (0, ⟨3, sub xs k (k + 1), 0, k, k + 1⟩) := by unfold oneL; rw [if_neg (by simp [c16]), if_neg (by simp [c30]), if_pos (by rw [← hmk]; simp; omega)]
         rw [ho]; exact ⟨rfl, hxE⟩)
  · try simp only [decide_eq_true_eq, decide_eq_false_iff_not, Bool.not_eq_true', Bool.not_eq_false', Bool.and_eq_true, Bool.or_eq_true, Bool.and_eq_false_iff, Bool.or_eq_false_iff] at c16
    refine W.seq ?_
    refine W.region ?_
    refine WL.c rfl (o_mv ?_)
    refine WL.c rfl (o_call Tryd.call68 (lc rfl ln) ((digit_spec xs[k] _).mono ?_))
    rintro v32 w32 ⟨rfl, rfl⟩
    refine WL.c rfl (o_as ?_)
    refine WL.nil ?_
    refine W.cond rfl (fun c30 => ?_) (fun c30 => ?_)
    · try simp only [decide_eq_true_eq, decide_eq_false_iff_not, Bool.not_eq_true', Bool.not_eq_false', Bool.and_eq_true, Bool.or_eq_true, Bool.and_eq_false_iff, Bool.or_eq_false_iff] at c30
      refine W.seq ?_
      refine W.region ?_
      refine WL.c rfl (o_fa 0 TI94 rfl TI3 rfl rfl ?_)
      refine WL.u (o_stB TI3 rfl (show _ = Value.int _ _ from rfl) rfl hB6 (show _ < 5 by decide) ?_)
      intro w33 hC ho hs
      replace hB6 : w33.heap[w4.heap.size]? = some (.cells (tokV ⟨2, [], 0, k, 0⟩) 94 (0, 0)) := hC
      replace hB4 := ho.blk hB4 (by show ¬ _ = _; omega)
      replace hx6 := Ext.own hx6 (by omega) ho
      clear ho hC hs
      refine WL.nil ?_
      refine W.seq ?_
      refine W.region ?_
      refine WL.c rfl (o_mv ?_)
      refine WL.c rfl (o_mv ?_)
      refine WL.c rfl (o_call Tryd.call46 (lc rfl (lc rfl (lc rfl ln))) ((run_spec digB 68 xs k _ (by omega) hlen digit_spec Tryd.call68).mono ?_))
      rintro v36 w36 ⟨rfl, rfl⟩
      refine WL.c rfl (o_fa 4 TI94 rfl TI3 rfl rfl ?_)
      refine WL.u (o_stB TI3 rfl (show _ = Value.int _ _ from rfl) rfl hB6 (show _ < 5 by decide) ?_)
      intro w37 hC ho hs
      replace hB6 : w37.heap[w4.heap.size]? = some (.cells (tokV ⟨2, [], 0, k, runL digB xs k⟩) 94 (0, 0)) := hC
      replace hB4 := ho.blk hB4 (by show ¬ _ = _; omega)
      replace hx6 := Ext.own hx6 (by omega) ho
      clear ho hC hs
      refine WL.nil ?_
      refine W.seq ?_
      refine W.region ?_
      refine WL.c rfl (o_mv ?_)
      refine WL.c rfl (o_mv ?_)
      refine WL.c rfl (o_fa 4 TI94 rfl TI3 rfl rfl ?_)
      refine WL.c rfl (o_ld TI3 rfl rfl (cell_of hB6 rfl) ?_)
      refine WL.c rfl (o_ssT TI9 rfl (Lo.s rfl) (Hi.s rfl) (by show k ≤ runL digB xs k; omega) (by show runL digB xs k ≤ _; omega) ?_)
      refine WL.c rfl (o_call Tryd.call69 (lc rfl ln) ((number_spec (sub xs k (runL digB xs k)) _ (by have := sub_len xs k (runL digB xs k); omega) (by rw [sub_run]; exact takeWhile_all digB _)).mono ?_))
      rintro v44 w44 ⟨rfl, rfl⟩
      refine WL.c rfl (o_mv ?_)
      refine WL.c rfl (o_ext rfl rfl ?_)
      refine WL.c rfl (o_ext rfl rfl ?_)
      refine WL.c rfl (o_as ?_)
      refine WL.c rfl (o_as ?_)
      refine WL.nil ?_
      refine W.seq ?_
      refine W.region ?_
      refine WL.c rfl (o_mv ?_)
      refine WL.c rfl (o_fa 2 TI94 rfl TI3 rfl rfl ?_)
      refine WL.u (o_stB TI3 rfl (show _ = Value.int _ _ from rfl) rfl hB6 (show _ < 5 by decide) ?_)
      intro w48 hC ho hs
      replace hB6 : w48.heap[w4.heap.size]? = some (.cells (tokV ⟨2, [], (numL (sub xs k (runL digB xs k))).1, k, runL digB xs k⟩) 94 (0, 0)) := hC
      replace hB4 := ho.blk hB4 (by show ¬ _ = _; omega)
      replace hx6 := Ext.own hx6 (by omega) ho
      clear ho hC hs
      refine WL.nil ?_
      refine W.seq ?_
      refine W.region ?_
      refine WL.c rfl (o_ldA TI94 rfl rfl (cells_all hB6) rfl ?_)
      refine WL.c rfl (o_mv ?_)
      refine WL.u (o_stA TI94 rfl rfl rfl rfl hB4 rfl ?_)
      intro wE hE hoE hsE
      have hxE := Ext.own hx6 (by omega) hoE
      refine WL.c rfl (o_as ?_)
      refine WL.nil ?_
      refine W.ret ?_
      refine retCT rfl TI94 rfl (show _ = Value.int _ _ from rfl) rfl (cells_all hE) rfl ?_
      have ho : oneL xs k hk = ((numL (sub xs k (runL digB xs k))).2, ⟨2, [], (numL (sub xs k (runL digB xs k))).1, k, runL digB xs k⟩) := by unfold oneL; rw [if_neg (by simp [c16]), if_pos c30]
      rw [ho]; exact ⟨rfl, hxE⟩
    · try simp only [decide_eq_true_eq, decide_eq_false_iff_not, Bool.not_eq_true', Bool.not_eq_false', Bool.and_eq_true, Bool.or_eq_true, Bool.and_eq_false_iff, Bool.or_eq_false_iff] at c30
      refine W.seq ?_
      refine W.region ?_
      refine WL.c rfl (o_mv ?_)
      refine WL.c rfl (o_call Tryd.call70 (lc rfl (lc rfl ln)) ((idx_spec marks xs[k] _).mono ?_))
      rintro v53 w53 ⟨rfl, rfl⟩
      refine WL.c rfl (o_ge rfl rfl ?_)
      refine WL.c rfl (o_as ?_)
      refine WL.nil ?_
      refine W.cond rfl (fun c51 => ?_) (fun c51 => ?_)
      · try simp only [decide_eq_true_eq, decide_eq_false_iff_not, Bool.not_eq_true', Bool.not_eq_false', Bool.and_eq_true, Bool.or_eq_true, Bool.and_eq_false_iff, Bool.or_eq_false_iff] at c51
        refine W.seq ?_
        refine W.region ?_
        refine WL.c rfl (o_fa 0 TI94 rfl TI3 rfl rfl ?_)
        refine WL.u (o_stB TI3 rfl (show _ = Value.int _ _ from rfl) rfl hB6 (show _ < 5 by decide) ?_)
        intro w55 hC ho hs
        replace hB6 : w55.heap[w4.heap.size]? = some (.cells (tokV ⟨3, [], 0, k, 0⟩) 94 (0, 0)) := hC
        replace hB4 := ho.blk hB4 (by show ¬ _ = _; omega)
        replace hx6 := Ext.own hx6 (by omega) ho
        clear ho hC hs
        refine WL.nil ?_
        refine W.region ?_
        refine WL.c rfl (o_mv ?_)
        refine WL.c rfl (o_addi rfl rfl (by omega) ?_)
        refine WL.c rfl (o_fa 4 TI94 rfl TI3 rfl rfl ?_)
        refine WL.u (o_stB TI3 rfl (show _ = Value.int _ _ from rfl) rfl hB6 (show _ < 5 by decide) ?_)
        intro w58 hC ho hs
        replace hB6 : w58.heap[w4.heap.size]? = some (.cells (tokV ⟨3, [], 0, k, k + 1⟩) 94 (0, 0)) := hC
        replace hB4 := ho.blk hB4 (by show ¬ _ = _; omega)
        replace hx6 := Ext.own hx6 (by omega) ho
        clear ho hC hs
        refine WL.nil ?_
        refine W.seq ?_
        refine W.region ?_
        refine WL.c rfl (o_mv ?_)
        refine WL.c rfl (o_mv ?_)
        refine WL.c rfl (o_fa 4 TI94 rfl TI3 rfl rfl ?_)
        refine WL.c rfl (o_ld TI3 rfl rfl (cell_of hB6 rfl) ?_)
        refine WL.c rfl (o_ssT TI9 rfl (Lo.s rfl) (Hi.s rfl) (by first | (show k ≤ runL goeB xs k; omega) | (show k ≤ k + 1; omega)) (by first | (show runL goeB xs k ≤ _; omega) | (show k + 1 ≤ _; omega)) ?_)
        refine WL.c rfl (o_fa 1 TI94 rfl TI9 rfl rfl ?_)
        refine WL.u (o_stB TI9 rfl (show _ = Value.string _ from rfl) rfl hB6 (show _ < 5 by decide) ?_)
        intro w64 hC ho hs
        first
        | replace hB6 : w64.heap[w4.heap.size]? = some (.cells (tokV ⟨1, sub xs k (runL goeB xs k), 0, k, runL goeB xs k⟩) 94 (0, 0)) := hC
        | replace hB6 : w64.heap[w4.heap.size]? = some (.cells (tokV ⟨3, sub xs k (k + 1), 0, k, k + 1⟩) 94 (0, 0)) := hC
        replace hB4 := ho.blk hB4 (by show ¬ _ = _; omega)
        replace hx6 := Ext.own hx6 (by omega) ho
        clear ho hC hs
        refine WL.nil ?_
        refine W.seq ?_
        refine W.region ?_
        refine WL.c rfl (o_ldA TI94 rfl rfl (cells_all hB6) rfl ?_)
        refine WL.u (o_stA TI94 rfl rfl rfl rfl hB4 rfl ?_)
        intro wE hE hoE hsE
        have hxE := Ext.own hx6 (by omega) hoE
        refine WL.c rfl (o_as ?_)
        refine WL.nil ?_
        refine W.ret ?_
        refine retCT rfl TI94 rfl (show _ = Value.int _ _ from rfl) rfl (cells_all hE) rfl ?_
        first
        | (have ho : oneL xs k hk = (0, ⟨1, sub xs k (runL goeB xs k), 0, k, runL goeB xs k⟩) := by unfold oneL; rw [if_pos c16, if_neg (by omega)]
           rw [ho]; exact ⟨rfl, hxE⟩)
        | (have ho : oneL xs k hk = (0, ⟨3, sub xs k (k + 1), 0, k, k + 1⟩) := by unfold oneL; rw [if_neg (by simp [c16]), if_neg (by simp [c30]), if_pos (by rw [← hmk]; simp; omega)]
           rw [ho]; exact ⟨rfl, hxE⟩)
      · try simp only [decide_eq_true_eq, decide_eq_false_iff_not, Bool.not_eq_true', Bool.not_eq_false', Bool.and_eq_true, Bool.or_eq_true, Bool.and_eq_false_iff, Bool.or_eq_false_iff] at c51
        refine W.seq ?_
        refine W.region ?_
        refine WL.c rfl (o_ldA TI94 rfl rfl (cells_all hB6) rfl ?_)
        refine WL.u (o_stA TI94 rfl rfl rfl rfl hB4 rfl ?_)
        intro wE hE hoE hsE
        have hxE := Ext.own hx6 (by omega) hoE
        refine WL.c rfl (o_as ?_)
        refine WL.nil ?_
        refine W.ret ?_
        refine retCT rfl TI94 rfl (show _ = Value.int _ _ from rfl) rfl (cells_all hE) rfl ?_
        have ho : oneL xs k hk = (50, ⟨0, [], 0, k, 0⟩) := by unfold oneL; rw [if_neg (by simp [c16]), if_neg (by simp [c30]), if_neg (by rw [← hmk]; simp; omega)]
        rw [ho]; exact ⟨rfl, hxE⟩

theorem oneL_fin (xs : List UInt8) (k : Nat) (h : k < xs.length) (he : (oneL xs k h).1 = 0) : k < (oneL xs k h).2.fin ∧ (oneL xs k h).2.fin ≤ xs.length := by
  have go : ∀ p : UInt8 → Bool, p xs[k] = true → k < runL p xs k ∧ runL p xs k ≤ xs.length := fun p hp => by
    have h1 := runL_go h hp
    have h2 := runL_le (p := p) (k := k + 1) (xs := xs) (by omega)
    omega
  unfold oneL at he ⊢
  split
  · rename_i hl
    have := go goeB (by simp [goeB, hl])
    split
    · exact this
    · exact this
  · split
    · rename_i hd; exact go digB hd
    · split
      · exact ⟨by show k < k + 1; omega, by show k + 1 ≤ _; omega⟩
      · rename_i h1 h2 h3; rw [if_neg h1, if_neg h2, if_neg h3] at he; simp at he
def blankB (c : UInt8) : Bool := decide (c.toNat = 9) || decide (c.toNat = 10) || decide (c.toNat = 32)
/-- the tokens from a place on; the first error and its place -/
def cutL (xs : List UInt8) (k : Nat) : List Tk × Nat × Nat :=
  if h : k < xs.length then
    if (xs[k]).toNat = 35 then cutL xs (runL nnlB xs (k + 1))
    else if blankB xs[k] then cutL xs (k + 1)
    else if he : (oneL xs k h).1 = 0 then ((oneL xs k h).2 :: (cutL xs (oneL xs k h).2.fin).1, (cutL xs (oneL xs k h).2.fin).2)
    else ([], (oneL xs k h).1, k)
  else ([], 0, 0)
termination_by xs.length - k
decreasing_by
  · have := (runL_le (p := nnlB) (k := k + 1) (xs := xs) (by omega)).1; omega
  · omega
  · have := oneL_fin xs k h he; omega
theorem cutL_eq (xs : List UInt8) (k : Nat) : cutL xs k = if h : k < xs.length then
    if (xs[k]).toNat = 35 then cutL xs (runL nnlB xs (k + 1))
    else if blankB xs[k] then cutL xs (k + 1)
    else if he : (oneL xs k h).1 = 0 then ((oneL xs k h).2 :: (cutL xs (oneL xs k h).2.fin).1, (cutL xs (oneL xs k h).2.fin).2)
    else ([], (oneL xs k h).1, k)
  else ([], 0, 0) := by rw [cutL]
/-- what Cut answers -/
def cutA (xs : List UInt8) : List Tk × Nat × Nat := if 65536 < xs.length then ([], 4, 0) else if (cutL xs 0).2.1 = 0 then cutL xs 0 else ([], (cutL xs 0).2)
def flat (ts : List Tk) : List Value := ts.flatMap fun t => (tokV t).toList
theorem flat_snoc (ts : List Tk) (t : Tk) : flat (ts ++ [t]) = flat ts ++ (Value.agg (tokV t)).cells.toList := by simp [flat, Value.cells]
theorem tok_one (t : Tk) : ∀ a ∈ (Value.agg (tokV t)).cells.toList, a.oneCell' = true := by
  intro a ha
  simp [Value.cells, tokV] at ha
  rcases ha with rfl | rfl | rfl | rfl | rfl <;> rfl
def faultV (e k : Nat) : Array Value := #[.int .i64 (e : Int), .int .i64 (k : Int)]
theorem maxLen_eq : maxLen = 9223372036854775807 := rfl

set_option maxHeartbeats 1000000 in
theorem cut_spec (xs : List UInt8) (w0 : World) (hlen : xs.length ≤ 9223372036854775807) : Ca Tryd.prog 26 #[st xs] w0 (fun v w' => ∃ v1, v = .tuple #[v1, .agg (faultV (cutA xs).2.1 (cutA xs).2.2)] ∧ w'.ownsRow w0.heap.size 94 5 v1 (cutA xs).1.length (flat (cutA xs).1) ∧ Ext w0 w') := by
  refine Ca.of Tryd.func26 Tryd.ntmps26 rfl rfl ?_
  refine W.seq ?_
  refine W.region ?_
  refine WL.c rfl (o_as ?_)
  refine WL.c rfl (o_alB TI39 ?_)
  intro w3 hB3 hx3 hs3
  refine WL.nil ?_
  refine W.scope ?_
  refine W.seq ?_
  refine W.seq ?_
  refine W.region ?_
  refine WL.c rfl (o_mv ?_)
  refine WL.c rfl (o_lenT TI9 rfl ?_)
  refine WL.c rfl (o_gt rfl rfl ?_)
  refine WL.nil ?_
  refine W.cond rfl (fun c10 => ?_) (fun c10 => ?_)
  · try simp only [decide_eq_true_eq, decide_eq_false_iff_not, Bool.not_eq_true', Bool.not_eq_false', Bool.and_eq_true, Bool.or_eq_true, Bool.and_eq_false_iff, Bool.or_eq_false_iff] at c10
    refine W.seq ?_
    refine W.region ?_
    refine WL.c rfl (o_bldC (cs := [(.int .i64 4), (.int .i64 0)]) TI39 (Sizes.cons TI28 (Sizes.cons TI3 Sizes.nil)) rfl (lcp (show _ = Value.int _ _ from rfl) lnp) rfl rfl ?_)
    refine WL.c rfl (o_as ?_)
    refine WL.u (o_stA TI39 rfl (show _ = Value.agg (faultV 4 0) from rfl) rfl rfl hB3 rfl ?_)
    intro wE hE hoE hsE
    have hxE := Ext.own hx3 (Nat.le_refl _) hoE
    refine WL.nil ?_
    refine W.ret ?_
    refine retTC rfl TI39 rfl (show _ = Value.slice _ _ _ from rfl) rfl (cells_all hE) rfl ?_
    have ha : cutA xs = ([], 4, 0) := by unfold cutA; rw [if_pos (by omega)]
    rw [ha]; exact ⟨_, rfl, World.ownsRow_nil _ _ _ _, hxE⟩
  · try simp only [decide_eq_true_eq, decide_eq_false_iff_not, Bool.not_eq_true', Bool.not_eq_false', Bool.and_eq_true, Bool.or_eq_true, Bool.and_eq_false_iff, Bool.or_eq_false_iff] at c10
    refine W.skip ?_
    refine W.seq ?_
    refine W.region ?_
    refine WL.c rfl (o_as ?_)
    refine WL.nil ?_
    refine W.seq ?_
    refine W.region ?_
    refine WL.c rfl (o_as ?_)
    refine WL.nil ?_
    refine W.seq ?_
    refine W.label ?_
    refine W.seq ?_
    refine W.block ?_
    refine W.loop (fun e w => ∃ (k : Nat) (ts : List Tk) (v4 : Value), k ≤ xs.length ∧ ts.length ≤ k ∧ e 0 = st xs ∧ e 3 = .pointer (some ⟨w0.heap.size, 0, none⟩) ∧ e 4 = v4 ∧ e 5 = .int .i64 (k : Int) ∧ w.ownsRow (w0.heap.size + 1) 94 5 v4 ts.length (flat ts) ∧ w.heap[w0.heap.size]? = some (.cells (faultV 0 0) 39 (0, 0)) ∧ cutL xs 0 = (ts ++ (cutL xs k).1, (cutL xs k).2) ∧ Ext w0 w ∧ w0.heap.size + 1 ≤ w.heap.size) (fun e w => xs.length - (intOf (e 5)).toNat) ?_ ?_
    · exact ⟨0, [], _, Nat.zero_le _, Nat.le_refl _, rfl, rfl, rfl, rfl, World.ownsRow_nil _ _ _ _, hB3, by simp, hx3, by omega⟩
    rintro e w ⟨k, ts, v4, hk, hts, h0, h3, h4, h5, hown, hB3, hcut, hx3, hsz⟩
    have hm5 := h5
    have hc0 := cutL_eq xs k
    refine W.seq ?_
    refine W.seq ?_
    by_cases hk1 : k < xs.length
    · skip
      rw [dif_pos hk1] at hc0
      have hlen5 : k < 65536 := by omega
      refine W.region ?_
      refine WL.c rfl (o_mvh h5 ?_)
      refine WL.c rfl (o_mvh h0 ?_)
      refine WL.c rfl (o_lenT TI9 rfl ?_)
      refine WL.c rfl (o_lt rfl rfl ?_)
      refine WL.nil ?_
      refine W.condT' rfl (by simp; omega) ?_
      refine W.skip ?_
      refine W.block ?_
      refine W.seq ?_
      refine W.seq ?_
      refine W.region ?_
      refine WL.c rfl (o_mvh h0 ?_)
      refine WL.c rfl (o_mvh h5 ?_)
      refine WL.c rfl (o_idT TI9 rfl rfl (hk1) ?_)
      refine WL.nil ?_
      refine W.block ?_
      refine W.seq ?_
      refine W.block ?_
      refine W.block ?_
      refine W.block ?_
      refine W.seq ?_
      refine W.block ?_
      refine W.seq ?_
      refine W.seq ?_
      refine W.seq ?_
      refine W.region ?_
      refine WL.c rfl (o_eq rfl rfl ?_)
      refine WL.c rfl (o_as ?_)
      refine WL.nil ?_
      refine W.cond rfl (fun c19 => ?_) (fun c19 => ?_)
      · try simp only [decide_eq_true_eq, decide_eq_false_iff_not, Bool.not_eq_true', Bool.not_eq_false', Bool.and_eq_true, Bool.or_eq_true, Bool.and_eq_false_iff, Bool.or_eq_false_iff] at c19
        refine W.exit ?_
        refine W.seq ?_
        refine W.seq ?_
        refine W.region ?_
        refine WL.c rfl (o_mvh h0 ?_)
        refine WL.c rfl (o_mvh h5 ?_)
        refine WL.c rfl (o_call Tryd.call46 (lc rfl (lc rfl (lc rfl ln))) ((run_spec nnlB 47 xs k _ (by omega) hlen nnl_spec Tryd.call47).mono ?_))
        rintro v29 w29 ⟨rfl, rfl⟩
        refine WL.c rfl (o_as ?_)
        refine WL.nil ?_
        refine W.exit ?_
        have hgo : runL nnlB xs k = runL nnlB xs (k + 1) := runL_go hk1 (by simp [nnlB]; omega)
        have hrl := runL_le (p := nnlB) (k := k + 1) (xs := xs) (by omega)
        rw [if_pos (by omega)] at hc0
        refine ⟨⟨runL nnlB xs k, ts, v4, by omega, by omega, h0, h3, h4, rfl, hown, hB3, by rw [hcut, hc0, hgo], hx3, hsz⟩, ?_⟩
        show xs.length - ((runL nnlB xs k : Nat) : Int).toNat < _
        rw [hm5]; simp [intOf]; omega
      · try simp only [decide_eq_true_eq, decide_eq_false_iff_not, Bool.not_eq_true', Bool.not_eq_false', Bool.and_eq_true, Bool.or_eq_true, Bool.and_eq_false_iff, Bool.or_eq_false_iff] at c19
        refine W.skip ?_
        refine W.seq ?_
        refine W.seq ?_
        refine W.region ?_
        refine WL.c rfl (o_eq rfl rfl ?_)
        refine WL.c rfl (o_as ?_)
        refine WL.nil ?_
        refine W.cond rfl (fun c21 => ?_) (fun c21 => ?_)
        · try simp only [decide_eq_true_eq, decide_eq_false_iff_not, Bool.not_eq_true', Bool.not_eq_false', Bool.and_eq_true, Bool.or_eq_true, Bool.and_eq_false_iff, Bool.or_eq_false_iff] at c21
          refine W.exit ?_
          refine W.seq ?_
          refine W.seq ?_
          refine W.region ?_
          refine WL.c rfl (o_mvh h5 ?_)
          refine WL.c rfl (o_addi rfl rfl (by omega) ?_)
          refine WL.c rfl (o_as ?_)
          refine WL.nil ?_
          refine W.exit ?_
          rw [if_neg (by omega), if_pos (by simp [blankB]; omega)] at hc0
          refine ⟨⟨k + 1, ts, v4, by omega, by omega, h0, h3, h4, rfl, hown, hB3, by rw [hcut, hc0], hx3, hsz⟩, ?_⟩
          show xs.length - ((k : Int) + 1).toNat < _
          rw [hm5]; simp [intOf]; omega
        · try simp only [decide_eq_true_eq, decide_eq_false_iff_not, Bool.not_eq_true', Bool.not_eq_false', Bool.and_eq_true, Bool.or_eq_true, Bool.and_eq_false_iff, Bool.or_eq_false_iff] at c21
          refine W.skip ?_
          refine W.seq ?_
          refine W.seq ?_
          refine W.region ?_
          refine WL.c rfl (o_eq rfl rfl ?_)
          refine WL.c rfl (o_as ?_)
          refine WL.nil ?_
          refine W.cond rfl (fun c23 => ?_) (fun c23 => ?_)
          · try simp only [decide_eq_true_eq, decide_eq_false_iff_not, Bool.not_eq_true', Bool.not_eq_false', Bool.and_eq_true, Bool.or_eq_true, Bool.and_eq_false_iff, Bool.or_eq_false_iff] at c23
            refine W.exit ?_
            refine W.seq ?_
            refine W.seq ?_
            refine W.region ?_
            refine WL.c rfl (o_mvh h5 ?_)
            refine WL.c rfl (o_addi rfl rfl (by omega) ?_)
            refine WL.c rfl (o_as ?_)
            refine WL.nil ?_
            refine W.exit ?_
            rw [if_neg (by omega), if_pos (by simp [blankB]; omega)] at hc0
            refine ⟨⟨k + 1, ts, v4, by omega, by omega, h0, h3, h4, rfl, hown, hB3, by rw [hcut, hc0], hx3, hsz⟩, ?_⟩
            show xs.length - ((k : Int) + 1).toNat < _
            rw [hm5]; simp [intOf]; omega
          · try simp only [decide_eq_true_eq, decide_eq_false_iff_not, Bool.not_eq_true', Bool.not_eq_false', Bool.and_eq_true, Bool.or_eq_true, Bool.and_eq_false_iff, Bool.or_eq_false_iff] at c23
            refine W.skip ?_
            refine W.seq ?_
            refine W.region ?_
            refine WL.c rfl (o_eq rfl rfl ?_)
            refine WL.c rfl (o_as ?_)
            refine WL.nil ?_
            refine W.cond rfl (fun c25 => ?_) (fun c25 => ?_)
            · try simp only [decide_eq_true_eq, decide_eq_false_iff_not, Bool.not_eq_true', Bool.not_eq_false', Bool.and_eq_true, Bool.or_eq_true, Bool.and_eq_false_iff, Bool.or_eq_false_iff] at c25
              refine W.exit ?_
              refine W.seq ?_
              refine W.seq ?_
              refine W.region ?_
              refine WL.c rfl (o_mvh h5 ?_)
              refine WL.c rfl (o_addi rfl rfl (by omega) ?_)
              refine WL.c rfl (o_as ?_)
              refine WL.nil ?_
              refine W.exit ?_
              rw [if_neg (by omega), if_pos (by simp [blankB]; omega)] at hc0
              refine ⟨⟨k + 1, ts, v4, by omega, by omega, h0, h3, h4, rfl, hown, hB3, by rw [hcut, hc0], hx3, hsz⟩, ?_⟩
              show xs.length - ((k : Int) + 1).toNat < _
              rw [hm5]; simp [intOf]; omega
            · try simp only [decide_eq_true_eq, decide_eq_false_iff_not, Bool.not_eq_true', Bool.not_eq_false', Bool.and_eq_true, Bool.or_eq_true, Bool.and_eq_false_iff, Bool.or_eq_false_iff] at c25
              refine W.skip ?_
              refine W.exit ?_
              refine W.seq ?_
              have hnb : ¬ blankB xs[k] = true := by simp [blankB]; omega
              rw [if_neg (by omega), if_neg hnb] at hc0
              refine W.region ?_
              refine WL.c rfl (o_mvh h0 ?_)
              refine WL.c rfl (o_mvh h5 ?_)
              refine WL.c rfl (o_call Tryd.call48 (lc rfl (lc rfl ln)) ((token_spec xs k hk1 _ hlen).mono ?_))
              rintro v35 w35 ⟨rfl, hx35⟩
              replace hB3 := hx35.blk hB3 (fun h => h)
              replace hown := own_ext hown hx35
              have hsz35 := hx35.size
              replace hx3 := hx3.tr hx35
              refine WL.c rfl (o_mv ?_)
              refine WL.c rfl (o_ext rfl rfl ?_)
              refine WL.c rfl (o_ext rfl rfl ?_)
              refine WL.c rfl (o_alB TI94 ?_)
              intro w6 hB6 hx6 hs6
              replace hB3 := hx6.blk hB3 (fun h => h)
              have hlt := hown.lt
              replace hown := own_ext hown hx6
              replace hx3 := hx3.tr hx6
              refine WL.u (o_stA TI94 rfl rfl rfl rfl hB6 rfl ?_)
              intro w36 hB6 ho6 hs36
              replace hB3 := ho6.blk hB3 (by show ¬ _ = _; omega)
              replace hown := own_only hown ho6 (fun j hj he => by have := hlt j hj; omega)
              replace hx3 := Ext.own hx3 (by omega) ho6
              refine WL.c rfl (o_as ?_)
              refine WL.nil ?_
              refine W.seq ?_
              refine W.seq ?_
              refine W.region ?_
              refine WL.c rfl (o_mv ?_)
              refine WL.c rfl (o_ne rfl rfl ?_)
              refine WL.nil ?_
              refine W.cond rfl (fun c39 => ?_) (fun c39 => ?_)
              · try simp only [decide_eq_true_eq, decide_eq_false_iff_not, Bool.not_eq_true', Bool.not_eq_false', Bool.and_eq_true, Bool.or_eq_true, Bool.and_eq_false_iff, Bool.or_eq_false_iff] at c39
                refine W.seq ?_
                refine W.region ?_
                refine WL.c rfl (o_mv ?_)
                refine WL.c rfl (o_mvh h5 ?_)
                refine WL.c rfl (o_bldC (cs := [_, _]) TI39 (Sizes.cons TI28 (Sizes.cons TI3 Sizes.nil)) rfl (lcp (show _ = Value.int _ _ from rfl) (lcp (show _ = Value.int _ _ from rfl) lnp)) rfl rfl ?_)
                refine WL.c rfl (o_as ?_)
                refine WL.u (o_stA TI39 h3 (show _ = Value.agg (faultV (oneL xs k hk1).1 k) from rfl) rfl rfl hB3 rfl ?_)
                intro wE hE hoE hsE
                have hxE := Ext.own hx3 (Nat.le_refl _) hoE
                refine WL.nil ?_
                refine W.ret ?_
                refine retTC rfl TI39 rfl (show _ = Value.slice _ _ _ from rfl) h3 (cells_all hE) rfl ?_
                rw [dif_neg (by omega)] at hc0
                have ha : cutA xs = ([], (oneL xs k hk1).1, k) := by unfold cutA; rw [if_neg (by omega), hcut, hc0, if_neg (by show ¬ (oneL xs k hk1).1 = 0; omega)]
                rw [ha]; exact ⟨_, rfl, World.ownsRow_nil _ _ _ _, hxE⟩
              · try simp only [decide_eq_true_eq, decide_eq_false_iff_not, Bool.not_eq_true', Bool.not_eq_false', Bool.and_eq_true, Bool.or_eq_true, Bool.and_eq_false_iff, Bool.or_eq_false_iff] at c39
                have hz : (oneL xs k hk1).1 = 0 := by omega
                have hfin := oneL_fin xs k hk1 hz
                rw [dif_pos hz] at hc0
                refine W.skip ?_
                refine W.seq ?_
                refine W.region ?_
                refine WL.c rfl (o_mvh h4 ?_)
                refine WL.c rfl (o_ldA TI94 rfl rfl (cells_all hB6) rfl ?_)
                refine WL.ap1 ((w0.heap.size + 1)) rfl rfl TI62 TI94 (show _ = Value.agg (tokV (oneL xs k hk1).2) from rfl) rfl hown (by decide) (by decide) rfl (tok_one _) rfl (by rw [maxLen_eq]; omega) (by omega) (by omega) ?_
                intro v46 w46 hown46 ho46
                replace hB3 := ho46.blk hB3 (fun h => by have := (hown.lt _ h).1; omega)
                replace hB6 := ho46.blk hB6 (fun h => by have := (hlt _ h).2; omega)
                rw [← flat_snoc] at hown46
                have hx46 : Ext w0 w46 := hx3.trans' ho46 (fun _ h => h) (fun j hj he => by have := (hown.lt _ he).1; omega)
                refine WL.c rfl (o_as ?_)
                refine WL.nil ?_
                refine W.region ?_
                refine WL.c rfl (o_fa 4 TI94 rfl TI3 rfl rfl ?_)
                refine WL.c rfl (o_ld TI3 rfl rfl (cell_of hB6 rfl) ?_)
                refine WL.c rfl (o_as ?_)
                refine WL.nil ?_
                refine ⟨⟨(oneL xs k hk1).2.fin, ts ++ [(oneL xs k hk1).2], v46, by omega, by simp; omega, h0, h3, rfl, rfl, by rw [List.length_append]; exact hown46, hB3, by rw [hcut, hc0]; simp, hx46, by have := ho46.size; omega⟩, ?_⟩
                show xs.length - (((oneL xs k hk1).2.fin : Nat) : Int).toNat < _
                rw [hm5]; simp [intOf]; omega
    · skip
      rw [dif_neg hk1] at hc0
      refine W.region ?_
      refine WL.c rfl (o_mvh h5 ?_)
      refine WL.c rfl (o_mvh h0 ?_)
      refine WL.c rfl (o_lenT TI9 rfl ?_)
      refine WL.c rfl (o_lt rfl rfl ?_)
      refine WL.nil ?_
      refine W.condF' rfl (by simp; omega) ?_
      refine W.exit ?_
      refine W.seq ?_
      refine W.region ?_
      refine WL.c rfl (o_mvh h4 ?_)
      refine WL.c rfl (o_bldC (cs := [(.int .i64 0), (.int .i64 0)]) TI39 (Sizes.cons TI28 (Sizes.cons TI3 Sizes.nil)) rfl lnp rfl rfl ?_)
      refine WL.c rfl (o_as ?_)
      refine WL.u (o_stA TI39 h3 (show _ = Value.agg (faultV 0 0) from rfl) rfl rfl hB3 rfl ?_)
      intro wE hE hoE hsE
      have hxE := Ext.own hx3 (Nat.le_refl _) hoE
      refine WL.nil ?_
      refine W.ret ?_
      refine retTC rfl TI39 rfl (show _ = v4 from rfl) h3 (cells_all hE) rfl ?_
      have ha : cutA xs = (ts, 0, 0) := by unfold cutA; rw [if_neg (by omega), hcut, hc0]; simp
      rw [ha]; exact ⟨_, rfl, own_mono (own_only hown hoE (fun j hj he => by have := (hown.lt j hj).1; omega)) (by omega), hxE⟩

deriving instance DecidableEq for Tk
theorem mark_or (c : UInt8) : markB c = (decide (c.toNat = 61) || decide (c.toNat = 59) || decide (c.toNat = 60) || decide (c.toNat = 62) || decide (c.toNat = 44) || decide (c.toNat = 58) || decide (c.toNat = 123) || decide (c.toNat = 125)) := by
  have h : ∀ n : Fin 256, markB (UInt8.ofNat n.1) = (decide (n.1 = 61) || decide (n.1 = 59) || decide (n.1 = 60) || decide (n.1 = 62) || decide (n.1 = 44) || decide (n.1 = 58) || decide (n.1 = 123) || decide (n.1 = 125)) := by decide +kernel
  have := h ⟨c.toNat, UInt8.toNat_lt c⟩
  simpa using this

end Go.Proofs.YtanimeifmicmoaaDoor

set_option linter.unusedSimpArgs false
set_option linter.unusedVariables false
set_option maxRecDepth 100000
namespace Go.Proofs.YtanimeifmicmoaaDoor
open Go Go.Vc Go.RowKit Go.Proofs

def valF (n : Nat) (xs : List UInt8) : Nat := xs.foldl (fun n c => 10 * n + (c.toNat - 48)) n
theorem valF_cons (n : Nat) (c : UInt8) (cs : List UInt8) : valF n (c :: cs) = valF (10 * n + (c.toNat - 48)) cs := by simp only [valF, List.foldl_cons]
theorem valF_ge : ∀ (xs : List UInt8) (n : Nat), n * 10 ^ xs.length ≤ valF n xs
  | [], n => by simp [valF]
  | c :: cs, n => by
    rw [valF_cons, List.length_cons, Nat.pow_succ]
    refine Nat.le_trans ?_ (valF_ge cs _)
    rw [Nat.mul_comm (10 ^ cs.length) 10, ← Nat.mul_assoc]
    exact Nat.mul_le_mul_right _ (by omega)
theorem numF_val : ∀ (xs : List UInt8) (n : Nat), n ≤ 2147483647 → numF n xs = if valF n xs ≤ 2147483647 then (valF n xs, 0) else (0, 51)
  | [], n, h => by simp [numF, valF, h]
  | c :: cs, n, h => by
    rw [valF_cons, numF]
    by_cases hh : 2147483647 < 10 * n + (c.toNat - 48)
    · rw [if_pos hh, if_neg]
      have := valF_ge cs (10 * n + (c.toNat - 48))
      have h1 : 1 ≤ 10 ^ cs.length := Nat.one_le_pow _ _ (by omega)
      have h2 := Nat.mul_le_mul_left (10 * n + (c.toNat - 48)) h1
      omega
    · rw [if_neg hh]; exact numF_val cs _ (by omega)
theorem numL_val (xs : List UInt8) (hl : lead xs = false) : numL xs = if valF 0 xs ≤ 2147483647 then (valF 0 xs, 0) else (0, 51) := by
  unfold numL
  rw [hl]; exact numF_val xs 0 (by omega)
end Go.Proofs.YtanimeifmicmoaaDoor

set_option linter.unusedSimpArgs false
set_option linter.unusedVariables false
set_option maxRecDepth 100000
namespace Go.Proofs.YtanimeifmicmoaaDoor
open Go Go.Vc Go.RowKit Go.Proofs

structure Ex where
  kind : Int
  n : Int
  name : List UInt8
  label : List UInt8
  tag : Int
  kids : Int
  at_ : Int
deriving instance DecidableEq for Ex
def exV (x : Ex) : List Value := [.int .i64 x.kind, .int .i64 x.n, st x.name, st x.label, .int .i64 x.tag, .int .i64 x.kids, .int .i64 x.at_]
def ex0 : Ex := ⟨0, 0, [], [], 0, 0, 0⟩
def exM : Ex := ⟨0, 0, [], [], 0, 0, -1⟩
inductive Pr (α : Type) where
  | ok (a : α) (i : Nat)
  | bad (e i : Nat)
def Pr.bind {α β : Type} (r : Pr α) (f : α → Nat → Pr β) : Pr β := match r with
  | .ok a i => f a i
  | .bad e i => .bad e i
def tk0 : Tk := ⟨0, [], 0, 0, 0⟩
def tkA (T : List Tk) (i : Nat) : Tk := T.getD i tk0
def plc (T : List Tk) (fin i : Nat) : Nat := if i < T.length then (tkA T i).at_ else fin
def isT (t : Tk) (k : Nat) (s : List UInt8) : Bool := decide (t.kind = k) && decide (t.text = s)
def wantT (T : List Tk) (i k : Nat) (s : List UInt8) : Pr Unit := if isT (tkA T i) k s = true then .ok () (i + 1) else .bad 60 i
def nmT (t : Tk) : Bool := decide (t.kind = 1) && nameB t.text
def nameT (T : List Tk) (i : Nat) : Pr (List UInt8) := if nmT (tkA T i) = true then .ok (tkA T i).text (i + 1) else .bad 60 i
def numT (T : List Tk) (i : Nat) : Pr Nat := if (tkA T i).kind = 2 then .ok (tkA T i).n (i + 1) else .bad 60 i
def leafE (s : List UInt8) : Option (Int × Int) := if s = [117, 56] then some (1, 1) else if s = [117, 49, 54] then some (1, 2) else if s = [117, 51, 50] then some (1, 4) else if s = [117, 54, 52] then some (1, 8) else if s = [98, 111, 111, 108] then some (2, 0) else if s = [118, 97, 114, 105, 110, 116] then some (3, 0) else none
def bgnT (t : Tk) : Bool := decide (t.kind = 1) && (decide (t.text = [118, 101, 99, 116, 111, 114]) || decide (t.text = [108, 105, 115, 116]) || decide (t.text = [111, 112, 116, 105, 111, 110]) || decide (t.text = [117, 110, 105, 111, 110]) || decide (t.text = [115, 116, 114, 117, 99, 116]) || (leafE t.text).isSome || nameB t.text)
/-- what stands ahead of the colon; full: there are asx many asx may be -/
def headT (T : List Tk) (u full : Bool) (i : Nat) (x : Ex) : Pr Ex :=
  if u then (if full = true ∧ (tkA T i).kind = 2 then .bad 5 i else (numT T i).bind fun n i => .ok { x with tag := n } i)
  else (if full = true ∧ nmT (tkA T i) = true then .bad 5 i else (nameT T i).bind fun s i => .ok { x with label := s } i)
/-- fields or arms, behind the bracket -/
def rowsT (E : Nat → Ex → Pr (List Ex)) (T : List Tk) (u : Bool) : Nat → Nat → Nat → Pr (List Ex × Nat)
  | 0, i, _ => .bad 0 i
  | g + 1, i, k => (headT T u (decide (k = 64)) i { ex0 with at_ := i }).bind fun x i => (wantT T i 3 [58]).bind fun _ i => (E i x).bind fun N i =>
    if isT (tkA T i) 3 [44] = true then (rowsT E T u g (i + 1) (k + 1)).bind fun r i => .ok (N ++ r.1, r.2) i
    else (wantT T i 3 [125]).bind fun _ i => .ok (N, k + 1) i
def atE (i : Nat) (x : Ex) : Ex := if x.at_ < 0 then { x with at_ := i } else x
def Ex.lf (x : Ex) (k n : Int) : Ex := { x with kind := k, n := n }
def Ex.vec (x : Ex) (b : Bool) (n : Int) : Ex := { x with kind := if b then 5 else 4, kids := 1, n := n }
def Ex.opt (x : Ex) : Ex := { x with kind := 6, kids := 1 }
def Ex.br (x : Ex) (u : Bool) (k : Int) : Ex := { x with kind := if u then 7 else 8, kids := k }
def Ex.nm (x : Ex) (s : List UInt8) : Ex := { x with kind := 9, name := s }
/-- a type: its nodes; their places are tokens' numbers -/
def exprT (T : List Tk) : Nat → Nat → Ex → Nat → Pr (List Ex)
  | 0, i, _, _ => .bad 0 i
  | f + 1, i, x, deep =>
    if bgnT (tkA T i) = false then .bad 60 i
    else if 16 < deep then .bad 61 i
    else match leafE (tkA T i).text with
    | some kn => .ok [(atE i x).lf kn.1 kn.2] (i + 1)
    | none =>
      if (tkA T i).text = [118, 101, 99, 116, 111, 114] ∨ (tkA T i).text = [108, 105, 115, 116] then
        (wantT T (i + 1) 3 [60]).bind fun _ j => (exprT T f j exM (deep + 1)).bind fun N j => (wantT T j 3 [44]).bind fun _ j => (numT T j).bind fun n j => (wantT T j 3 [62]).bind fun _ j =>
          .ok ((atE i x).vec (decide ((tkA T i).text = [108, 105, 115, 116])) n :: N) j
      else if (tkA T i).text = [111, 112, 116, 105, 111, 110] then
        (wantT T (i + 1) 3 [60]).bind fun _ j => (exprT T f j exM (deep + 1)).bind fun N j => (wantT T j 3 [62]).bind fun _ j => .ok ((atE i x).opt :: N) j
      else if (tkA T i).text = [117, 110, 105, 111, 110] then
        ((wantT T (i + 1) 3 [123]).bind fun _ j => rowsT (fun i x => exprT T f i x (deep + 1)) T true f j 0).bind fun r j => .ok ((atE i x).br true (r.2 : Nat) :: r.1) j
      else if (tkA T i).text = [115, 116, 114, 117, 99, 116] then
        ((wantT T (i + 1) 3 [123]).bind fun _ j => rowsT (fun i x => exprT T f i x (deep + 1)) T false f j 0).bind fun r j => .ok ((atE i x).br false (r.2 : Nat) :: r.1) j
      else .ok [(atE i x).nm (tkA T i).text] (i + 1)
structure Df where
  name : List UInt8
  at_ : Int
  ty : List Ex
deriving instance DecidableEq for Df
/-- the definitions from a token on; k there are -/
def defsT (T : List Tk) : Nat → Nat → Nat → Pr (List Df)
  | 0, i, _ => .bad 0 i
  | g + 1, i, k => if T.length ≤ i then .ok [] i
    else if k = 256 ∧ isT (tkA T i) 1 [116, 121, 112, 101] = true then .bad 5 i
    else (wantT T i 1 [116, 121, 112, 101]).bind fun _ i => (nameT T i).bind fun s j => (wantT T j 3 [61]).bind fun _ j => (exprT T (T.length + 2) j exM 0).bind fun N j => (wantT T j 3 [59]).bind fun _ j =>
      (defsT T g j (k + 1)).bind fun D j => .ok (⟨s, i, N⟩ :: D) j
/-- a node at its token's place -/
def plE (T : List Tk) (x : Ex) : Ex := if x.at_ < 0 then x else { x with at_ := (tkA T x.at_.toNat).at_ }
def plD (T : List Tk) (d : Df) : Df := ⟨d.name, (tkA T d.at_.toNat).at_, d.ty.map (plE T)⟩
def pan (e a : Nat) : PanicEntry := { v := .iface 66 (.agg #[.int .i64 (e : Int), .int .i64 (a : Int)]), recovered := false }
/-- the parser -/
structure Psr (w : World) (B0 p : Nat) (lv : Value) (T : List Tk) (fin at_ : Nat) : Prop where
  cell : w.heap[p]? = some (.cells #[lv, .int .i64 (at_ : Int), .int .i64 (fin : Int)] 69 (0, 0))
  toks : Sl w 5 lv T.length (flat T)
  off : ∀ b, lv.ownBlock = some b → b < p
  hp : p < B0
  le : at_ ≤ T.length
  small : T.length ≤ 1000000
  b0 : B0 ≤ w.heap.size
theorem Psr.keep {w w' : World} {F : Nat → Prop} {B0 p fin at_ : Nat} {lv : Value} {T : List Tk} (h : Psr w B0 p lv T fin at_) (ho : Only F w w') (hF : ∀ k, F k → p < k) : Psr w' B0 p lv T fin at_ :=
  ⟨ho.blk h.cell (fun hp => by have := hF p hp; omega), h.toks.only ho (fun b hb hk => by have := hF b hk; have := h.off b hb; omega), h.off, h.hp, h.le, h.small, Nat.le_trans h.b0 ho.size⟩
theorem Psr.ext {w w' : World} {B0 p fin at_ : Nat} {lv : Value} {T : List Tk} (h : Psr w B0 p lv T fin at_) (ho : Ext w w') : Psr w' B0 p lv T fin at_ := h.keep ho (fun _ h => h.elim)
theorem Psr.move {w w' : World} {B0 p fin at_ a2 : Nat} {lv : Value} {T : List Tk} (h : Psr w B0 p lv T fin at_) (hc : w'.heap[p]? = some (.cells #[lv, .int .i64 (a2 : Int), .int .i64 (fin : Int)] 69 (0, 0))) (ho : Only (fun k => k = p) w w') (hle : a2 ≤ T.length) : Psr w' B0 p lv T fin a2 :=
  ⟨hc, h.toks.only ho (fun b hb hk => by have := h.off b hb; omega), h.off, h.hp, hle, h.small, Nat.le_trans h.b0 ho.size⟩
theorem tkA_lt {T : List Tk} {i : Nat} (h : i < T.length) : tkA T i = T[i] := by simp [tkA, List.getD_eq_getElem?_getD, h]
theorem tkA_ge {T : List Tk} {i : Nat} (h : T.length ≤ i) : tkA T i = tk0 := by simp [tkA, List.getD_eq_getElem?_getD, h]
theorem tkA_kind {T : List Tk} {i k : Nat} (hk : 1 ≤ k) (h : (tkA T i).kind = k) : i < T.length := Nat.lt_of_not_le (fun h1 => by rw [tkA_ge h1] at h; simp only [tk0] at h; omega)
theorem plc_lt {T : List Tk} {fin i : Nat} (h : i < T.length) : plc T fin i = (tkA T i).at_ := if_pos h
theorem isT_lt {T : List Tk} {i k : Nat} {s : List UInt8} (hk : 1 ≤ k) (h : isT (tkA T i) k s = true) : i < T.length := by
  simp only [isT, Bool.and_eq_true, decide_eq_true_eq] at h
  exact tkA_kind hk h.1
theorem flat_at (ts : List Tk) : ∀ (k : Nat) (hk : k < ts.length), ((flat ts).drop (k * 5)).take 5 = (tokV ts[k]).toList := by
  induction ts with
  | nil => intro k hk; simp at hk
  | cons t ts ih =>
    intro k hk
    have h5 : (tokV t).toList.length = 5 := rfl
    cases k with
    | zero => rw [Nat.zero_mul, List.drop_zero, flat, List.flatMap_cons]; exact List.take_left' h5
    | succ k =>
      have h1 : (k + 1) * 5 - (tokV t).toList.length = k * 5 := by rw [h5]; omega
      have := ih k (by simpa using hk)
      rw [flat, List.flatMap_cons, List.drop_append, List.drop_eq_nil_of_le (by rw [h5]; omega), List.nil_append, h1]
      exact this
theorem Sl.tok {w : World} {v : Value} {ts : List Tk} (h : Sl w 5 v ts.length (flat ts)) {k : Nat} (hk : k < ts.length) : ∃ b o c, v = .slice (some ⟨b, o, none⟩) ts.length c ∧ Cells w b (o + k * 5) (tokV (tkA ts k)).toList := by
  rw [tkA_lt hk]
  rcases h.val with ⟨hz, h0⟩ | ⟨b, o, c, rfl, hnc, hc⟩
  · omega
  · exact ⟨b, o, c, rfl, by rw [← flat_at ts k hk]; exact hc.sub _ _⟩

theorem place_spec (B0 p : Nat) (lv : Value) (T : List Tk) (fin at_ : Nat) (w0 : World) (h : Psr w0 B0 p lv T fin at_) : Ca Tryd.prog 31 #[.pointer (some ⟨p, 0, none⟩)] w0 (fun v w' => v = .int .i64 (plc T fin at_ : Int) ∧ Ext w0 w') := by
  have hcell := h.cell
  have hT := h.toks
  have hsm := h.small
  have hx : Ext w0 w0 := Only.refl _ _
  refine Ca.of Tryd.func31 Tryd.ntmps31 rfl rfl ?_
  refine W.seq ?_
  refine W.region ?_
  refine WL.c rfl (o_ash (show _ = Value.int _ _ from rfl) ?_)
  refine WL.nil ?_
  refine W.seq ?_
  refine W.seq ?_
  refine W.quiet rfl (by kernel_rfl) ?_
  refine WQ.c rfl ((QO.o rfl fun _ => o_mvh (by first | exact (show _ = Value.pointer _ from rfl) | exact rfl) ⟨rfl, rfl⟩)) ?_
  refine WQ.c rfl ((QO.r fun _ => r_nil rfl)) ?_
  refine WQ.c rfl ((QO.o rfl fun _ => o_fa 1 TI69 rfl TI3 rfl rfl ⟨rfl, rfl⟩)) ?_
  refine WQ.c rfl ((QO.o rfl fun _ => o_ld TI3 rfl rfl (cell_of hcell rfl) ⟨rfl, rfl⟩)) ?_
  refine WQ.c rfl ((QO.o rfl fun _ => o_mvh (by first | exact (show _ = Value.pointer _ from rfl) | exact rfl) ⟨rfl, rfl⟩)) ?_
  refine WQ.c rfl ((QO.r fun _ => r_nil rfl)) ?_
  refine WQ.c rfl ((QO.o rfl fun _ => o_fa 0 TI69 rfl TI62 rfl rfl ⟨rfl, rfl⟩)) ?_
  refine WQ.c rfl ((QO.o rfl fun _ => o_ld TI62 rfl rfl (cell_of hcell rfl) ⟨rfl, rfl⟩)) ?_
  refine WQ.c rfl ((QO.r fun _ => r_lenR TI62 rfl hT)) ?_
  refine WQ.c rfl ((QO.o rfl fun _ => o_lt rfl rfl ⟨rfl, rfl⟩)) ?_
  refine WQ.nil ?_
  intro nq
  have hxq1 := Only.drewN w0 nq
  replace h := h.ext hxq1
  replace hcell := h.cell
  replace hT := h.toks
  replace hx := hx.tr hxq1
  generalize World.drewN w0 nq = wq1 at *
  refine W.cond rfl (fun c12 => ?_) (fun c12 => ?_)
  · try simp only [decide_eq_true_eq, decide_eq_false_iff_not, Bool.not_eq_true', Bool.not_eq_false', Bool.and_eq_true, Bool.or_eq_true, Bool.and_eq_false_iff, Bool.or_eq_false_iff] at c12
    obtain ⟨tb, to_, tc, rfl, htc⟩ := Sl.tok h.toks (k := at_) (by omega)
    refine W.seq ?_
    refine W.quiet rfl (by kernel_rfl) ?_
    refine WQ.c rfl ((QO.o rfl fun _ => o_mvh (by first | exact (show _ = Value.pointer _ from rfl) | exact rfl) ⟨rfl, rfl⟩)) ?_
    refine WQ.c rfl ((QO.r fun _ => r_nil rfl)) ?_
    refine WQ.c rfl ((QO.o rfl fun _ => o_fa 0 TI69 rfl TI62 rfl rfl ⟨rfl, rfl⟩)) ?_
    refine WQ.c rfl ((QO.o rfl fun _ => o_ld TI62 rfl rfl (cell_of hcell rfl) ⟨rfl, rfl⟩)) ?_
    refine WQ.c rfl ((QO.o rfl fun _ => o_mvh (by first | exact (show _ = Value.pointer _ from rfl) | exact rfl) ⟨rfl, rfl⟩)) ?_
    refine WQ.c rfl ((QO.r fun _ => r_nil rfl)) ?_
    refine WQ.c rfl ((QO.o rfl fun _ => o_fa 1 TI69 rfl TI3 rfl rfl ⟨rfl, rfl⟩)) ?_
    refine WQ.c rfl ((QO.o rfl fun _ => o_ld TI3 rfl rfl (cell_of hcell rfl) ⟨rfl, rfl⟩)) ?_
    refine WQ.c rfl ((QO.o rfl fun _ => o_ixB (i := at_) TI62 TI94 rfl rfl (by omega) ⟨rfl, rfl⟩)) ?_
    refine WQ.c rfl ((QO.o rfl fun _ => o_fa 3 TI94 rfl TI3 rfl rfl ⟨rfl, rfl⟩)) ?_
    refine WQ.c rfl ((QO.o rfl fun _ => o_ld TI3 rfl rfl (htc 3 _ rfl) ⟨rfl, rfl⟩)) ?_
    refine WQ.c rfl ((QO.o rfl fun _ => o_ash (show _ = Value.int _ _ from rfl) ⟨rfl, rfl⟩)) ?_
    refine WQ.nil ?_
    intro nq
    have hxq2 := Only.drewN wq1 nq
    replace h := h.ext hxq2
    replace hcell := h.cell
    replace hT := h.toks
    replace hx := hx.tr hxq2
    generalize World.drewN wq1 nq = wq2 at *
    refine W.ret ?_
    refine ret1v rfl (show _ = Value.int _ _ from rfl) ?_
    exact ⟨by rw [plc_lt (by omega)], hx⟩
  · try simp only [decide_eq_true_eq, decide_eq_false_iff_not, Bool.not_eq_true', Bool.not_eq_false', Bool.and_eq_true, Bool.or_eq_true, Bool.and_eq_false_iff, Bool.or_eq_false_iff] at c12
    refine W.skip ?_
    refine W.seq ?_
    refine W.region ?_
    refine WL.c rfl (o_mvh (by first | exact (show _ = Value.pointer _ from rfl) | exact rfl) ?_)
    refine WL.c rfl (o_nil rfl ?_)
    refine WL.c rfl (o_fa 2 TI69 rfl TI3 rfl rfl ?_)
    refine WL.c rfl (o_ld TI3 rfl rfl (cell_of hcell rfl) ?_)
    refine WL.c rfl (o_ash (show _ = Value.int _ _ from rfl) ?_)
    refine WL.nil ?_
    refine W.ret ?_
    refine ret1v rfl (show _ = Value.int _ _ from rfl) ?_
    exact ⟨by rw [plc, if_neg (by omega)], hx⟩
theorem fails_spec (B0 p : Nat) (lv : Value) (T : List Tk) (fin at_ : Nat) (w0 : World) (h : Psr w0 B0 p lv T fin at_) (e : Nat) : CaX Tryd.prog 29 #[.pointer (some ⟨p, 0, none⟩), .int .i64 (e : Int)] w0 (fun _ _ => False) (fun ch w' => ch = [pan e (plc T fin at_)] ∧ Ext w0 w') := by
  refine CaX.of Tryd.func29 Tryd.ntmps29 rfl rfl ?_
  refine W.region ?_
  refine WL.c rfl (o_mvh (show _ = Value.int _ _ from rfl) ?_)
  refine WL.c rfl (o_mvh (by first | exact (show _ = Value.pointer _ from rfl) | exact rfl) ?_)
  refine WL.c rfl (o_call Tryd.call31 (lc rfl ln) ((place_spec B0 p lv T fin at_ _ h).mono ?_))
  rintro v6 w6 ⟨rfl, hx6⟩
  refine WL.c rfl (o_bldC (cs := [_, _]) TI39 (Sizes.cons TI28 (Sizes.cons TI3 Sizes.nil)) rfl (lcp (show _ = Value.int _ _ from rfl) (lcp (show _ = Value.int _ _ from rfl) lnp)) rfl rfl ?_)
  refine WL.c rfl (o_bld TI66 (Sizes.cons TI39 Sizes.nil) rfl rfl ?_)
  refine WL.c rfl (o_mkI TI66 rfl rfl ?_)
  refine WL.ux (ox_panic (show _ = Value.iface _ _ from rfl) ?_)
  exact ⟨rfl, hx6⟩
theorem peek_spec (B0 p : Nat) (lv : Value) (T : List Tk) (fin at_ : Nat) (w0 : World) (h : Psr w0 B0 p lv T fin at_) : Ca Tryd.prog 49 #[.pointer (some ⟨p, 0, none⟩)] w0 (fun v w' => v = Value.agg (tokV (tkA T at_)) ∧ Ext w0 w') := by
  have hcell := h.cell
  have hT := h.toks
  have hsm := h.small
  have hx : Ext w0 w0 := Only.refl _ _
  have hcell0 := hcell
  refine Ca.of Tryd.func49 Tryd.ntmps49 rfl rfl ?_
  refine W.seq ?_
  refine W.region ?_
  refine WL.c rfl (o_alB TI94 ?_)
  intro w2 hC2 hx2 hs2
  replace h := h.ext hx2
  replace hcell := h.cell
  replace hT := h.toks
  replace hx := hx.tr hx2
  obtain ⟨c2, hc2⟩ : ∃ c2, c2 = w0.heap.size := ⟨_, rfl⟩
  rw [← hc2] at hC2 hs2 ⊢
  have hcp : ¬ p = c2 := fun he => by have := (Array.getElem?_eq_some_iff.1 hcell0).1; omega
  refine WL.nil ?_
  refine W.seq ?_
  refine W.seq ?_
  refine W.quiet rfl (by kernel_rfl) ?_
  refine WQ.c rfl ((QO.o rfl fun _ => o_mvh (by first | exact (show _ = Value.pointer _ from rfl) | exact rfl) ⟨rfl, rfl⟩)) ?_
  refine WQ.c rfl ((QO.r fun _ => r_nil rfl)) ?_
  refine WQ.c rfl ((QO.o rfl fun _ => o_fa 1 TI69 rfl TI3 rfl rfl ⟨rfl, rfl⟩)) ?_
  refine WQ.c rfl ((QO.o rfl fun _ => o_ld TI3 rfl rfl (cell_of hcell rfl) ⟨rfl, rfl⟩)) ?_
  refine WQ.c rfl ((QO.o rfl fun _ => o_mvh (by first | exact (show _ = Value.pointer _ from rfl) | exact rfl) ⟨rfl, rfl⟩)) ?_
  refine WQ.c rfl ((QO.r fun _ => r_nil rfl)) ?_
  refine WQ.c rfl ((QO.o rfl fun _ => o_fa 0 TI69 rfl TI62 rfl rfl ⟨rfl, rfl⟩)) ?_
  refine WQ.c rfl ((QO.o rfl fun _ => o_ld TI62 rfl rfl (cell_of hcell rfl) ⟨rfl, rfl⟩)) ?_
  refine WQ.c rfl ((QO.r fun _ => r_lenR TI62 rfl hT)) ?_
  refine WQ.c rfl ((QO.o rfl fun _ => o_lt rfl rfl ⟨rfl, rfl⟩)) ?_
  refine WQ.nil ?_
  intro nq
  have hxq1 := Only.drewN w2 nq
  replace h := h.ext hxq1
  replace hcell := h.cell
  replace hT := h.toks
  replace hx := hx.tr hxq1
  replace hC2 := hxq1.blk hC2 (fun h => h)
  generalize World.drewN w2 nq = wq1 at *
  refine W.cond rfl (fun c12 => ?_) (fun c12 => ?_)
  · try simp only [decide_eq_true_eq, decide_eq_false_iff_not, Bool.not_eq_true', Bool.not_eq_false', Bool.and_eq_true, Bool.or_eq_true, Bool.and_eq_false_iff, Bool.or_eq_false_iff] at c12
    obtain ⟨tb, to_, tc, rfl, htc⟩ := Sl.tok h.toks (k := at_) (by omega)
    refine W.seq ?_
    refine W.tail 10 rfl (by kernel_rfl) ?_
    refine WS.c rfl ((SO.o rfl (o_mvh (by first | exact (show _ = Value.pointer _ from rfl) | exact rfl) ⟨rfl, rfl⟩))) ?_
    refine WS.c rfl ((SO.r (r_nil rfl))) ?_
    refine WS.c rfl ((SO.o rfl (o_fa 0 TI69 rfl TI62 rfl rfl ⟨rfl, rfl⟩))) ?_
    refine WS.c rfl ((SO.o rfl (o_ld TI62 rfl rfl (cell_of hcell rfl) ⟨rfl, rfl⟩))) ?_
    refine WS.c rfl ((SO.o rfl (o_mvh (by first | exact (show _ = Value.pointer _ from rfl) | exact rfl) ⟨rfl, rfl⟩))) ?_
    refine WS.c rfl ((SO.r (r_nil rfl))) ?_
    refine WS.c rfl ((SO.o rfl (o_fa 1 TI69 rfl TI3 rfl rfl ⟨rfl, rfl⟩))) ?_
    refine WS.c rfl ((SO.o rfl (o_ld TI3 rfl rfl (cell_of hcell rfl) ⟨rfl, rfl⟩))) ?_
    refine WS.c rfl ((SO.o rfl (o_ixB (i := at_) TI62 TI94 rfl rfl (by omega) ⟨rfl, rfl⟩))) ?_
    refine WS.c rfl ((SO.o rfl (o_ldA TI94 rfl rfl htc rfl ⟨rfl, rfl⟩))) ?_
    refine WS.nil ?_
    refine WL.u (o_stA TI94 rfl (show _ = Value.agg (tokV (tkA T at_)) from rfl) rfl rfl hC2 rfl ?_)
    intro wE hE hoE hsE
    refine WL.nil ?_
    refine W.ret ?_
    refine retC rfl TI94 rfl rfl (cells_all hE) rfl ?_
    exact ⟨rfl, (hx.tr (Only.drew _)).trans' hoE (fun _ h => h) (fun k hk he => by omega)⟩
  · try simp only [decide_eq_true_eq, decide_eq_false_iff_not, Bool.not_eq_true', Bool.not_eq_false', Bool.and_eq_true, Bool.or_eq_true, Bool.and_eq_false_iff, Bool.or_eq_false_iff] at c12
    refine W.skip ?_
    refine W.seq ?_
    refine W.region ?_
    refine WL.c rfl (o_bldC (cs := [(.int .i64 0), (.string ⟨#[]⟩), (.int .i64 0), (.int .i64 0), (.int .i64 0)]) TI94 (Sizes.cons TI3 (Sizes.cons TI9 (Sizes.cons TI3 (Sizes.cons TI3 (Sizes.cons TI3 Sizes.nil))))) rfl lnp rfl rfl ?_)
    refine WL.u (o_stA TI94 rfl (show _ = Value.agg (tokV tk0) from rfl) rfl rfl hC2 rfl ?_)
    intro wE hE hoE hsE
    refine WL.nil ?_
    refine W.ret ?_
    refine retC rfl TI94 rfl rfl (cells_all hE) rfl ?_
    exact ⟨by rw [tkA_ge (by omega)], hx.trans' hoE (fun _ h => h) (fun k hk he => by omega)⟩
theorem is_spec (B0 p : Nat) (lv : Value) (T : List Tk) (fin at_ : Nat) (w0 : World) (h : Psr w0 B0 p lv T fin at_) (k : Nat) (s : List UInt8) : Ca Tryd.prog 28 #[.pointer (some ⟨p, 0, none⟩), .int .i64 (k : Int), st s] w0 (fun v w' => v = .bool (isT (tkA T at_) k s) ∧ Ext w0 w') := by
  have hx : Ext w0 w0 := Only.refl _ _
  have hsm := h.small
  have hle := h.le
  refine Ca.of Tryd.func28 Tryd.ntmps28 rfl rfl ?_
  refine W.seq ?_
  refine W.region ?_
  refine WL.c rfl (o_ash (show _ = Value.bool _ from rfl) ?_)
  refine WL.nil ?_
  refine W.seq ?_
  refine W.region ?_
  refine WL.c rfl (o_mvh (by first | exact (show _ = Value.pointer _ from rfl) | exact rfl) ?_)
  refine WL.c rfl (o_call Tryd.call49 (lc rfl ln) ((peek_spec B0 p lv T fin at_ _ h).mono ?_))
  rintro v9 w9 ⟨rfl, hx9⟩
  replace h := h.ext hx9
  replace hx := hx.tr hx9
  refine WL.c rfl (o_alB TI94 ?_)
  intro wa7 hCa hxa hsa
  refine WL.u (o_stA TI94 rfl (show _ = Value.agg (tokV (tkA T at_)) from rfl) rfl rfl hCa rfl ?_)
  intro wb7 hB7 hob hsb
  have hxb := Ext.own hxa (Nat.le_refl _) hob
  clear hCa hxa hsa hob hsb
  replace h := h.ext hxb
  replace hx := hx.tr hxb
  refine WL.nil ?_
  refine W.seq ?_
  refine W.region ?_
  refine WL.c rfl (o_fa 0 TI94 rfl TI3 rfl rfl ?_)
  refine WL.c rfl (o_ld TI3 rfl rfl (cell_of hB7 rfl) ?_)
  refine WL.c rfl (o_mvh (show _ = Value.int _ _ from rfl) ?_)
  refine WL.c rfl (o_eq rfl rfl ?_)
  refine WL.c rfl (o_mvh (show _ = Value.bool _ from rfl) ?_)
  refine WL.sp 4 rfl (fun g14 => ?_) (fun g14 => ?_)
  · skip
    refine WL.g rfl (g14) rfl (o_fa 1 TI94 rfl TI9 rfl rfl ?_)
    refine WL.g rfl (g14) rfl (o_ld TI9 rfl rfl (cell_of hB7 rfl) ?_)
    refine WL.g rfl (g14) rfl (o_mvh (show _ = Value.string _ from rfl) ?_)
    refine WL.g rfl (g14) rfl (o_eqT rfl rfl ?_)
    refine WL.c rfl (o_pickA rfl rfl ?_)
    refine WL.c rfl (o_ash (show _ = Value.bool _ from rfl) ?_)
    refine WL.nil ?_
    refine W.ret ?_
    refine ret1v rfl (show _ = Value.bool _ from rfl) ?_
    exact ⟨congrArg Value.bool (by rw [Bool.eq_iff_iff]; simp_all [isT] <;> omega), hx⟩
  · skip
    refine WL.s rfl (g14) rfl ?_
    refine WL.s rfl (g14) rfl ?_
    refine WL.s rfl (g14) rfl ?_
    refine WL.s rfl (g14) rfl ?_
    refine WL.c rfl (o_pickF rfl (g14) ?_)
    refine WL.c rfl (o_ash (show _ = Value.bool _ from rfl) ?_)
    refine WL.nil ?_
    refine W.ret ?_
    refine ret1v rfl (show _ = Value.bool _ from rfl) ?_
    exact ⟨congrArg Value.bool (by rw [Bool.eq_iff_iff]; simp_all [isT] <;> omega), hx⟩
theorem want_spec (B0 p : Nat) (lv : Value) (T : List Tk) (fin at_ : Nat) (w0 : World) (h : Psr w0 B0 p lv T fin at_) (k : Nat) (hk : 1 ≤ k) (s : List UInt8) : CaX Tryd.prog 30 #[.pointer (some ⟨p, 0, none⟩), .int .i64 (k : Int), st s] w0 (fun _ w' => wantT T at_ k s = .ok () (at_ + 1) ∧ Psr w' B0 p lv T fin (at_ + 1) ∧ Only (fun k => k = p) w0 w') (fun ch w' => ∃ e j, wantT T at_ k s = .bad e j ∧ ch = [pan e (plc T fin j)] ∧ Ext w0 w') := by
  have hx : Ext w0 w0 := Only.refl _ _
  have hsm := h.small
  have hle := h.le
  refine CaX.of Tryd.func30 Tryd.ntmps30 rfl rfl ?_
  refine W.seq ?_
  refine W.seq ?_
  refine W.region ?_
  refine WL.c rfl (o_mvh (by first | exact (show _ = Value.pointer _ from rfl) | exact rfl) ?_)
  refine WL.c rfl (o_mvh (show _ = Value.int _ _ from rfl) ?_)
  refine WL.c rfl (o_mvh (show _ = Value.string _ from rfl) ?_)
  refine WL.c rfl (o_call Tryd.call28 (lc rfl (lc rfl (lc rfl ln))) ((is_spec B0 p lv T fin at_ _ h k s).mono ?_))
  rintro v9 w9 ⟨rfl, hx9⟩
  replace h := h.ext hx9
  replace hx := hx.tr hx9
  refine WL.c rfl (o_not' rfl ?_)
  refine WL.nil ?_
  refine W.cond rfl (fun c10 => ?_) (fun c10 => ?_)
  · try simp only [decide_eq_true_eq, decide_eq_false_iff_not, Bool.not_eq_true', Bool.not_eq_false', Bool.and_eq_true, Bool.or_eq_true, Bool.and_eq_false_iff, Bool.or_eq_false_iff] at c10
    refine W.region ?_
    refine WL.c rfl (o_mvh (by first | exact (show _ = Value.pointer _ from rfl) | exact rfl) ?_)
    refine WL.cx rfl (ox_call Tryd.call29 (lc rfl (lc rfl ln)) ((fails_spec B0 p lv T fin at_ _ h 60).mono ?_ (fun ch w' hh => by obtain ⟨h1, h2⟩ := hh; exact ⟨60, at_, by rw [wantT, if_neg (by simp_all)], h1, hx.tr h2⟩)))
    exact fun _ _ hf => hf.elim
  · try simp only [decide_eq_true_eq, decide_eq_false_iff_not, Bool.not_eq_true', Bool.not_eq_false', Bool.and_eq_true, Bool.or_eq_true, Bool.and_eq_false_iff, Bool.or_eq_false_iff] at c10
    have hit : isT (tkA T at_) k s = true := by simp_all
    have hlt := isT_lt hk hit
    refine W.skip ?_
    refine W.region ?_
    refine WL.c rfl (o_mvh (by first | exact (show _ = Value.pointer _ from rfl) | exact rfl) ?_)
    refine WL.c rfl (o_nil rfl ?_)
    refine WL.c rfl (o_fa 1 TI69 rfl TI3 rfl rfl ?_)
    refine WL.c rfl (o_ld TI3 rfl rfl (cell_of h.cell rfl) ?_)
    refine WL.c rfl (o_addi rfl rfl (by omega) ?_)
    refine WL.c rfl (o_nil rfl ?_)
    refine WL.c rfl (o_fa 1 TI69 rfl TI3 rfl rfl ?_)
    refine WL.u (o_stB TI3 rfl (show _ = Value.int _ _ from rfl) rfl h.cell (show 1 < 3 by decide) ?_)
    intro w19 hBp hop hsp
    replace h := h.move (a2 := at_ + 1) hBp hop (by omega)
    have hxp := hx.trans' hop (fun _ h => h.elim) (G := fun k => k = p) (fun _ _ h => h)
    refine WL.nil ?_
    refine ret0 rfl ?_
    exact ⟨by rw [wantT, if_pos hit], h, hxp⟩
theorem mark_spec (B0 p : Nat) (lv : Value) (T : List Tk) (fin at_ : Nat) (w0 : World) (h : Psr w0 B0 p lv T fin at_) (s : List UInt8) : CaX Tryd.prog 33 #[.pointer (some ⟨p, 0, none⟩), st s] w0 (fun _ w' => wantT T at_ 3 s = .ok () (at_ + 1) ∧ Psr w' B0 p lv T fin (at_ + 1) ∧ Only (fun k => k = p) w0 w') (fun ch w' => ∃ e j, wantT T at_ 3 s = .bad e j ∧ ch = [pan e (plc T fin j)] ∧ Ext w0 w') := by
  refine CaX.of Tryd.func33 Tryd.ntmps33 rfl rfl ?_
  refine W.region ?_
  refine WL.c rfl (o_mvh (by first | exact (show _ = Value.pointer _ from rfl) | exact rfl) ?_)
  refine WL.c rfl (o_mvh (show _ = Value.string _ from rfl) ?_)
  refine WL.cx rfl (ox_call Tryd.call30 (lc rfl (lc rfl (lc rfl ln))) ((want_spec B0 p lv T fin at_ _ h 3 (by decide) s).mono ?_ (fun ch w' hh => hh)))
  rintro v6 w6 hh
  refine WL.nil ?_
  refine ret0 rfl ?_
  exact hh
theorem isname_spec (B0 p : Nat) (lv : Value) (T : List Tk) (fin at_ : Nat) (w0 : World) (h : Psr w0 B0 p lv T fin at_) (hlen : (tkA T at_).text.length ≤ 9223372036854775807) : Ca Tryd.prog 50 #[.pointer (some ⟨p, 0, none⟩)] w0 (fun v w' => v = .bool (nmT (tkA T at_)) ∧ Ext w0 w') := by
  have hx : Ext w0 w0 := Only.refl _ _
  have hsm := h.small
  have hle := h.le
  refine Ca.of Tryd.func50 Tryd.ntmps50 rfl rfl ?_
  refine W.seq ?_
  refine W.region ?_
  refine WL.c rfl (o_ash (show _ = Value.bool _ from rfl) ?_)
  refine WL.nil ?_
  refine W.seq ?_
  refine W.region ?_
  refine WL.c rfl (o_mvh (by first | exact (show _ = Value.pointer _ from rfl) | exact rfl) ?_)
  refine WL.c rfl (o_call Tryd.call49 (lc rfl ln) ((peek_spec B0 p lv T fin at_ _ h).mono ?_))
  rintro v5 w5 ⟨rfl, hx5⟩
  replace h := h.ext hx5
  replace hx := hx.tr hx5
  refine WL.c rfl (o_alB TI94 ?_)
  intro wa3 hCa hxa hsa
  refine WL.u (o_stA TI94 rfl (show _ = Value.agg (tokV (tkA T at_)) from rfl) rfl rfl hCa rfl ?_)
  intro wb3 hB3 hob hsb
  have hxb := Ext.own hxa (Nat.le_refl _) hob
  clear hCa hxa hsa hob hsb
  replace h := h.ext hxb
  replace hx := hx.tr hxb
  refine WL.nil ?_
  refine W.seq ?_
  refine W.region ?_
  refine WL.c rfl (o_fa 0 TI94 rfl TI3 rfl rfl ?_)
  refine WL.c rfl (o_ld TI3 rfl rfl (cell_of hB3 rfl) ?_)
  refine WL.c rfl (o_eq rfl rfl ?_)
  refine WL.c rfl (o_mvh (show _ = Value.bool _ from rfl) ?_)
  refine WL.sp 3 rfl (fun g9 => ?_) (fun g9 => ?_)
  · skip
    refine WL.g rfl (g9) rfl (o_fa 1 TI94 rfl TI9 rfl rfl ?_)
    refine WL.g rfl (g9) rfl (o_ld TI9 rfl rfl (cell_of hB3 rfl) ?_)
    refine WL.g rfl (g9) rfl (o_call Tryd.call35 (lc rfl ln) ((name_spec (tkA T at_).text _ hlen).mono ?_))
    rintro v12 w12 ⟨rfl, rfl⟩
    refine WL.c rfl (o_pickA rfl rfl ?_)
    refine WL.c rfl (o_ash (show _ = Value.bool _ from rfl) ?_)
    refine WL.nil ?_
    refine W.ret ?_
    refine ret1v rfl (show _ = Value.bool _ from rfl) ?_
    exact ⟨congrArg Value.bool (by rw [Bool.eq_iff_iff]; simp_all [nmT] <;> omega), hx⟩
  · skip
    refine WL.s rfl (g9) rfl ?_
    refine WL.s rfl (g9) rfl ?_
    refine WL.s rfl (g9) rfl ?_
    refine WL.c rfl (o_pickF rfl (g9) ?_)
    refine WL.c rfl (o_ash (show _ = Value.bool _ from rfl) ?_)
    refine WL.nil ?_
    refine W.ret ?_
    refine ret1v rfl (show _ = Value.bool _ from rfl) ?_
    exact ⟨congrArg Value.bool (by rw [Bool.eq_iff_iff]; simp_all [nmT] <;> omega), hx⟩
theorem namep_spec (B0 p : Nat) (lv : Value) (T : List Tk) (fin at_ : Nat) (w0 : World) (h : Psr w0 B0 p lv T fin at_) (hlen : (tkA T at_).text.length ≤ 9223372036854775807) : CaX Tryd.prog 32 #[.pointer (some ⟨p, 0, none⟩)] w0 (fun v w' => ∃ s, nameT T at_ = .ok s (at_ + 1) ∧ v = st s ∧ Psr w' B0 p lv T fin (at_ + 1) ∧ Only (fun k => k = p) w0 w') (fun ch w' => ∃ e j, nameT T at_ = .bad e j ∧ ch = [pan e (plc T fin j)] ∧ Ext w0 w') := by
  have hx : Ext w0 w0 := Only.refl _ _
  have hsm := h.small
  have hle := h.le
  refine CaX.of Tryd.func32 Tryd.ntmps32 rfl rfl ?_
  refine W.seq ?_
  refine W.region ?_
  refine WL.c rfl (o_ash (show _ = Value.string _ from rfl) ?_)
  refine WL.nil ?_
  refine W.seq ?_
  refine W.seq ?_
  refine W.region ?_
  refine WL.c rfl (o_mvh (by first | exact (show _ = Value.pointer _ from rfl) | exact rfl) ?_)
  refine WL.c rfl (o_call Tryd.call50 (lc rfl ln) ((isname_spec B0 p lv T fin at_ _ h hlen).mono ?_))
  rintro v4 w4 ⟨rfl, hx4⟩
  replace h := h.ext hx4
  replace hx := hx.tr hx4
  refine WL.c rfl (o_not' rfl ?_)
  refine WL.nil ?_
  refine W.cond rfl (fun c5 => ?_) (fun c5 => ?_)
  · try simp only [decide_eq_true_eq, decide_eq_false_iff_not, Bool.not_eq_true', Bool.not_eq_false', Bool.and_eq_true, Bool.or_eq_true, Bool.and_eq_false_iff, Bool.or_eq_false_iff] at c5
    refine W.region ?_
    refine WL.c rfl (o_mvh (by first | exact (show _ = Value.pointer _ from rfl) | exact rfl) ?_)
    refine WL.cx rfl (ox_call Tryd.call29 (lc rfl (lc rfl ln)) ((fails_spec B0 p lv T fin at_ _ h 60).mono ?_ (fun ch w' hh => by obtain ⟨h1, h2⟩ := hh; exact ⟨60, at_, by rw [nameT, if_neg (by simp_all)], h1, hx.tr h2⟩)))
    exact fun _ _ hf => hf.elim
  · try simp only [decide_eq_true_eq, decide_eq_false_iff_not, Bool.not_eq_true', Bool.not_eq_false', Bool.and_eq_true, Bool.or_eq_true, Bool.and_eq_false_iff, Bool.or_eq_false_iff] at c5
    have hit : nmT (tkA T at_) = true := by simp_all
    have hlt : at_ < T.length := tkA_kind (k := 1) (by decide) (by simp only [nmT, Bool.and_eq_true, decide_eq_true_eq] at hit; exact hit.1)
    refine W.skip ?_
    refine W.seq ?_
    refine W.region ?_
    refine WL.c rfl (o_mvh (by first | exact (show _ = Value.pointer _ from rfl) | exact rfl) ?_)
    refine WL.c rfl (o_nil rfl ?_)
    refine WL.c rfl (o_fa 1 TI69 rfl TI3 rfl rfl ?_)
    refine WL.c rfl (o_ld TI3 rfl rfl (cell_of h.cell rfl) ?_)
    refine WL.c rfl (o_addi rfl rfl (by omega) ?_)
    refine WL.c rfl (o_nil rfl ?_)
    refine WL.c rfl (o_fa 1 TI69 rfl TI3 rfl rfl ?_)
    refine WL.u (o_stB TI3 rfl (show _ = Value.int _ _ from rfl) rfl h.cell (show 1 < 3 by decide) ?_)
    intro w14 hBp hop hsp
    replace h := h.move (a2 := at_ + 1) hBp hop (by omega)
    have hxp := hx.trans' hop (fun _ h => h.elim) (G := fun k => k = p) (fun _ _ h => h)
    refine WL.nil ?_
    refine W.seq ?_
    have hT := h.toks
    have hcell := h.cell
    obtain ⟨tb, to_, tc, rfl, htc⟩ := Sl.tok hT (k := at_) (by omega)
    refine W.quiet rfl (by kernel_rfl) ?_
    refine WQ.c rfl ((QO.o rfl fun _ => o_mvh (by first | exact (show _ = Value.pointer _ from rfl) | exact rfl) ⟨rfl, rfl⟩)) ?_
    refine WQ.c rfl ((QO.r fun _ => r_nil rfl)) ?_
    refine WQ.c rfl ((QO.o rfl fun _ => o_fa 0 TI69 rfl TI62 rfl rfl ⟨rfl, rfl⟩)) ?_
    refine WQ.c rfl ((QO.o rfl fun _ => o_ld TI62 rfl rfl (cell_of hcell rfl) ⟨rfl, rfl⟩)) ?_
    refine WQ.c rfl ((QO.o rfl fun _ => o_mvh (by first | exact (show _ = Value.pointer _ from rfl) | exact rfl) ⟨rfl, rfl⟩)) ?_
    refine WQ.c rfl ((QO.r fun _ => r_nil rfl)) ?_
    refine WQ.c rfl ((QO.o rfl fun _ => o_fa 1 TI69 rfl TI3 rfl rfl ⟨rfl, rfl⟩)) ?_
    refine WQ.c rfl ((QO.o rfl fun _ => o_ld TI3 rfl rfl (cell_of hcell rfl) ⟨rfl, rfl⟩)) ?_
    refine WQ.c rfl ((QO.o rfl fun _ => o_subi rfl rfl (by omega) ⟨rfl, rfl⟩)) ?_
    refine WQ.c rfl ((QO.o rfl fun _ => o_ixB (i := at_) TI62 TI94 rfl (by show Value.int _ _ = _; congr 1; omega) (by omega) ⟨rfl, rfl⟩)) ?_
    refine WQ.c rfl ((QO.o rfl fun _ => o_fa 1 TI94 rfl TI9 rfl rfl ⟨rfl, rfl⟩)) ?_
    refine WQ.c rfl ((QO.o rfl fun _ => o_ld TI9 rfl rfl (htc 1 _ rfl) ⟨rfl, rfl⟩)) ?_
    refine WQ.c rfl ((QO.o rfl fun _ => o_ash (show _ = Value.string _ from rfl) ⟨rfl, rfl⟩)) ?_
    refine WQ.nil ?_
    intro nq
    refine W.ret ?_
    refine ret1v rfl (show _ = Value.string _ from rfl) ?_
    exact ⟨_, by rw [nameT, if_pos hit], rfl, h.ext (Only.drewN _ _), hxp.ext (Only.drewN _ _)⟩
theorem nump_spec (B0 p : Nat) (lv : Value) (T : List Tk) (fin at_ : Nat) (w0 : World) (h : Psr w0 B0 p lv T fin at_) : CaX Tryd.prog 53 #[.pointer (some ⟨p, 0, none⟩)] w0 (fun v w' => ∃ n : Nat, numT T at_ = .ok n (at_ + 1) ∧ v = .int .i64 (n : Int) ∧ Psr w' B0 p lv T fin (at_ + 1) ∧ Only (fun k => k = p) w0 w') (fun ch w' => ∃ e j, numT T at_ = .bad e j ∧ ch = [pan e (plc T fin j)] ∧ Ext w0 w') := by
  have hx : Ext w0 w0 := Only.refl _ _
  have hsm := h.small
  have hle := h.le
  refine CaX.of Tryd.func53 Tryd.ntmps53 rfl rfl ?_
  refine W.seq ?_
  refine W.region ?_
  refine WL.c rfl (o_ash (show _ = Value.int _ _ from rfl) ?_)
  refine WL.nil ?_
  refine W.seq ?_
  refine W.region ?_
  refine WL.c rfl (o_mvh (by first | exact (show _ = Value.pointer _ from rfl) | exact rfl) ?_)
  refine WL.c rfl (o_call Tryd.call49 (lc rfl ln) ((peek_spec B0 p lv T fin at_ _ h).mono ?_))
  rintro v5 w5 ⟨rfl, hx5⟩
  replace h := h.ext hx5
  replace hx := hx.tr hx5
  refine WL.c rfl (o_alB TI94 ?_)
  intro wa3 hCa hxa hsa
  refine WL.u (o_stA TI94 rfl (show _ = Value.agg (tokV (tkA T at_)) from rfl) rfl rfl hCa rfl ?_)
  intro wb3 hB3 hob hsb
  have hxb := Ext.own hxa (Nat.le_refl _) hob
  have hpn : ¬ w5.heap.size = p := fun he => by have := (Array.getElem?_eq_some_iff.1 h.cell).1; omega
  clear hCa hxa hsa hob hsb
  replace h := h.ext hxb
  replace hx := hx.tr hxb
  refine WL.nil ?_
  refine W.seq ?_
  refine W.seq ?_
  refine W.region ?_
  refine WL.c rfl (o_fa 0 TI94 rfl TI3 rfl rfl ?_)
  refine WL.c rfl (o_ld TI3 rfl rfl (cell_of hB3 rfl) ?_)
  refine WL.c rfl (o_ne rfl rfl ?_)
  refine WL.nil ?_
  refine W.cond rfl (fun c8 => ?_) (fun c8 => ?_)
  · try simp only [decide_eq_true_eq, decide_eq_false_iff_not, Bool.not_eq_true', Bool.not_eq_false', Bool.and_eq_true, Bool.or_eq_true, Bool.and_eq_false_iff, Bool.or_eq_false_iff] at c8
    refine W.region ?_
    refine WL.c rfl (o_mvh (by first | exact (show _ = Value.pointer _ from rfl) | exact rfl) ?_)
    refine WL.cx rfl (ox_call Tryd.call29 (lc rfl (lc rfl ln)) ((fails_spec B0 p lv T fin at_ _ h 60).mono ?_ (fun ch w' hh => by obtain ⟨h1, h2⟩ := hh; exact ⟨60, at_, by rw [numT, if_neg (by omega)], h1, hx.tr h2⟩)))
    exact fun _ _ hf => hf.elim
  · try simp only [decide_eq_true_eq, decide_eq_false_iff_not, Bool.not_eq_true', Bool.not_eq_false', Bool.and_eq_true, Bool.or_eq_true, Bool.and_eq_false_iff, Bool.or_eq_false_iff] at c8
    have hit : (tkA T at_).kind = 2 := by omega
    have hlt := tkA_kind (by decide) hit
    have hpw := (Array.getElem?_eq_some_iff.1 h.cell).1
    refine W.skip ?_
    refine W.seq ?_
    refine W.region ?_
    refine WL.c rfl (o_mvh (by first | exact (show _ = Value.pointer _ from rfl) | exact rfl) ?_)
    refine WL.c rfl (o_nil rfl ?_)
    refine WL.c rfl (o_fa 1 TI69 rfl TI3 rfl rfl ?_)
    refine WL.c rfl (o_ld TI3 rfl rfl (cell_of h.cell rfl) ?_)
    refine WL.c rfl (o_addi rfl rfl (by omega) ?_)
    refine WL.c rfl (o_nil rfl ?_)
    refine WL.c rfl (o_fa 1 TI69 rfl TI3 rfl rfl ?_)
    refine WL.u (o_stB TI3 rfl (show _ = Value.int _ _ from rfl) rfl h.cell (show 1 < 3 by decide) ?_)
    intro w17 hBp hop hsp
    replace h := h.move (a2 := at_ + 1) hBp hop (by omega)
    have hxp := hx.trans' hop (fun _ h => h.elim) (G := fun k => k = p) (fun _ _ h => h)
    refine WL.nil ?_
    refine W.seq ?_
    refine W.region ?_
    refine WL.c rfl (o_fa 2 TI94 rfl TI3 rfl rfl ?_)
    refine WL.c rfl (o_ld TI3 rfl rfl (cell_of (hop.blk hB3 (fun he => hpn he)) rfl) ?_)
    refine WL.c rfl (o_ash (show _ = Value.int _ _ from rfl) ?_)
    refine WL.nil ?_
    refine W.ret ?_
    refine ret1v rfl (show _ = Value.int _ _ from rfl) ?_
    exact ⟨_, by rw [numT, if_pos hit], rfl, h, hxp⟩
theorem leaf_spec (s : List UInt8) (w0 : World) : Ca Tryd.prog 52 #[st s] w0 (fun v w' => v = .tuple #[.agg (exV { ex0 with kind := ((leafE s).getD (0, 0)).1, n := ((leafE s).getD (0, 0)).2 }).toArray, .bool (leafE s).isSome] ∧ Ext w0 w') := by
  refine Ca.of Tryd.func52 Tryd.ntmps52 rfl rfl ?_
  refine W.seq ?_
  refine W.region ?_
  refine WL.c rfl (o_alB TI36 ?_)
  intro w2 hC2 hx2 hs2
  refine WL.c rfl (o_ash (show _ = Value.bool _ from rfl) ?_)
  refine WL.nil ?_
  refine W.seq ?_
  refine W.seq ?_
  refine W.region ?_
  refine WL.c rfl (o_mvh (show _ = Value.string _ from rfl) ?_)
  refine WL.nil ?_
  refine W.block ?_
  refine W.seq ?_
  refine W.region ?_
  refine WL.c rfl (o_eqT rfl rfl ?_)
  refine WL.c rfl (o_ash (show _ = Value.bool _ from rfl) ?_)
  refine WL.nil ?_
  refine W.cond rfl (fun c5 => ?_) (fun c5 => ?_)
  · try simp only [decide_eq_true_eq, decide_eq_false_iff_not, Bool.not_eq_true', Bool.not_eq_false', Bool.and_eq_true, Bool.or_eq_true, Bool.and_eq_false_iff, Bool.or_eq_false_iff] at c5
    refine W.seq ?_
    refine W.region ?_
    refine WL.c rfl (o_bldC (cs := [(.int .i64 1), (.int .i64 1), (.string ⟨#[]⟩), (.string ⟨#[]⟩), (.int .i64 0), (.int .i64 0), (.int .i64 0)]) TI36 (Sizes.cons TI3 (Sizes.cons TI3 (Sizes.cons TI9 (Sizes.cons TI9 (Sizes.cons TI3 (Sizes.cons TI3 (Sizes.cons TI3 Sizes.nil))))))) rfl (lcp (show _ = Value.int _ _ from rfl) (lcp (show _ = Value.int _ _ from rfl) lnp)) rfl rfl ?_)
    refine WL.u (o_stA TI36 rfl (show _ = Value.agg (exV { ex0 with kind := 1, n := 1 }).toArray from rfl) rfl rfl hC2 rfl ?_)
    intro wE hE hoE hsE
    have hx := hx2.trans' hoE (fun _ h => h) (fun k hk he => by omega)
    refine WL.c rfl (o_ash (show _ = Value.bool _ from rfl) ?_)
    refine WL.nil ?_
    refine W.ret ?_
    refine retCT rfl TI36 rfl (show _ = Value.bool _ from rfl) rfl (cells_all hE) rfl ?_
    exact ⟨by simp_all [leafE], hx⟩
  · try simp only [decide_eq_true_eq, decide_eq_false_iff_not, Bool.not_eq_true', Bool.not_eq_false', Bool.and_eq_true, Bool.or_eq_true, Bool.and_eq_false_iff, Bool.or_eq_false_iff] at c5
    refine W.seq ?_
    refine W.region ?_
    refine WL.c rfl (o_eqT rfl rfl ?_)
    refine WL.c rfl (o_ash (show _ = Value.bool _ from rfl) ?_)
    refine WL.nil ?_
    refine W.cond rfl (fun c8 => ?_) (fun c8 => ?_)
    · try simp only [decide_eq_true_eq, decide_eq_false_iff_not, Bool.not_eq_true', Bool.not_eq_false', Bool.and_eq_true, Bool.or_eq_true, Bool.and_eq_false_iff, Bool.or_eq_false_iff] at c8
      refine W.seq ?_
      refine W.region ?_
      refine WL.c rfl (o_bldC (cs := [(.int .i64 1), (.int .i64 2), (.string ⟨#[]⟩), (.string ⟨#[]⟩), (.int .i64 0), (.int .i64 0), (.int .i64 0)]) TI36 (Sizes.cons TI3 (Sizes.cons TI3 (Sizes.cons TI9 (Sizes.cons TI9 (Sizes.cons TI3 (Sizes.cons TI3 (Sizes.cons TI3 Sizes.nil))))))) rfl (lcp (show _ = Value.int _ _ from rfl) (lcp (show _ = Value.int _ _ from rfl) lnp)) rfl rfl ?_)
      refine WL.u (o_stA TI36 rfl (show _ = Value.agg (exV { ex0 with kind := 1, n := 2 }).toArray from rfl) rfl rfl hC2 rfl ?_)
      intro wE hE hoE hsE
      have hx := hx2.trans' hoE (fun _ h => h) (fun k hk he => by omega)
      refine WL.c rfl (o_ash (show _ = Value.bool _ from rfl) ?_)
      refine WL.nil ?_
      refine W.ret ?_
      refine retCT rfl TI36 rfl (show _ = Value.bool _ from rfl) rfl (cells_all hE) rfl ?_
      exact ⟨by simp_all [leafE], hx⟩
    · try simp only [decide_eq_true_eq, decide_eq_false_iff_not, Bool.not_eq_true', Bool.not_eq_false', Bool.and_eq_true, Bool.or_eq_true, Bool.and_eq_false_iff, Bool.or_eq_false_iff] at c8
      refine W.seq ?_
      refine W.region ?_
      refine WL.c rfl (o_eqT rfl rfl ?_)
      refine WL.c rfl (o_ash (show _ = Value.bool _ from rfl) ?_)
      refine WL.nil ?_
      refine W.cond rfl (fun c11 => ?_) (fun c11 => ?_)
      · try simp only [decide_eq_true_eq, decide_eq_false_iff_not, Bool.not_eq_true', Bool.not_eq_false', Bool.and_eq_true, Bool.or_eq_true, Bool.and_eq_false_iff, Bool.or_eq_false_iff] at c11
        refine W.seq ?_
        refine W.region ?_
        refine WL.c rfl (o_bldC (cs := [(.int .i64 1), (.int .i64 4), (.string ⟨#[]⟩), (.string ⟨#[]⟩), (.int .i64 0), (.int .i64 0), (.int .i64 0)]) TI36 (Sizes.cons TI3 (Sizes.cons TI3 (Sizes.cons TI9 (Sizes.cons TI9 (Sizes.cons TI3 (Sizes.cons TI3 (Sizes.cons TI3 Sizes.nil))))))) rfl (lcp (show _ = Value.int _ _ from rfl) (lcp (show _ = Value.int _ _ from rfl) lnp)) rfl rfl ?_)
        refine WL.u (o_stA TI36 rfl (show _ = Value.agg (exV { ex0 with kind := 1, n := 4 }).toArray from rfl) rfl rfl hC2 rfl ?_)
        intro wE hE hoE hsE
        have hx := hx2.trans' hoE (fun _ h => h) (fun k hk he => by omega)
        refine WL.c rfl (o_ash (show _ = Value.bool _ from rfl) ?_)
        refine WL.nil ?_
        refine W.ret ?_
        refine retCT rfl TI36 rfl (show _ = Value.bool _ from rfl) rfl (cells_all hE) rfl ?_
        exact ⟨by simp_all [leafE], hx⟩
      · try simp only [decide_eq_true_eq, decide_eq_false_iff_not, Bool.not_eq_true', Bool.not_eq_false', Bool.and_eq_true, Bool.or_eq_true, Bool.and_eq_false_iff, Bool.or_eq_false_iff] at c11
        refine W.seq ?_
        refine W.region ?_
        refine WL.c rfl (o_eqT rfl rfl ?_)
        refine WL.c rfl (o_ash (show _ = Value.bool _ from rfl) ?_)
        refine WL.nil ?_
        refine W.cond rfl (fun c14 => ?_) (fun c14 => ?_)
        · try simp only [decide_eq_true_eq, decide_eq_false_iff_not, Bool.not_eq_true', Bool.not_eq_false', Bool.and_eq_true, Bool.or_eq_true, Bool.and_eq_false_iff, Bool.or_eq_false_iff] at c14
          refine W.seq ?_
          refine W.region ?_
          refine WL.c rfl (o_bldC (cs := [(.int .i64 1), (.int .i64 8), (.string ⟨#[]⟩), (.string ⟨#[]⟩), (.int .i64 0), (.int .i64 0), (.int .i64 0)]) TI36 (Sizes.cons TI3 (Sizes.cons TI3 (Sizes.cons TI9 (Sizes.cons TI9 (Sizes.cons TI3 (Sizes.cons TI3 (Sizes.cons TI3 Sizes.nil))))))) rfl (lcp (show _ = Value.int _ _ from rfl) (lcp (show _ = Value.int _ _ from rfl) lnp)) rfl rfl ?_)
          refine WL.u (o_stA TI36 rfl (show _ = Value.agg (exV { ex0 with kind := 1, n := 8 }).toArray from rfl) rfl rfl hC2 rfl ?_)
          intro wE hE hoE hsE
          have hx := hx2.trans' hoE (fun _ h => h) (fun k hk he => by omega)
          refine WL.c rfl (o_ash (show _ = Value.bool _ from rfl) ?_)
          refine WL.nil ?_
          refine W.ret ?_
          refine retCT rfl TI36 rfl (show _ = Value.bool _ from rfl) rfl (cells_all hE) rfl ?_
          exact ⟨by simp_all [leafE], hx⟩
        · try simp only [decide_eq_true_eq, decide_eq_false_iff_not, Bool.not_eq_true', Bool.not_eq_false', Bool.and_eq_true, Bool.or_eq_true, Bool.and_eq_false_iff, Bool.or_eq_false_iff] at c14
          refine W.seq ?_
          refine W.region ?_
          refine WL.c rfl (o_eqT rfl rfl ?_)
          refine WL.c rfl (o_ash (show _ = Value.bool _ from rfl) ?_)
          refine WL.nil ?_
          refine W.cond rfl (fun c17 => ?_) (fun c17 => ?_)
          · try simp only [decide_eq_true_eq, decide_eq_false_iff_not, Bool.not_eq_true', Bool.not_eq_false', Bool.and_eq_true, Bool.or_eq_true, Bool.and_eq_false_iff, Bool.or_eq_false_iff] at c17
            refine W.seq ?_
            refine W.region ?_
            refine WL.c rfl (o_bldC (cs := [(.int .i64 2), (.int .i64 0), (.string ⟨#[]⟩), (.string ⟨#[]⟩), (.int .i64 0), (.int .i64 0), (.int .i64 0)]) TI36 (Sizes.cons TI3 (Sizes.cons TI3 (Sizes.cons TI9 (Sizes.cons TI9 (Sizes.cons TI3 (Sizes.cons TI3 (Sizes.cons TI3 Sizes.nil))))))) rfl (lcp (show _ = Value.int _ _ from rfl) lnp) rfl rfl ?_)
            refine WL.u (o_stA TI36 rfl (show _ = Value.agg (exV { ex0 with kind := 2, n := 0 }).toArray from rfl) rfl rfl hC2 rfl ?_)
            intro wE hE hoE hsE
            have hx := hx2.trans' hoE (fun _ h => h) (fun k hk he => by omega)
            refine WL.c rfl (o_ash (show _ = Value.bool _ from rfl) ?_)
            refine WL.nil ?_
            refine W.ret ?_
            refine retCT rfl TI36 rfl (show _ = Value.bool _ from rfl) rfl (cells_all hE) rfl ?_
            exact ⟨by simp_all [leafE], hx⟩
          · try simp only [decide_eq_true_eq, decide_eq_false_iff_not, Bool.not_eq_true', Bool.not_eq_false', Bool.and_eq_true, Bool.or_eq_true, Bool.and_eq_false_iff, Bool.or_eq_false_iff] at c17
            refine W.seq ?_
            refine W.region ?_
            refine WL.c rfl (o_eqT rfl rfl ?_)
            refine WL.c rfl (o_ash (show _ = Value.bool _ from rfl) ?_)
            refine WL.nil ?_
            refine W.cond rfl (fun c20 => ?_) (fun c20 => ?_)
            · try simp only [decide_eq_true_eq, decide_eq_false_iff_not, Bool.not_eq_true', Bool.not_eq_false', Bool.and_eq_true, Bool.or_eq_true, Bool.and_eq_false_iff, Bool.or_eq_false_iff] at c20
              refine W.seq ?_
              refine W.region ?_
              refine WL.c rfl (o_bldC (cs := [(.int .i64 3), (.int .i64 0), (.string ⟨#[]⟩), (.string ⟨#[]⟩), (.int .i64 0), (.int .i64 0), (.int .i64 0)]) TI36 (Sizes.cons TI3 (Sizes.cons TI3 (Sizes.cons TI9 (Sizes.cons TI9 (Sizes.cons TI3 (Sizes.cons TI3 (Sizes.cons TI3 Sizes.nil))))))) rfl (lcp (show _ = Value.int _ _ from rfl) lnp) rfl rfl ?_)
              refine WL.u (o_stA TI36 rfl (show _ = Value.agg (exV { ex0 with kind := 3, n := 0 }).toArray from rfl) rfl rfl hC2 rfl ?_)
              intro wE hE hoE hsE
              have hx := hx2.trans' hoE (fun _ h => h) (fun k hk he => by omega)
              refine WL.c rfl (o_ash (show _ = Value.bool _ from rfl) ?_)
              refine WL.nil ?_
              refine W.ret ?_
              refine retCT rfl TI36 rfl (show _ = Value.bool _ from rfl) rfl (cells_all hE) rfl ?_
              exact ⟨by simp_all [leafE], hx⟩
            · try simp only [decide_eq_true_eq, decide_eq_false_iff_not, Bool.not_eq_true', Bool.not_eq_false', Bool.and_eq_true, Bool.or_eq_true, Bool.and_eq_false_iff, Bool.or_eq_false_iff] at c20
              refine W.skip ?_
              refine W.seq ?_
              refine W.region ?_
              refine WL.c rfl (o_bldC (cs := [(.int .i64 0), (.int .i64 0), (.string ⟨#[]⟩), (.string ⟨#[]⟩), (.int .i64 0), (.int .i64 0), (.int .i64 0)]) TI36 (Sizes.cons TI3 (Sizes.cons TI3 (Sizes.cons TI9 (Sizes.cons TI9 (Sizes.cons TI3 (Sizes.cons TI3 (Sizes.cons TI3 Sizes.nil))))))) rfl lnp rfl rfl ?_)
              refine WL.u (o_stA TI36 rfl (show _ = Value.agg (exV { ex0 with kind := 0, n := 0 }).toArray from rfl) rfl rfl hC2 rfl ?_)
              intro wE hE hoE hsE
              have hx := hx2.trans' hoE (fun _ h => h) (fun k hk he => by omega)
              refine WL.c rfl (o_ash (show _ = Value.bool _ from rfl) ?_)
              refine WL.nil ?_
              refine W.ret ?_
              refine retCT rfl TI36 rfl (show _ = Value.bool _ from rfl) rfl (cells_all hE) rfl ?_
              exact ⟨by simp_all [leafE], hx⟩
theorem begins_spec (t : Tk) (w0 : World) (hlen : t.text.length ≤ 9223372036854775807) : Ca Tryd.prog 51 #[.agg (tokV t)] w0 (fun v w' => v = .bool (bgnT t) ∧ Ext w0 w') := by
  refine Ca.of Tryd.func51 Tryd.ntmps51 rfl rfl ?_
  refine W.seq ?_
  refine W.region ?_
  refine WL.c rfl (o_boxB rfl ?_)
  intro w1 hC1 hx1 hs1
  have hx := hx1
  replace hC1 : w1.heap[w0.heap.size]? = some (.cells (tokV t) 94 (0, 0)) := hC1
  refine WL.c rfl (o_ash (show _ = Value.bool _ from rfl) ?_)
  refine WL.nil ?_
  refine W.seq ?_
  refine W.seq ?_
  refine W.region ?_
  refine WL.c rfl (o_fa 0 TI94 rfl TI3 rfl rfl ?_)
  refine WL.c rfl (o_ld TI3 rfl rfl (cell_of hC1 rfl) ?_)
  refine WL.c rfl (o_ne rfl rfl ?_)
  refine WL.nil ?_
  refine W.cond rfl (fun c7 => ?_) (fun c7 => ?_)
  · try simp only [decide_eq_true_eq, decide_eq_false_iff_not, Bool.not_eq_true', Bool.not_eq_false', Bool.and_eq_true, Bool.or_eq_true, Bool.and_eq_false_iff, Bool.or_eq_false_iff] at c7
    have hk1 : ¬ t.kind = 1 := by omega
    refine W.seq ?_
    refine W.region ?_
    refine WL.c rfl (o_ash (show _ = Value.bool _ from rfl) ?_)
    refine WL.nil ?_
    refine W.ret ?_
    refine ret1v rfl (show _ = Value.bool _ from rfl) ?_
    exact ⟨congrArg Value.bool (by simp_all [bgnT]), hx⟩
  · try simp only [decide_eq_true_eq, decide_eq_false_iff_not, Bool.not_eq_true', Bool.not_eq_false', Bool.and_eq_true, Bool.or_eq_true, Bool.and_eq_false_iff, Bool.or_eq_false_iff] at c7
    have hk1 : t.kind = 1 := by omega
    refine W.skip ?_
    refine W.seq ?_
    refine W.seq ?_
    refine W.region ?_
    refine WL.c rfl (o_fa 1 TI94 rfl TI9 rfl rfl ?_)
    refine WL.c rfl (o_ld TI9 rfl rfl (cell_of hC1 rfl) ?_)
    refine WL.nil ?_
    refine W.block ?_
    refine W.seq ?_
    refine W.seq ?_
    refine W.region ?_
    refine WL.c rfl (o_eqT rfl rfl ?_)
    refine WL.c rfl (o_ash (show _ = Value.bool _ from rfl) ?_)
    refine WL.nil ?_
    refine W.cond rfl (fun c10 => ?_) (fun c10 => ?_)
    · try simp only [decide_eq_true_eq, decide_eq_false_iff_not, Bool.not_eq_true', Bool.not_eq_false', Bool.and_eq_true, Bool.or_eq_true, Bool.and_eq_false_iff, Bool.or_eq_false_iff] at c10
      refine W.skip ?_
      refine W.cond rfl (fun c10 => ?_) (fun c10 => ?_)
      · try simp only [decide_eq_true_eq, decide_eq_false_iff_not, Bool.not_eq_true', Bool.not_eq_false', Bool.and_eq_true, Bool.or_eq_true, Bool.and_eq_false_iff, Bool.or_eq_false_iff] at c10
        refine W.seq ?_
        refine W.region ?_
        refine WL.c rfl (o_ash (show _ = Value.bool _ from rfl) ?_)
        refine WL.nil ?_
        refine W.ret ?_
        refine ret1v rfl (show _ = Value.bool _ from rfl) ?_
        exact ⟨congrArg Value.bool (by simp_all [bgnT]), hx⟩
      · try simp only [decide_eq_true_eq, decide_eq_false_iff_not, Bool.not_eq_true', Bool.not_eq_false', Bool.and_eq_true, Bool.or_eq_true, Bool.and_eq_false_iff, Bool.or_eq_false_iff] at c10
        refine W.skip ?_
        refine W.seq ?_
        refine W.region ?_
        refine WL.c rfl (o_fa 1 TI94 rfl TI9 rfl rfl ?_)
        refine WL.c rfl (o_ld TI9 rfl rfl (cell_of hC1 rfl) ?_)
        refine WL.c rfl (o_call Tryd.call52 (lc rfl ln) ((leaf_spec t.text _).mono ?_))
        rintro v19 w19 ⟨rfl, hx19⟩
        replace hx := hx.tr hx19
        replace hC1 := hx19.blk hC1 (fun h => h)
        refine WL.c rfl (o_mvh (by first | exact (show _ = Value.tuple _ from rfl) | exact rfl) ?_)
        refine WL.c rfl (o_ext rfl rfl ?_)
        refine WL.c rfl (o_ext rfl rfl ?_)
        refine WL.c rfl (o_alB TI36 ?_)
        intro wa hCa hxa hsa
        refine WL.u (o_stA TI36 rfl (show _ = Value.agg (exV { ex0 with kind := ((leafE t.text).getD (0, 0)).1, n := ((leafE t.text).getD (0, 0)).2 }).toArray from rfl) rfl rfl hCa rfl ?_)
        intro wb hB3 hob hsb
        have hxb := Ext.own hxa (Nat.le_refl _) hob
        clear hCa hxa hsa hob hsb
        replace hC1 := hxb.blk hC1 (fun h => h)
        replace hx := hx.tr hxb
        refine WL.c rfl (o_ash (show _ = Value.bool _ from rfl) ?_)
        refine WL.nil ?_
        refine W.seq ?_
        refine W.region ?_
        refine WL.c rfl (o_mvh (show _ = Value.bool _ from rfl) ?_)
        refine WL.c rfl (o_mvh (show _ = Value.bool _ from rfl) ?_)
        refine WL.sp 1 rfl (fun g23 => ?_) (fun g23 => ?_)
        · skip
          refine WL.s rfl (g23) rfl ?_
          refine WL.s rfl (g23) rfl ?_
          refine WL.s rfl (g23) rfl ?_
          refine WL.c rfl (o_pickT rfl (g23) ?_)
          refine WL.c rfl (o_ash (show _ = Value.bool _ from rfl) ?_)
          refine WL.nil ?_
          refine W.ret ?_
          refine ret1v rfl (show _ = Value.bool _ from rfl) ?_
          exact ⟨congrArg Value.bool (by simp_all [bgnT]), hx⟩
        · skip
          refine WL.g rfl (g23) rfl (o_fa 1 TI94 rfl TI9 rfl rfl ?_)
          refine WL.g rfl (g23) rfl (o_ld TI9 rfl rfl (cell_of hC1 rfl) ?_)
          refine WL.g rfl (g23) rfl (o_call Tryd.call35 (lc rfl ln) ((name_spec t.text _ hlen).mono ?_))
          rintro v26 w26 ⟨rfl, rfl⟩
          refine WL.c rfl (o_pickO rfl rfl ?_)
          refine WL.c rfl (o_ash (show _ = Value.bool _ from rfl) ?_)
          refine WL.nil ?_
          refine W.ret ?_
          refine ret1v rfl (show _ = Value.bool _ from rfl) ?_
          exact ⟨congrArg Value.bool (by simp_all [bgnT]), hx⟩
    · try simp only [decide_eq_true_eq, decide_eq_false_iff_not, Bool.not_eq_true', Bool.not_eq_false', Bool.and_eq_true, Bool.or_eq_true, Bool.and_eq_false_iff, Bool.or_eq_false_iff] at c10
      refine W.seq ?_
      refine W.region ?_
      refine WL.c rfl (o_eqT rfl rfl ?_)
      refine WL.c rfl (o_ash (show _ = Value.bool _ from rfl) ?_)
      refine WL.nil ?_
      refine W.cond rfl (fun c10 => ?_) (fun c10 => ?_)
      · try simp only [decide_eq_true_eq, decide_eq_false_iff_not, Bool.not_eq_true', Bool.not_eq_false', Bool.and_eq_true, Bool.or_eq_true, Bool.and_eq_false_iff, Bool.or_eq_false_iff] at c10
        refine W.skip ?_
        refine W.cond rfl (fun c10 => ?_) (fun c10 => ?_)
        · try simp only [decide_eq_true_eq, decide_eq_false_iff_not, Bool.not_eq_true', Bool.not_eq_false', Bool.and_eq_true, Bool.or_eq_true, Bool.and_eq_false_iff, Bool.or_eq_false_iff] at c10
          refine W.seq ?_
          refine W.region ?_
          refine WL.c rfl (o_ash (show _ = Value.bool _ from rfl) ?_)
          refine WL.nil ?_
          refine W.ret ?_
          refine ret1v rfl (show _ = Value.bool _ from rfl) ?_
          exact ⟨congrArg Value.bool (by simp_all [bgnT]), hx⟩
        · try simp only [decide_eq_true_eq, decide_eq_false_iff_not, Bool.not_eq_true', Bool.not_eq_false', Bool.and_eq_true, Bool.or_eq_true, Bool.and_eq_false_iff, Bool.or_eq_false_iff] at c10
          refine W.skip ?_
          refine W.seq ?_
          refine W.region ?_
          refine WL.c rfl (o_fa 1 TI94 rfl TI9 rfl rfl ?_)
          refine WL.c rfl (o_ld TI9 rfl rfl (cell_of hC1 rfl) ?_)
          refine WL.c rfl (o_call Tryd.call52 (lc rfl ln) ((leaf_spec t.text _).mono ?_))
          rintro v19 w19 ⟨rfl, hx19⟩
          replace hx := hx.tr hx19
          replace hC1 := hx19.blk hC1 (fun h => h)
          refine WL.c rfl (o_mvh (by first | exact (show _ = Value.tuple _ from rfl) | exact rfl) ?_)
          refine WL.c rfl (o_ext rfl rfl ?_)
          refine WL.c rfl (o_ext rfl rfl ?_)
          refine WL.c rfl (o_alB TI36 ?_)
          intro wa hCa hxa hsa
          refine WL.u (o_stA TI36 rfl (show _ = Value.agg (exV { ex0 with kind := ((leafE t.text).getD (0, 0)).1, n := ((leafE t.text).getD (0, 0)).2 }).toArray from rfl) rfl rfl hCa rfl ?_)
          intro wb hB3 hob hsb
          have hxb := Ext.own hxa (Nat.le_refl _) hob
          clear hCa hxa hsa hob hsb
          replace hC1 := hxb.blk hC1 (fun h => h)
          replace hx := hx.tr hxb
          refine WL.c rfl (o_ash (show _ = Value.bool _ from rfl) ?_)
          refine WL.nil ?_
          refine W.seq ?_
          refine W.region ?_
          refine WL.c rfl (o_mvh (show _ = Value.bool _ from rfl) ?_)
          refine WL.c rfl (o_mvh (show _ = Value.bool _ from rfl) ?_)
          refine WL.sp 1 rfl (fun g23 => ?_) (fun g23 => ?_)
          · skip
            refine WL.s rfl (g23) rfl ?_
            refine WL.s rfl (g23) rfl ?_
            refine WL.s rfl (g23) rfl ?_
            refine WL.c rfl (o_pickT rfl (g23) ?_)
            refine WL.c rfl (o_ash (show _ = Value.bool _ from rfl) ?_)
            refine WL.nil ?_
            refine W.ret ?_
            refine ret1v rfl (show _ = Value.bool _ from rfl) ?_
            exact ⟨congrArg Value.bool (by simp_all [bgnT]), hx⟩
          · skip
            refine WL.g rfl (g23) rfl (o_fa 1 TI94 rfl TI9 rfl rfl ?_)
            refine WL.g rfl (g23) rfl (o_ld TI9 rfl rfl (cell_of hC1 rfl) ?_)
            refine WL.g rfl (g23) rfl (o_call Tryd.call35 (lc rfl ln) ((name_spec t.text _ hlen).mono ?_))
            rintro v26 w26 ⟨rfl, rfl⟩
            refine WL.c rfl (o_pickO rfl rfl ?_)
            refine WL.c rfl (o_ash (show _ = Value.bool _ from rfl) ?_)
            refine WL.nil ?_
            refine W.ret ?_
            refine ret1v rfl (show _ = Value.bool _ from rfl) ?_
            exact ⟨congrArg Value.bool (by simp_all [bgnT]), hx⟩
      · try simp only [decide_eq_true_eq, decide_eq_false_iff_not, Bool.not_eq_true', Bool.not_eq_false', Bool.and_eq_true, Bool.or_eq_true, Bool.and_eq_false_iff, Bool.or_eq_false_iff] at c10
        refine W.seq ?_
        refine W.region ?_
        refine WL.c rfl (o_eqT rfl rfl ?_)
        refine WL.c rfl (o_ash (show _ = Value.bool _ from rfl) ?_)
        refine WL.nil ?_
        refine W.cond rfl (fun c10 => ?_) (fun c10 => ?_)
        · try simp only [decide_eq_true_eq, decide_eq_false_iff_not, Bool.not_eq_true', Bool.not_eq_false', Bool.and_eq_true, Bool.or_eq_true, Bool.and_eq_false_iff, Bool.or_eq_false_iff] at c10
          refine W.skip ?_
          refine W.cond rfl (fun c10 => ?_) (fun c10 => ?_)
          · try simp only [decide_eq_true_eq, decide_eq_false_iff_not, Bool.not_eq_true', Bool.not_eq_false', Bool.and_eq_true, Bool.or_eq_true, Bool.and_eq_false_iff, Bool.or_eq_false_iff] at c10
            refine W.seq ?_
            refine W.region ?_
            refine WL.c rfl (o_ash (show _ = Value.bool _ from rfl) ?_)
            refine WL.nil ?_
            refine W.ret ?_
            refine ret1v rfl (show _ = Value.bool _ from rfl) ?_
            exact ⟨congrArg Value.bool (by simp_all [bgnT]), hx⟩
          · try simp only [decide_eq_true_eq, decide_eq_false_iff_not, Bool.not_eq_true', Bool.not_eq_false', Bool.and_eq_true, Bool.or_eq_true, Bool.and_eq_false_iff, Bool.or_eq_false_iff] at c10
            refine W.skip ?_
            refine W.seq ?_
            refine W.region ?_
            refine WL.c rfl (o_fa 1 TI94 rfl TI9 rfl rfl ?_)
            refine WL.c rfl (o_ld TI9 rfl rfl (cell_of hC1 rfl) ?_)
            refine WL.c rfl (o_call Tryd.call52 (lc rfl ln) ((leaf_spec t.text _).mono ?_))
            rintro v19 w19 ⟨rfl, hx19⟩
            replace hx := hx.tr hx19
            replace hC1 := hx19.blk hC1 (fun h => h)
            refine WL.c rfl (o_mvh (by first | exact (show _ = Value.tuple _ from rfl) | exact rfl) ?_)
            refine WL.c rfl (o_ext rfl rfl ?_)
            refine WL.c rfl (o_ext rfl rfl ?_)
            refine WL.c rfl (o_alB TI36 ?_)
            intro wa hCa hxa hsa
            refine WL.u (o_stA TI36 rfl (show _ = Value.agg (exV { ex0 with kind := ((leafE t.text).getD (0, 0)).1, n := ((leafE t.text).getD (0, 0)).2 }).toArray from rfl) rfl rfl hCa rfl ?_)
            intro wb hB3 hob hsb
            have hxb := Ext.own hxa (Nat.le_refl _) hob
            clear hCa hxa hsa hob hsb
            replace hC1 := hxb.blk hC1 (fun h => h)
            replace hx := hx.tr hxb
            refine WL.c rfl (o_ash (show _ = Value.bool _ from rfl) ?_)
            refine WL.nil ?_
            refine W.seq ?_
            refine W.region ?_
            refine WL.c rfl (o_mvh (show _ = Value.bool _ from rfl) ?_)
            refine WL.c rfl (o_mvh (show _ = Value.bool _ from rfl) ?_)
            refine WL.sp 1 rfl (fun g23 => ?_) (fun g23 => ?_)
            · skip
              refine WL.s rfl (g23) rfl ?_
              refine WL.s rfl (g23) rfl ?_
              refine WL.s rfl (g23) rfl ?_
              refine WL.c rfl (o_pickT rfl (g23) ?_)
              refine WL.c rfl (o_ash (show _ = Value.bool _ from rfl) ?_)
              refine WL.nil ?_
              refine W.ret ?_
              refine ret1v rfl (show _ = Value.bool _ from rfl) ?_
              exact ⟨congrArg Value.bool (by simp_all [bgnT]), hx⟩
            · skip
              refine WL.g rfl (g23) rfl (o_fa 1 TI94 rfl TI9 rfl rfl ?_)
              refine WL.g rfl (g23) rfl (o_ld TI9 rfl rfl (cell_of hC1 rfl) ?_)
              refine WL.g rfl (g23) rfl (o_call Tryd.call35 (lc rfl ln) ((name_spec t.text _ hlen).mono ?_))
              rintro v26 w26 ⟨rfl, rfl⟩
              refine WL.c rfl (o_pickO rfl rfl ?_)
              refine WL.c rfl (o_ash (show _ = Value.bool _ from rfl) ?_)
              refine WL.nil ?_
              refine W.ret ?_
              refine ret1v rfl (show _ = Value.bool _ from rfl) ?_
              exact ⟨congrArg Value.bool (by simp_all [bgnT]), hx⟩
        · try simp only [decide_eq_true_eq, decide_eq_false_iff_not, Bool.not_eq_true', Bool.not_eq_false', Bool.and_eq_true, Bool.or_eq_true, Bool.and_eq_false_iff, Bool.or_eq_false_iff] at c10
          refine W.seq ?_
          refine W.region ?_
          refine WL.c rfl (o_eqT rfl rfl ?_)
          refine WL.c rfl (o_ash (show _ = Value.bool _ from rfl) ?_)
          refine WL.nil ?_
          refine W.cond rfl (fun c10 => ?_) (fun c10 => ?_)
          · try simp only [decide_eq_true_eq, decide_eq_false_iff_not, Bool.not_eq_true', Bool.not_eq_false', Bool.and_eq_true, Bool.or_eq_true, Bool.and_eq_false_iff, Bool.or_eq_false_iff] at c10
            refine W.skip ?_
            refine W.cond rfl (fun c10 => ?_) (fun c10 => ?_)
            · try simp only [decide_eq_true_eq, decide_eq_false_iff_not, Bool.not_eq_true', Bool.not_eq_false', Bool.and_eq_true, Bool.or_eq_true, Bool.and_eq_false_iff, Bool.or_eq_false_iff] at c10
              refine W.seq ?_
              refine W.region ?_
              refine WL.c rfl (o_ash (show _ = Value.bool _ from rfl) ?_)
              refine WL.nil ?_
              refine W.ret ?_
              refine ret1v rfl (show _ = Value.bool _ from rfl) ?_
              exact ⟨congrArg Value.bool (by simp_all [bgnT]), hx⟩
            · try simp only [decide_eq_true_eq, decide_eq_false_iff_not, Bool.not_eq_true', Bool.not_eq_false', Bool.and_eq_true, Bool.or_eq_true, Bool.and_eq_false_iff, Bool.or_eq_false_iff] at c10
              refine W.skip ?_
              refine W.seq ?_
              refine W.region ?_
              refine WL.c rfl (o_fa 1 TI94 rfl TI9 rfl rfl ?_)
              refine WL.c rfl (o_ld TI9 rfl rfl (cell_of hC1 rfl) ?_)
              refine WL.c rfl (o_call Tryd.call52 (lc rfl ln) ((leaf_spec t.text _).mono ?_))
              rintro v19 w19 ⟨rfl, hx19⟩
              replace hx := hx.tr hx19
              replace hC1 := hx19.blk hC1 (fun h => h)
              refine WL.c rfl (o_mvh (by first | exact (show _ = Value.tuple _ from rfl) | exact rfl) ?_)
              refine WL.c rfl (o_ext rfl rfl ?_)
              refine WL.c rfl (o_ext rfl rfl ?_)
              refine WL.c rfl (o_alB TI36 ?_)
              intro wa hCa hxa hsa
              refine WL.u (o_stA TI36 rfl (show _ = Value.agg (exV { ex0 with kind := ((leafE t.text).getD (0, 0)).1, n := ((leafE t.text).getD (0, 0)).2 }).toArray from rfl) rfl rfl hCa rfl ?_)
              intro wb hB3 hob hsb
              have hxb := Ext.own hxa (Nat.le_refl _) hob
              clear hCa hxa hsa hob hsb
              replace hC1 := hxb.blk hC1 (fun h => h)
              replace hx := hx.tr hxb
              refine WL.c rfl (o_ash (show _ = Value.bool _ from rfl) ?_)
              refine WL.nil ?_
              refine W.seq ?_
              refine W.region ?_
              refine WL.c rfl (o_mvh (show _ = Value.bool _ from rfl) ?_)
              refine WL.c rfl (o_mvh (show _ = Value.bool _ from rfl) ?_)
              refine WL.sp 1 rfl (fun g23 => ?_) (fun g23 => ?_)
              · skip
                refine WL.s rfl (g23) rfl ?_
                refine WL.s rfl (g23) rfl ?_
                refine WL.s rfl (g23) rfl ?_
                refine WL.c rfl (o_pickT rfl (g23) ?_)
                refine WL.c rfl (o_ash (show _ = Value.bool _ from rfl) ?_)
                refine WL.nil ?_
                refine W.ret ?_
                refine ret1v rfl (show _ = Value.bool _ from rfl) ?_
                exact ⟨congrArg Value.bool (by simp_all [bgnT]), hx⟩
              · skip
                refine WL.g rfl (g23) rfl (o_fa 1 TI94 rfl TI9 rfl rfl ?_)
                refine WL.g rfl (g23) rfl (o_ld TI9 rfl rfl (cell_of hC1 rfl) ?_)
                refine WL.g rfl (g23) rfl (o_call Tryd.call35 (lc rfl ln) ((name_spec t.text _ hlen).mono ?_))
                rintro v26 w26 ⟨rfl, rfl⟩
                refine WL.c rfl (o_pickO rfl rfl ?_)
                refine WL.c rfl (o_ash (show _ = Value.bool _ from rfl) ?_)
                refine WL.nil ?_
                refine W.ret ?_
                refine ret1v rfl (show _ = Value.bool _ from rfl) ?_
                exact ⟨congrArg Value.bool (by simp_all [bgnT]), hx⟩
          · try simp only [decide_eq_true_eq, decide_eq_false_iff_not, Bool.not_eq_true', Bool.not_eq_false', Bool.and_eq_true, Bool.or_eq_true, Bool.and_eq_false_iff, Bool.or_eq_false_iff] at c10
            refine W.region ?_
            refine WL.c rfl (o_eqT rfl rfl ?_)
            refine WL.c rfl (o_ash (show _ = Value.bool _ from rfl) ?_)
            refine WL.nil ?_
            refine W.cond rfl (fun c10 => ?_) (fun c10 => ?_)
            · try simp only [decide_eq_true_eq, decide_eq_false_iff_not, Bool.not_eq_true', Bool.not_eq_false', Bool.and_eq_true, Bool.or_eq_true, Bool.and_eq_false_iff, Bool.or_eq_false_iff] at c10
              refine W.seq ?_
              refine W.region ?_
              refine WL.c rfl (o_ash (show _ = Value.bool _ from rfl) ?_)
              refine WL.nil ?_
              refine W.ret ?_
              refine ret1v rfl (show _ = Value.bool _ from rfl) ?_
              exact ⟨congrArg Value.bool (by simp_all [bgnT]), hx⟩
            · try simp only [decide_eq_true_eq, decide_eq_false_iff_not, Bool.not_eq_true', Bool.not_eq_false', Bool.and_eq_true, Bool.or_eq_true, Bool.and_eq_false_iff, Bool.or_eq_false_iff] at c10
              refine W.skip ?_
              refine W.seq ?_
              refine W.region ?_
              refine WL.c rfl (o_fa 1 TI94 rfl TI9 rfl rfl ?_)
              refine WL.c rfl (o_ld TI9 rfl rfl (cell_of hC1 rfl) ?_)
              refine WL.c rfl (o_call Tryd.call52 (lc rfl ln) ((leaf_spec t.text _).mono ?_))
              rintro v19 w19 ⟨rfl, hx19⟩
              replace hx := hx.tr hx19
              replace hC1 := hx19.blk hC1 (fun h => h)
              refine WL.c rfl (o_mvh (by first | exact (show _ = Value.tuple _ from rfl) | exact rfl) ?_)
              refine WL.c rfl (o_ext rfl rfl ?_)
              refine WL.c rfl (o_ext rfl rfl ?_)
              refine WL.c rfl (o_alB TI36 ?_)
              intro wa hCa hxa hsa
              refine WL.u (o_stA TI36 rfl (show _ = Value.agg (exV { ex0 with kind := ((leafE t.text).getD (0, 0)).1, n := ((leafE t.text).getD (0, 0)).2 }).toArray from rfl) rfl rfl hCa rfl ?_)
              intro wb hB3 hob hsb
              have hxb := Ext.own hxa (Nat.le_refl _) hob
              clear hCa hxa hsa hob hsb
              replace hC1 := hxb.blk hC1 (fun h => h)
              replace hx := hx.tr hxb
              refine WL.c rfl (o_ash (show _ = Value.bool _ from rfl) ?_)
              refine WL.nil ?_
              refine W.seq ?_
              refine W.region ?_
              refine WL.c rfl (o_mvh (show _ = Value.bool _ from rfl) ?_)
              refine WL.c rfl (o_mvh (show _ = Value.bool _ from rfl) ?_)
              refine WL.sp 1 rfl (fun g23 => ?_) (fun g23 => ?_)
              · skip
                refine WL.s rfl (g23) rfl ?_
                refine WL.s rfl (g23) rfl ?_
                refine WL.s rfl (g23) rfl ?_
                refine WL.c rfl (o_pickT rfl (g23) ?_)
                refine WL.c rfl (o_ash (show _ = Value.bool _ from rfl) ?_)
                refine WL.nil ?_
                refine W.ret ?_
                refine ret1v rfl (show _ = Value.bool _ from rfl) ?_
                exact ⟨congrArg Value.bool (by simp_all [bgnT]), hx⟩
              · skip
                refine WL.g rfl (g23) rfl (o_fa 1 TI94 rfl TI9 rfl rfl ?_)
                refine WL.g rfl (g23) rfl (o_ld TI9 rfl rfl (cell_of hC1 rfl) ?_)
                refine WL.g rfl (g23) rfl (o_call Tryd.call35 (lc rfl ln) ((name_spec t.text _ hlen).mono ?_))
                rintro v26 w26 ⟨rfl, rfl⟩
                refine WL.c rfl (o_pickO rfl rfl ?_)
                refine WL.c rfl (o_ash (show _ = Value.bool _ from rfl) ?_)
                refine WL.nil ?_
                refine W.ret ?_
                refine ret1v rfl (show _ = Value.bool _ from rfl) ?_
                exact ⟨congrArg Value.bool (by simp_all [bgnT]), hx⟩
end Go.Proofs.YtanimeifmicmoaaDoor

set_option linter.unusedSimpArgs false
set_option linter.unusedVariables false
set_option maxRecDepth 100000
namespace Go.Proofs.YtanimeifmicmoaaDoor
open Go Go.Vc Go.RowKit Go.Proofs

theorem headT_u {T : List Tk} {full : Bool} {i : Nat} {x : Ex} : headT T true full i x = if full = true ∧ (tkA T i).kind = 2 then .bad 5 i else (numT T i).bind fun n i => .ok { x with tag := n } i := rfl
theorem headT_s {T : List Tk} {full : Bool} {i : Nat} {x : Ex} : headT T false full i x = if full = true ∧ nmT (tkA T i) = true then .bad 5 i else (nameT T i).bind fun s i => .ok { x with label := s } i := rfl
theorem cells_exV {x : Ex} : (exV x).length = 7 := rfl
def exs (L : List Ex) : List Value := L.flatMap exV
theorem exs_len (L : List Ex) : (exs L).length = L.length * 7 := by
  induction L with
  | nil => rfl
  | cons a l ih => rw [exs, List.flatMap_cons, List.length_append, cells_exV]; show 7 + (exs l).length = _; rw [ih, List.length_cons]; omega
theorem exs_snoc (L : List Ex) (x : Ex) : exs (L ++ [x]) = exs L ++ exV x := by simp [exs]
theorem exs_app (L M : List Ex) : exs (L ++ M) = exs L ++ exs M := by simp [exs]

theorem headu_spec (B0 p c4 bx : Nat) (lv : Value) (T : List Tk) (fin at_ : Nat) (full : Bool) (x : Ex) (w0 : World) (h : Psr w0 B0 p lv T fin at_) (hc : w0.heap[c4]? = some (.cells #[.pointer (some ⟨p, 0, none⟩)] 67 (0, 0))) (hx0 : w0.heap[bx]? = some (.cells (exV x).toArray 36 (0, 0))) (hbp : ¬ bx = p) (hcp : ¬ c4 = p) (hbp2 : p < bx) : CaX Tryd.prog 55 #[.pointer (some ⟨bx, 0, none⟩), .bool full, .pointer (some ⟨c4, 0, none⟩)] w0 (fun _ w' => ∃ y, headT T true full at_ x = .ok y (at_ + 1) ∧ w'.heap[bx]? = some (.cells (exV y).toArray 36 (0, 0)) ∧ Psr w' B0 p lv T fin (at_ + 1) ∧ Only (fun k => k = p ∨ k = bx) w0 w') (fun ch w' => ∃ e j, headT T true full at_ x = .bad e j ∧ ch = [pan e (plc T fin j)] ∧ Ext w0 w') := by
  have hx : Ext w0 w0 := Only.refl _ _
  have hsm := h.small
  have hle := h.le
  refine CaX.of Tryd.func55 Tryd.ntmps55 rfl rfl ?_
  refine W.seq ?_
  refine W.seq ?_
  refine W.region ?_
  refine WL.c rfl (o_mvh (show _ = Value.bool _ from rfl) ?_)
  refine WL.c rfl (o_mvh (show _ = Value.bool _ from rfl) ?_)
  refine WL.sp 1 rfl (fun g6 => ?_) (fun g6 => ?_)
  · skip
    refine WL.g rfl (g6) rfl (o_ld TI67 rfl rfl (cell_of hc rfl) ?_)
    refine WL.g rfl (g6) rfl (o_call Tryd.call49 (lc rfl ln) ((peek_spec B0 p lv T fin at_ _ h).mono ?_))
    rintro v8 w8 ⟨rfl, hx8⟩
    replace h := h.ext hx8
    replace hx := hx.tr hx8
    replace hc := hx8.blk hc (fun h => h)
    replace hx0 := hx8.blk hx0 (fun h => h)
    refine WL.g rfl (g6) rfl (o_fldT TI94 rfl rfl rfl TI3 rfl rfl rfl ?_)
    refine WL.g rfl (g6) rfl (o_eq rfl rfl ?_)
    refine WL.c rfl (o_pickA rfl rfl ?_)
    refine WL.nil ?_
    refine W.cond rfl (fun c11 => ?_) (fun c11 => ?_)
    · try simp only [decide_eq_true_eq, decide_eq_false_iff_not, Bool.not_eq_true', Bool.not_eq_false', Bool.and_eq_true, Bool.or_eq_true, Bool.and_eq_false_iff, Bool.or_eq_false_iff] at c11
      have hk2 : full = true ∧ (tkA T at_).kind = 2 := by simp_all <;> omega
      refine W.region ?_
      refine WL.c rfl (o_ld TI67 rfl rfl (cell_of hc rfl) ?_)
      refine WL.cx rfl (ox_call Tryd.call29 (lc rfl (lc rfl ln)) ((fails_spec B0 p lv T fin at_ _ h 5).mono ?_ (fun ch w' hh => by obtain ⟨h1, h2⟩ := hh; exact ⟨5, at_, by rw [headT_u, if_pos hk2], h1, hx.tr h2⟩)))
      exact fun _ _ hf => hf.elim
    · try simp only [decide_eq_true_eq, decide_eq_false_iff_not, Bool.not_eq_true', Bool.not_eq_false', Bool.and_eq_true, Bool.or_eq_true, Bool.and_eq_false_iff, Bool.or_eq_false_iff] at c11
      have hk2 : ¬ (full = true ∧ (tkA T at_).kind = 2) := by simp_all <;> omega
      refine W.skip ?_
      refine W.region ?_
      refine WL.c rfl (o_mvh (by first | exact (show _ = Value.pointer _ from rfl) | exact rfl) ?_)
      refine WL.c rfl (o_ld TI67 rfl rfl (cell_of hc rfl) ?_)
      refine WL.cx rfl (ox_call Tryd.call53 (lc rfl ln) ((nump_spec B0 p lv T fin at_ _ h).mono ?_ (fun ch w' hh => by obtain ⟨e, j, h1, h2, h3⟩ := hh; exact ⟨e, j, by rw [headT_u, if_neg hk2, h1, Pr.bind], h2, hx.tr h3⟩)))
      rintro v16 w16 ⟨n, hn, rfl, h', hop⟩
      refine WL.c rfl (o_nil rfl ?_)
      refine WL.c rfl (o_fa 4 TI36 rfl TI3 rfl rfl ?_)
      refine WL.u (o_stB TI3 rfl (show _ = Value.int _ _ from rfl) rfl (hop.blk hx0 hbp) (show 4 < 7 by decide) ?_)
      intro wz hBz hoz hsz
      refine WL.nil ?_
      refine ret0 rfl ?_
      exact ⟨{ x with tag := n }, by rw [headT_u, if_neg hk2, hn, Pr.bind], hBz, h'.keep hoz (fun k hk => by subst hk; exact hbp2), (hx.mono (fun _ _ h => h.elim)).trans ((hop.mono (fun _ _ h => .inl h)).trans (hoz.mono (fun _ _ h => .inr h)))⟩
  · skip
    refine WL.s rfl (g6) rfl ?_
    refine WL.s rfl (g6) rfl ?_
    refine WL.s rfl (g6) rfl ?_
    refine WL.s rfl (g6) rfl ?_
    refine WL.c rfl (o_pickF rfl (g6) ?_)
    refine WL.nil ?_
    refine W.cond rfl (fun c11 => ?_) (fun c11 => ?_)
    · try simp only [decide_eq_true_eq, decide_eq_false_iff_not, Bool.not_eq_true', Bool.not_eq_false', Bool.and_eq_true, Bool.or_eq_true, Bool.and_eq_false_iff, Bool.or_eq_false_iff] at c11
      have hk2 : full = true ∧ (tkA T at_).kind = 2 := by simp_all <;> omega
      refine W.region ?_
      refine WL.c rfl (o_ld TI67 rfl rfl (cell_of hc rfl) ?_)
      refine WL.cx rfl (ox_call Tryd.call29 (lc rfl (lc rfl ln)) ((fails_spec B0 p lv T fin at_ _ h 5).mono ?_ (fun ch w' hh => by obtain ⟨h1, h2⟩ := hh; exact ⟨5, at_, by rw [headT_u, if_pos hk2], h1, hx.tr h2⟩)))
      exact fun _ _ hf => hf.elim
    · try simp only [decide_eq_true_eq, decide_eq_false_iff_not, Bool.not_eq_true', Bool.not_eq_false', Bool.and_eq_true, Bool.or_eq_true, Bool.and_eq_false_iff, Bool.or_eq_false_iff] at c11
      have hk2 : ¬ (full = true ∧ (tkA T at_).kind = 2) := by simp_all <;> omega
      refine W.skip ?_
      refine W.region ?_
      refine WL.c rfl (o_mvh (by first | exact (show _ = Value.pointer _ from rfl) | exact rfl) ?_)
      refine WL.c rfl (o_ld TI67 rfl rfl (cell_of hc rfl) ?_)
      refine WL.cx rfl (ox_call Tryd.call53 (lc rfl ln) ((nump_spec B0 p lv T fin at_ _ h).mono ?_ (fun ch w' hh => by obtain ⟨e, j, h1, h2, h3⟩ := hh; exact ⟨e, j, by rw [headT_u, if_neg hk2, h1, Pr.bind], h2, hx.tr h3⟩)))
      rintro v16 w16 ⟨n, hn, rfl, h', hop⟩
      refine WL.c rfl (o_nil rfl ?_)
      refine WL.c rfl (o_fa 4 TI36 rfl TI3 rfl rfl ?_)
      refine WL.u (o_stB TI3 rfl (show _ = Value.int _ _ from rfl) rfl (hop.blk hx0 hbp) (show 4 < 7 by decide) ?_)
      intro wz hBz hoz hsz
      refine WL.nil ?_
      refine ret0 rfl ?_
      exact ⟨{ x with tag := n }, by rw [headT_u, if_neg hk2, hn, Pr.bind], hBz, h'.keep hoz (fun k hk => by subst hk; exact hbp2), (hx.mono (fun _ _ h => h.elim)).trans ((hop.mono (fun _ _ h => .inl h)).trans (hoz.mono (fun _ _ h => .inr h)))⟩
theorem heads_spec (B0 p c4 bx : Nat) (lv : Value) (T : List Tk) (fin at_ : Nat) (full : Bool) (x : Ex) (w0 : World) (h : Psr w0 B0 p lv T fin at_) (hc : w0.heap[c4]? = some (.cells #[.pointer (some ⟨p, 0, none⟩)] 67 (0, 0))) (hx0 : w0.heap[bx]? = some (.cells (exV x).toArray 36 (0, 0))) (hbp : ¬ bx = p) (hcp : ¬ c4 = p) (hbp2 : p < bx) (hln : ∀ i, (tkA T i).text.length ≤ 9223372036854775807) : CaX Tryd.prog 56 #[.pointer (some ⟨bx, 0, none⟩), .bool full, .pointer (some ⟨c4, 0, none⟩)] w0 (fun _ w' => ∃ y, headT T false full at_ x = .ok y (at_ + 1) ∧ w'.heap[bx]? = some (.cells (exV y).toArray 36 (0, 0)) ∧ Psr w' B0 p lv T fin (at_ + 1) ∧ Only (fun k => k = p ∨ k = bx) w0 w') (fun ch w' => ∃ e j, headT T false full at_ x = .bad e j ∧ ch = [pan e (plc T fin j)] ∧ Ext w0 w') := by
  have hx : Ext w0 w0 := Only.refl _ _
  have hsm := h.small
  have hle := h.le
  have hlen : (tkA T at_).text.length ≤ 9223372036854775807 := hln at_
  refine CaX.of Tryd.func56 Tryd.ntmps56 rfl rfl ?_
  refine W.seq ?_
  refine W.seq ?_
  refine W.region ?_
  refine WL.c rfl (o_mvh (show _ = Value.bool _ from rfl) ?_)
  refine WL.c rfl (o_mvh (show _ = Value.bool _ from rfl) ?_)
  refine WL.sp 1 rfl (fun g6 => ?_) (fun g6 => ?_)
  · skip
    refine WL.g rfl (g6) rfl (o_ld TI67 rfl rfl (cell_of hc rfl) ?_)
    refine WL.g rfl (g6) rfl (o_call Tryd.call50 (lc rfl ln) ((isname_spec B0 p lv T fin at_ _ h hlen).mono ?_))
    rintro v8 w8 ⟨rfl, hx8⟩
    replace h := h.ext hx8
    replace hx := hx.tr hx8
    replace hc := hx8.blk hc (fun h => h)
    replace hx0 := hx8.blk hx0 (fun h => h)
    refine WL.c rfl (o_pickA rfl rfl ?_)
    refine WL.nil ?_
    refine W.cond rfl (fun c9 => ?_) (fun c9 => ?_)
    · try simp only [decide_eq_true_eq, decide_eq_false_iff_not, Bool.not_eq_true', Bool.not_eq_false', Bool.and_eq_true, Bool.or_eq_true, Bool.and_eq_false_iff, Bool.or_eq_false_iff] at c9
      have hk2 : full = true ∧ nmT (tkA T at_) = true := by simp_all <;> omega
      refine W.region ?_
      refine WL.c rfl (o_ld TI67 rfl rfl (cell_of hc rfl) ?_)
      refine WL.cx rfl (ox_call Tryd.call29 (lc rfl (lc rfl ln)) ((fails_spec B0 p lv T fin at_ _ h 5).mono ?_ (fun ch w' hh => by obtain ⟨h1, h2⟩ := hh; exact ⟨5, at_, by rw [headT_s, if_pos hk2], h1, hx.tr h2⟩)))
      exact fun _ _ hf => hf.elim
    · try simp only [decide_eq_true_eq, decide_eq_false_iff_not, Bool.not_eq_true', Bool.not_eq_false', Bool.and_eq_true, Bool.or_eq_true, Bool.and_eq_false_iff, Bool.or_eq_false_iff] at c9
      have hk2 : ¬ (full = true ∧ nmT (tkA T at_) = true) := by simp_all <;> omega
      refine W.skip ?_
      refine W.region ?_
      refine WL.c rfl (o_mvh (by first | exact (show _ = Value.pointer _ from rfl) | exact rfl) ?_)
      refine WL.c rfl (o_ld TI67 rfl rfl (cell_of hc rfl) ?_)
      refine WL.cx rfl (ox_call Tryd.call32 (lc rfl ln) ((namep_spec B0 p lv T fin at_ _ h hlen).mono ?_ (fun ch w' hh => by obtain ⟨e, j, h1, h2, h3⟩ := hh; exact ⟨e, j, by rw [headT_s, if_neg hk2, h1, Pr.bind], h2, hx.tr h3⟩)))
      rintro v14 w14 ⟨s, hn, rfl, h', hop⟩
      refine WL.c rfl (o_nil rfl ?_)
      refine WL.c rfl (o_fa 3 TI36 rfl TI9 rfl rfl ?_)
      refine WL.u (o_stB TI9 rfl (show _ = Value.string _ from rfl) rfl (hop.blk hx0 hbp) (show 3 < 7 by decide) ?_)
      intro wz hBz hoz hsz
      refine WL.nil ?_
      refine ret0 rfl ?_
      exact ⟨{ x with label := s }, by rw [headT_s, if_neg hk2, hn, Pr.bind], hBz, h'.keep hoz (fun k hk => by subst hk; exact hbp2), (hx.mono (fun _ _ h => h.elim)).trans ((hop.mono (fun _ _ h => .inl h)).trans (hoz.mono (fun _ _ h => .inr h)))⟩
  · skip
    refine WL.s rfl (g6) rfl ?_
    refine WL.s rfl (g6) rfl ?_
    refine WL.c rfl (o_pickF rfl (g6) ?_)
    refine WL.nil ?_
    refine W.cond rfl (fun c9 => ?_) (fun c9 => ?_)
    · try simp only [decide_eq_true_eq, decide_eq_false_iff_not, Bool.not_eq_true', Bool.not_eq_false', Bool.and_eq_true, Bool.or_eq_true, Bool.and_eq_false_iff, Bool.or_eq_false_iff] at c9
      have hk2 : full = true ∧ nmT (tkA T at_) = true := by simp_all <;> omega
      refine W.region ?_
      refine WL.c rfl (o_ld TI67 rfl rfl (cell_of hc rfl) ?_)
      refine WL.cx rfl (ox_call Tryd.call29 (lc rfl (lc rfl ln)) ((fails_spec B0 p lv T fin at_ _ h 5).mono ?_ (fun ch w' hh => by obtain ⟨h1, h2⟩ := hh; exact ⟨5, at_, by rw [headT_s, if_pos hk2], h1, hx.tr h2⟩)))
      exact fun _ _ hf => hf.elim
    · try simp only [decide_eq_true_eq, decide_eq_false_iff_not, Bool.not_eq_true', Bool.not_eq_false', Bool.and_eq_true, Bool.or_eq_true, Bool.and_eq_false_iff, Bool.or_eq_false_iff] at c9
      have hk2 : ¬ (full = true ∧ nmT (tkA T at_) = true) := by simp_all <;> omega
      refine W.skip ?_
      refine W.region ?_
      refine WL.c rfl (o_mvh (by first | exact (show _ = Value.pointer _ from rfl) | exact rfl) ?_)
      refine WL.c rfl (o_ld TI67 rfl rfl (cell_of hc rfl) ?_)
      refine WL.cx rfl (ox_call Tryd.call32 (lc rfl ln) ((namep_spec B0 p lv T fin at_ _ h hlen).mono ?_ (fun ch w' hh => by obtain ⟨e, j, h1, h2, h3⟩ := hh; exact ⟨e, j, by rw [headT_s, if_neg hk2, h1, Pr.bind], h2, hx.tr h3⟩)))
      rintro v14 w14 ⟨s, hn, rfl, h', hop⟩
      refine WL.c rfl (o_nil rfl ?_)
      refine WL.c rfl (o_fa 3 TI36 rfl TI9 rfl rfl ?_)
      refine WL.u (o_stB TI9 rfl (show _ = Value.string _ from rfl) rfl (hop.blk hx0 hbp) (show 3 < 7 by decide) ?_)
      intro wz hBz hoz hsz
      refine WL.nil ?_
      refine ret0 rfl ?_
      exact ⟨{ x with label := s }, by rw [headT_s, if_neg hk2, hn, Pr.bind], hBz, h'.keep hoz (fun k hk => by subst hk; exact hbp2), (hx.mono (fun _ _ h => h.elim)).trans ((hop.mono (fun _ _ h => .inl h)).trans (hoz.mono (fun _ _ h => .inr h)))⟩
end Go.Proofs.YtanimeifmicmoaaDoor

set_option linter.unusedSimpArgs false
set_option linter.unusedVariables false
set_option maxRecDepth 100000
namespace Go.Proofs.YtanimeifmicmoaaDoor
open Go Go.Vc Go.RowKit Go.Proofs

theorem ob {g n c k : Nat} (h : (Value.slice (some ⟨g, 0, none⟩) n c).ownBlock = some k) : g = k := by simpa [Value.ownBlock] using h
theorem headT_at {T : List Tk} {u full : Bool} {i j : Nat} {a : Int} {y : Ex} (b : Int) (h : headT T u full i { ex0 with at_ := a } = .ok y j) : y.at_ = a ∧ i < T.length ∧ y.kids = 0 ∧ j = i + 1 ∧ headT T u full i { ex0 with at_ := b } = .ok { y with at_ := b } j := by
  cases u
  · rw [headT_s] at h ⊢
    split at h
    · cases h
    · rename_i hn
      rw [if_neg hn]
      unfold nameT at h ⊢
      split at h
      · rename_i h1
        rw [if_pos h1]
        simp only [Pr.bind, Pr.ok.injEq] at h ⊢
        obtain ⟨rfl, rfl⟩ := h
        exact ⟨rfl, tkA_kind (k := 1) (by decide) (by simp only [nmT, Bool.and_eq_true, decide_eq_true_eq] at h1; exact h1.1), rfl, rfl, rfl, rfl⟩
      · cases h
  · rw [headT_u] at h ⊢
    split at h
    · cases h
    · rename_i hn
      rw [if_neg hn]
      unfold numT at h ⊢
      split at h
      · rename_i h1
        rw [if_pos h1]
        simp only [Pr.bind, Pr.ok.injEq] at h ⊢
        obtain ⟨rfl, rfl⟩ := h
        exact ⟨rfl, tkA_kind (k := 2) (by decide) h1, rfl, rfl, rfl, rfl⟩
      · cases h
theorem headT_bad {T : List Tk} {u full : Bool} {i e j : Nat} {a : Int} (b : Int) (h : headT T u full i { ex0 with at_ := a } = .bad e j) : headT T u full i { ex0 with at_ := b } = .bad e j := by
  cases u
  · rw [headT_s] at h ⊢
    split at h
    · rename_i hn; rw [if_pos hn]; exact h
    · rename_i hn
      rw [if_neg hn]
      unfold nameT at h ⊢
      split at h
      · cases h
      · rename_i h1; rw [if_neg h1]; exact h
  · rw [headT_u] at h ⊢
    split at h
    · rename_i hn; rw [if_pos hn]; exact h
    · rename_i hn
      rw [if_neg hn]
      unfold numT at h ⊢
      split at h
      · cases h
      · rename_i h1; rw [if_neg h1]; exact h
def Ex.wk (x : Ex) (z : Int) : Ex := { x with kids := z }
def Ex.wn (x : Ex) (z : Int) : Ex := { x with n := z }
theorem wk_self {x : Ex} {z : Int} (h : x.kids = z) : x.wk z = x := by subst h; rfl
theorem dec64 {x : Ex} {k : Nat} : decide (k = 64) = decide (((x.wk (k : Int)).kids) = 64) := by
  rw [Bool.eq_iff_iff, decide_eq_true_iff, decide_eq_true_iff]
  show k = 64 ↔ (k : Int) = 64
  omega
theorem exs_set {L M : List Ex} {x : Ex} {z : Int} : (exs (L ++ x :: M)).set (L.length * 7 + 5) (.int .i64 z) = exs (L ++ x.wk z :: M) := by
  rw [exs_app, exs_app, List.set_append_right _ _ (by rw [exs_len]; omega), exs_len, show L.length * 7 + 5 - L.length * 7 = 5 by omega]
  rfl
theorem exs_setN {L M : List Ex} {x : Ex} {z : Int} : (exs (L ++ x :: M)).set (L.length * 7 + 1) (.int .i64 z) = exs (L ++ x.wn z :: M) := by
  rw [exs_app, exs_app, List.set_append_right _ _ (by rw [exs_len]; omega), exs_len, show L.length * 7 + 1 - L.length * 7 = 1 by omega]
  rfl
theorem exs_kids {L M : List Ex} {x : Ex} : (exs (L ++ x :: M))[L.length * 7 + 5]? = some (.int .i64 x.kids) := by
  rw [exs_app, List.getElem?_append_right (by rw [exs_len]; omega), exs_len, show L.length * 7 + 5 - L.length * 7 = 5 by omega]
  rfl
abbrev RowE (w : World) (B0 : Nat) (v : Value) (L : List Ex) : Prop := w.ownsRow B0 36 7 v L.length (exs L)
/-- what expr does, asx told by E, at the depth 'deep', from the token m on -/
def ESpec (B0 p : Nat) (lv : Value) (T : List Tk) (fin : Nat) (E : Nat → Ex → Pr (List Ex)) (deep m : Nat) : Prop :=
  ∀ (at_ : Nat) (x : Ex) (L : List Ex) (v : Value) (w0 : World), m ≤ at_ → x.kids = 0 → Psr w0 B0 p lv T fin at_ → RowE w0 B0 v L → L.length ≤ at_ →
    CaX Tryd.prog 34 #[.pointer (some ⟨p, 0, none⟩), v, .agg (exV (plE T x)).toArray, .int .i64 (deep : Int)] w0
      (fun v' w' => ∃ N j, E at_ x = .ok N j ∧ RowE w' B0 v' (L ++ N.map (plE T)) ∧ L.length + N.length ≤ j ∧ at_ < j ∧ (∀ k, v'.ownBlock = some k → v.ownBlock = some k ∨ w0.heap.size ≤ k) ∧ Psr w' B0 p lv T fin j ∧ Only (fun k => k = p ∨ v.ownBlock = some k) w0 w')
      (fun ch w' => ∃ e j, E at_ x = .bad e j ∧ ch = [pan e (plc T fin j)] ∧ Only (fun k => k = p ∨ v.ownBlock = some k) w0 w')
/-- what stands ahead of the colon is read by g -/
def HSpec (B0 p c4 : Nat) (lv : Value) (T : List Tk) (fin : Nat) (u : Bool) (g : FuncId) : Prop :=
  ∀ (bx at_ : Nat) (full : Bool) (x : Ex) (w0 : World), Psr w0 B0 p lv T fin at_ → w0.heap[c4]? = some (.cells #[.pointer (some ⟨p, 0, none⟩)] 67 (0, 0)) → w0.heap[bx]? = some (.cells (exV x).toArray 36 (0, 0)) → ¬ bx = p → ¬ c4 = p → p < bx →
    CaX Tryd.prog g #[.pointer (some ⟨bx, 0, none⟩), .bool full, .pointer (some ⟨c4, 0, none⟩)] w0 (fun _ w' => ∃ y, headT T u full at_ x = .ok y (at_ + 1) ∧ w'.heap[bx]? = some (.cells (exV y).toArray 36 (0, 0)) ∧ Psr w' B0 p lv T fin (at_ + 1) ∧ Only (fun k => k = p ∨ k = bx) w0 w') (fun ch w' => ∃ e j, headT T u full at_ x = .bad e j ∧ ch = [pan e (plc T fin j)] ∧ Ext w0 w')
theorem plE_at {T : List Tk} {y : Ex} {i : Nat} (h : y.at_ = ((tkA T i).at_ : Int)) : plE T { y with at_ := (i : Int) } = y := by
  unfold plE
  rw [if_neg (by show ¬ (i : Int) < 0; omega)]
  cases y
  simp only at h
  simp [h]
theorem rowsT_s {E : Nat → Ex → Pr (List Ex)} {T : List Tk} {u : Bool} {g i k : Nat} : rowsT E T u (g + 1) i k = ((headT T u (decide (k = 64)) i { ex0 with at_ := i }).bind fun x i => (wantT T i 3 [58]).bind fun _ i => (E i x).bind fun N i =>
    if isT (tkA T i) 3 [44] = true then (rowsT E T u g (i + 1) (k + 1)).bind fun r i => .ok (N ++ r.1, r.2) i
    else (wantT T i 3 [125]).bind fun _ i => .ok (N, k + 1) i) := rfl
theorem Pr.bind_ok {α β : Type} {a : α} {i : Nat} {f : α → Nat → Pr β} : (Pr.ok a i).bind f = f a i := rfl
theorem Pr.bind_bad {α β : Type} {e i : Nat} {f : α → Nat → Pr β} : (Pr.bad e i : Pr α).bind f = .bad e i := rfl

set_option maxHeartbeats 2000000 in
theorem rows_spec (B0 p c4 : Nat) (lv : Value) (T : List Tk) (fin : Nat) (u : Bool) (g : FuncId) (hg : ∀ args w, (callFunc g args).run Tryd.prog w = .ok (.enter g args) w) (hH : HSpec B0 p c4 lv T fin u g) (E : Nat → Ex → Pr (List Ex)) (deep f m : Nat) (hE : ESpec B0 p lv T fin E (deep + 1) m) (hdeep : deep ≤ 16) (L : List Ex) (x : Ex) (hxk : x.kids = 0) (v : Value) (at_ : Nat) (w0 : World) (h : Psr w0 B0 p lv T fin at_) (hc4 : w0.heap[c4]? = some (.cells #[.pointer (some ⟨p, 0, none⟩)] 67 (0, 0))) (hcp : ¬ c4 = p) (hrow : RowE w0 B0 v (L ++ [plE T x])) (hl : L.length + 1 ≤ at_) (hm : m ≤ at_ + 1) (hf : T.length + 2 ≤ f + (at_ + 1)) : CaX Tryd.prog 54 #[.pointer (some ⟨p, 0, none⟩), v, .int .i64 (L.length : Int), .int .i64 (deep : Int), .int .i64 64, .func (.func g) #[] #[.pointer (some ⟨c4, 0, none⟩)]] w0 (fun v' w' => ∃ (N : List Ex) (k j : Nat), ((wantT T at_ 3 [123]).bind fun _ i => rowsT E T u f i 0) = .ok (N, k) j ∧ RowE w' B0 v' (L ++ (plE T x).wk (k : Int) :: N.map (plE T)) ∧ L.length + 1 + N.length ≤ j ∧ at_ < j ∧ (∀ k, v'.ownBlock = some k → v.ownBlock = some k ∨ w0.heap.size ≤ k) ∧ Psr w' B0 p lv T fin j ∧ Only (fun k => k = p ∨ v.ownBlock = some k) w0 w') (fun ch w' => ∃ e j, ((wantT T at_ 3 [123]).bind fun _ i => rowsT E T u f i 0) = .bad e j ∧ ch = [pan e (plc T fin j)] ∧ Only (fun k => k = p ∨ v.ownBlock = some k) w0 w') := by
  have hx : Ext w0 w0 := Only.refl _ _
  have hsm := h.small
  have hpl := (Array.getElem?_eq_some_iff.1 h.cell).1
  have hvp : ¬ v.ownBlock = some p := own_off hrow h.cell (by decide)
  have hvc : ¬ v.ownBlock = some c4 := own_off hrow hc4 (by decide)
  have hvl : ∀ k, v.ownBlock = some k → k < w0.heap.size := fun k hk => (hrow.lt k hk).2
  have hpk : (plE T x).kids = 0 := by unfold plE; split <;> exact hxk
  refine CaX.of Tryd.func54 Tryd.ntmps54 rfl rfl ?_
  refine W.seq ?_
  refine W.region ?_
  refine WL.c rfl (o_ash (by first | exact (show _ = Value.slice _ _ _ from rfl) | exact rfl) ?_)
  refine WL.nil ?_
  refine W.seq ?_
  refine W.region ?_
  refine WL.c rfl (o_mvh (by first | exact (show _ = Value.pointer _ from rfl) | exact rfl) ?_)
  refine WL.cx rfl (ox_call Tryd.call33 (lc rfl (lc rfl ln)) ((mark_spec B0 p lv T fin at_ _ h [123]).mono ?_ (fun ch w' hh => by obtain ⟨e, j, h1, h2, h3⟩ := hh; exact ⟨e, j, by rw [h1]; rfl, h2, h3.mono (fun _ _ h => h.elim)⟩)))
  rintro v15 w15 ⟨hw, h', ho⟩
  replace h := h'
  have hcl : ¬ c4 = p := hcp
  replace hc4 := ho.blk hc4 hcp
  replace hrow := own_only hrow ho (fun k hk he => by subst he; exact hvp hk)
  have hq : Only (fun k => k = p ∨ v.ownBlock = some k) w0 w15 := ho.mono (fun _ _ h => .inl h)
  rw [hw]
  simp only [Pr.bind_ok]
  refine WL.nil ?_
  refine W.seq ?_
  refine W.block ?_
  refine W.loopN (fun gg e w => ∃ (i k : Nat) (N : List Ex) (v' : Value), e 0 = .pointer (some ⟨p, 0, none⟩) ∧ e 1 = v' ∧ e 2 = .int .i64 (L.length : Int) ∧ e 3 = .int .i64 (deep : Int) ∧ e 4 = .int .i64 64 ∧ e 5 = .func (.func g) #[] #[.pointer (some ⟨c4, 0, none⟩)] ∧ Psr w B0 p lv T fin i ∧ RowE w B0 v' (L ++ (plE T x).wk (k : Int) :: N.map (plE T)) ∧ L.length + 1 + N.length ≤ i ∧ k ≤ i ∧ m ≤ i ∧ at_ < i ∧ T.length + 2 ≤ gg + i ∧ rowsT E T u f (at_ + 1) 0 = ((rowsT E T u gg i k).bind fun r i => .ok (N ++ r.1, r.2) i) ∧ (∀ k, v'.ownBlock = some k → v.ownBlock = some k ∨ w0.heap.size ≤ k) ∧ Only (fun k => k = p ∨ v.ownBlock = some k) w0 w ∧ w.heap[c4]? = some (.cells #[.pointer (some ⟨p, 0, none⟩)] 67 (0, 0))) ?_ ?_
  · refine ⟨f, at_ + 1, 0, [], v, rfl, rfl, rfl, rfl, rfl, rfl, h, ?_, by simp; omega, by omega, by omega, by omega, hf, ?_, fun k hk => .inl hk, hq, hc4⟩
    · rw [show ((0 : Nat) : Int) = 0 from rfl, wk_self hpk]; exact hrow
    · cases rowsT E T u f (at_ + 1) 0 <;> simp [Pr.bind]
  rintro gg e w ⟨i, k, N, v', h0, h1, h2, h3, h4, h5, h, hrow, hNl, hki, hmi, hati, hfi, hres, hvb, hq, hc4⟩
  obtain ⟨gg, rfl⟩ : ∃ g', gg = g' + 1 := ⟨gg - 1, by have := h.le; omega⟩
  have hpw := (Array.getElem?_eq_some_iff.1 h.cell).1
  have hcw := (Array.getElem?_eq_some_iff.1 hc4).1
  obtain ⟨gv, cap, rfl, hgb⟩ := own_some hrow (by simp only [List.length_append, List.length_cons]; omega)
  refine W.block ?_
  refine W.seq ?_
  refine W.region ?_
  refine WL.c rfl (o_mvh h0 ?_)
  refine WL.c rfl (o_call Tryd.call31 (lc rfl ln) ((place_spec B0 p lv T fin i _ h).mono ?_))
  rintro v17 w17 ⟨rfl, hx17⟩
  replace h := h.ext hx17
  replace hrow := own_ext hrow hx17
  replace hc4 := hx17.blk hc4 (fun h => h)
  replace hq := hq.ext hx17
  have hq17 : w0.heap.size ≤ w17.heap.size := hq.size
  have hgv17 : gv < w17.heap.size := (hrow.lt gv rfl).2
  refine WL.c rfl (o_bldC (cs := [(.int .i64 0), (.int .i64 0), (.string ⟨#[]⟩), (.string ⟨#[]⟩), (.int .i64 0), (.int .i64 0), _]) TI36 (Sizes.cons TI3 (Sizes.cons TI3 (Sizes.cons TI9 (Sizes.cons TI9 (Sizes.cons TI3 (Sizes.cons TI3 (Sizes.cons TI3 Sizes.nil))))))) rfl (lcp (show _ = Value.int _ _ from rfl) lnp) rfl rfl ?_)
  refine WL.c rfl (o_alB TI36 ?_)
  intro wa hCa hxa hsa
  refine WL.u (o_stA TI36 rfl (show _ = Value.agg (exV { ex0 with at_ := (plc T fin i : Int) }).toArray from rfl) rfl rfl hCa rfl ?_)
  intro wb hB hob hsb
  have hxb := Ext.own hxa (Nat.le_refl _) hob
  clear hCa hob hsb
  replace h := h.ext hxb
  replace hrow := own_ext hrow hxb
  replace hc4 := hxb.blk hc4 (fun h => h)
  replace hq := hq.ext hxb
  have h00 := h
  obtain ⟨bx, hbx⟩ : ∃ bx, bx = w17.heap.size := ⟨_, rfl⟩
  rw [← hbx] at hB ⊢
  have hpb : p < bx := by have := hx17.size; omega
  have hcb : c4 < bx := by have := hx17.size; omega
  have hBl := (Array.getElem?_eq_some_iff.1 hB).1
  refine WL.nil ?_
  refine W.seq ?_
  refine W.region ?_
  refine WL.c rfl (o_mvh h5 ?_)
  refine WL.c rfl (o_mvh h1 ?_)
  refine WL.c rfl (o_mvh h2 ?_)
  refine WL.c rfl (o_ixB (i := L.length) TI32 TI36 (show _ = Value.slice (some ⟨gv, 0, none⟩) (L ++ (plE T x).wk (k : Int) :: N.map (plE T)).length cap from rfl) rfl (by simp only [List.length_append, List.length_cons]; omega) ?_)
  refine WL.c rfl (o_fa 5 TI36 rfl TI3 rfl rfl ?_)
  refine WL.c rfl (o_ld TI3 rfl rfl (own_cell hrow (by rw [Nat.zero_add]; exact exs_kids)) ?_)
  refine WL.c rfl (o_mvh h4 ?_)
  refine WL.c rfl (o_eq rfl rfl ?_)
  refine WL.cx rfl (ox_callC rfl hg (lc rfl (lc rfl ln)) ((hH bx i (decide ((((plE T x).wk (k : Int)).kids) = 64)) { ex0 with at_ := (plc T fin i : Int) } _ h hc4 hB (by omega) hcp hpb).mono ?_ (fun ch w' hh => by obtain ⟨e, j, h1, h2, h3⟩ := hh; exact ⟨e, j, by rw [hres, rowsT_s, dec64 (x := plE T x), headT_bad _ h1]; rfl, h2, hq.ext h3⟩)))
  rintro v27 w27 ⟨y, hy, hB', h', ho⟩
  replace h := h'
  clear h' hB
  have h0c := h00.cell
  obtain ⟨hya, hil, hyk, -, hy2⟩ := headT_at (i : Int) hy
  have hpy : plE T { y with at_ := (i : Int) } = y := plE_at (by rw [hya, plc_lt hil])
  refine WL.nil ?_
  refine W.seq ?_
  refine W.region ?_
  refine WL.c rfl (o_mvh h0 ?_)
  refine WL.cx rfl (ox_call Tryd.call33 (lc rfl (lc rfl ln)) ((mark_spec B0 p lv T fin (i + 1) _ h [58]).mono ?_ (fun ch w' hh => by obtain ⟨e, j, h1, h2, h3⟩ := hh; exact ⟨e, j, by rw [hres, rowsT_s, dec64 (x := plE T x), hy2, Pr.bind_ok, h1]; rfl, h2, (hq.trans' ho (fun _ h => h) (fun k hk hF => hF.imp id (fun he => by omega))).ext h3⟩)))
  rintro v29 w29 ⟨hw2, h', ho2⟩
  replace h := h'
  replace hB := ho2.blk hB' (fun he => by omega)
  have hob : Only (fun k => k = p ∨ k = bx) wb w29 := ho.trans (ho2.mono (fun _ _ h => .inl h))
  have hgb2 : ¬ gv = bx := by omega
  have hgp : ¬ gv = p := fun he => own_off hrow h0c (by decide) (by rw [he]; rfl)
  have hgc : ¬ gv = c4 := fun he => own_off hrow hc4 (by decide) (by rw [he]; rfl)
  replace hrow := own_only hrow hob (fun k hk hF => by obtain rfl := ob hk; rcases hF with hF | hF; exact hgp hF; exact hgb2 hF)
  replace hc4 := hob.blk hc4 (fun hF => by rcases hF with hF | hF; exact hcp hF; omega)
  replace hq := hq.trans' hob (fun _ h => h) (fun k hk hF => hF.imp id (fun he => by omega))
  refine WL.nil ?_
  refine W.seq ?_
  refine W.region ?_
  refine WL.c rfl (o_mvh h0 ?_)
  refine WL.c rfl (o_mvh h1 ?_)
  refine WL.c rfl (o_ldA TI36 rfl rfl (show Cells _ bx 0 (exV y) from Cells.of hB 0 _ (by simp)) rfl ?_)
  refine WL.c rfl (o_mvh h3 ?_)
  refine WL.c rfl (o_addi rfl rfl (by omega) ?_)
  have hE2 := hE (i + 1 + 1) { y with at_ := (i : Int) } (L ++ (plE T x).wk (k : Int) :: N.map (plE T)) _ _ (by omega) hyk h hrow (by simp only [List.length_append, List.length_cons, List.length_map]; omega)
  rw [hpy, show ((deep + 1 : Nat) : Int) = (deep : Int) + 1 by omega] at hE2
  refine WL.cx rfl (ox_call Tryd.call34 (lc rfl (lc rfl (lc rfl (lc rfl ln)))) ((hE2).mono ?_ (fun ch w' hh => by obtain ⟨e, j, h1, h2, h3⟩ := hh; exact ⟨e, j, by rw [hres, rowsT_s, dec64 (x := plE T x), hy2, Pr.bind_ok, hw2, Pr.bind_ok, h1]; rfl, h2, hq.trans' h3 (fun _ h => h) (fun k hk hF => hF.imp id (fun he => (hvb k he).resolve_right (by omega)))⟩)))
  rintro v35 w35 ⟨M, j, hM, hrow', hMl, hij, hvb', h', ho3⟩
  have hsz0 := hq.size
  clear hrow h
  replace h := h'
  have erow : (L ++ (plE T x).wk (k : Int) :: N.map (plE T)) ++ M.map (plE T) = L ++ (plE T x).wk (k : Int) :: (N ++ M).map (plE T) := by simp
  rw [erow] at hrow'
  replace hc4 := ho3.blk hc4 (fun hF => by rcases hF with hF | hF; exact hcp hF; exact hgc (ob hF))
  replace hq := hq.trans' ho3 (fun _ h => h) (fun k hk hF => hF.imp id (fun he => (hvb k he).resolve_right (by omega)))
  have hvbn : ∀ k, v35.ownBlock = some k → v.ownBlock = some k ∨ w0.heap.size ≤ k := fun k hk => by
    rcases hvb' k hk with h1 | h1
    · exact hvb k h1
    · exact .inr (by omega)
  clear hvb'
  have hjl := h.le
  simp only [List.length_append, List.length_cons, List.length_map] at hMl
  obtain ⟨g2, cap2, rfl, hgb3⟩ := own_some hrow' (by simp only [List.length_append, List.length_cons]; omega)
  refine WL.c rfl (o_ash (by first | exact (show _ = Value.slice _ _ _ from rfl) | exact rfl) ?_)
  refine WL.nil ?_
  refine W.seq ?_
  refine W.region ?_
  refine WL.c rfl (o_mvh (by first | exact (show _ = Value.slice _ _ _ from rfl) | exact rfl) ?_)
  refine WL.c rfl (o_mvh h2 ?_)
  refine WL.c rfl (o_ixB (i := L.length) TI32 TI36 (show _ = Value.slice (some ⟨g2, 0, none⟩) (L ++ (plE T x).wk (k : Int) :: (N ++ M).map (plE T)).length cap2 from rfl) rfl (by simp only [List.length_append, List.length_cons]; omega) ?_)
  refine WL.c rfl (o_fa 5 TI36 rfl TI3 rfl rfl ?_)
  refine WL.c rfl (o_ld TI3 rfl rfl (show _ = some (Value.int .i64 (k : Int)) from own_cell hrow' (by rw [Nat.zero_add]; exact exs_kids)) ?_)
  refine WL.c rfl (o_addi rfl rfl (by omega) ?_)
  refine WL.c rfl (o_ixB (i := L.length) TI32 TI36 (show _ = Value.slice (some ⟨g2, 0, none⟩) (L ++ (plE T x).wk (k : Int) :: (N ++ M).map (plE T)).length cap2 from rfl) rfl (by simp only [List.length_append, List.length_cons]; omega) ?_)
  refine WL.c rfl (o_fa 5 TI36 rfl TI3 rfl rfl ?_)
  refine WL.u (o_stRj (i := L.length * 7 + 5) TI3 rfl (by omega) (show _ = Value.int .i64 ((k : Int) + 1) from rfl) rfl hrow' rfl (by simp only [List.length_append, List.length_cons]; omega) ?_)
  intro w43 hrow2 ho43 hs43
  rw [exs_set] at hrow2
  replace hrow : RowE w43 B0 (.slice (some ⟨g2, 0, none⟩) (L ++ (plE T x).wk (k : Int) :: (N ++ M).map (plE T)).length cap2) (L ++ (plE T x).wk ((k + 1 : Nat) : Int) :: (N ++ M).map (plE T)) := by
    show World.ownsRow _ _ _ _ _ (L ++ (plE T x).wk ((k + 1 : Nat) : Int) :: (N ++ M).map (plE T)).length _
    rw [show (L ++ (plE T x).wk ((k + 1 : Nat) : Int) :: (N ++ M).map (plE T)).length = (L ++ (plE T x).wk (k : Int) :: (N ++ M).map (plE T)).length by simp only [List.length_append, List.length_cons]]
    exact hrow2
  have hg2p : ¬ g2 = p := fun he => own_off hrow' h.cell (by decide) (by rw [he]; rfl)
  have hg2c : ¬ g2 = c4 := fun he => own_off hrow' hc4 (by decide) (by rw [he]; rfl)
  have hg2r : p < g2 := by have := (hrow'.lt g2 rfl).1; have := h.hp; omega
  clear hrow' hrow2
  replace h := h.keep ho43 (fun k hk => by obtain rfl := ob hk; exact hg2r)
  replace hc4 := ho43.blk hc4 (fun hk => hg2c (ob hk))
  replace hq := hq.trans' ho43 (fun _ h => h) (fun k hk hF => .inr ((hvbn k hF).resolve_right (by omega)))
  refine WL.nil ?_
  refine W.seq ?_
  refine W.seq ?_
  refine W.region ?_
  refine WL.c rfl (o_mvh h0 ?_)
  refine WL.c rfl (o_call Tryd.call28 (lc rfl (lc rfl (lc rfl ln))) ((is_spec B0 p lv T fin j _ h 3 [44]).mono ?_))
  rintro v45 w45 ⟨rfl, hx45⟩
  replace h := h.ext hx45
  replace hrow := own_ext hrow hx45
  replace hc4 := hx45.blk hc4 (fun h => h)
  replace hq := hq.ext hx45
  refine WL.c rfl (o_not' rfl ?_)
  refine WL.nil ?_
  refine W.cond rfl (fun c46 => ?_) (fun c46 => ?_)
  · try simp only [decide_eq_true_eq, decide_eq_false_iff_not, Bool.not_eq_true', Bool.not_eq_false', Bool.and_eq_true, Bool.or_eq_true, Bool.and_eq_false_iff, Bool.or_eq_false_iff] at c46
    have hcm : ¬ isT (tkA T j) 3 [44] = true := by simp_all
    refine W.exit ?_
    refine W.seq ?_
    refine W.region ?_
    refine WL.c rfl (o_mvh h0 ?_)
    refine WL.cx rfl (ox_call Tryd.call33 (lc rfl (lc rfl ln)) ((mark_spec B0 p lv T fin j _ h [125]).mono ?_ (fun ch w' hh => by obtain ⟨e, j, h1, h2, h3⟩ := hh; exact ⟨e, j, by rw [hres, rowsT_s, dec64 (x := plE T x), hy2, Pr.bind_ok, hw2, Pr.bind_ok, hM, Pr.bind_ok, if_neg hcm, h1]; rfl, h2, hq.ext h3⟩)))
    rintro v55 w55 ⟨hw3, h', ho55⟩
    replace h := h'
    replace hrow := own_only hrow ho55 (fun k hk he => by obtain rfl := ob hk; exact hg2p he)
    replace hq := hq.trans' ho55 (fun _ h => h) (fun _ _ h => .inl h)
    refine WL.nil ?_
    refine W.seq ?_
    refine W.region ?_
    refine WL.c rfl (o_mvh (by first | exact (show _ = Value.slice _ _ _ from rfl) | exact rfl) ?_)
    refine WL.c rfl (o_ash (by first | exact (show _ = Value.slice _ _ _ from rfl) | exact rfl) ?_)
    refine WL.nil ?_
    refine W.ret ?_
    refine ret1v rfl rfl ?_
    refine ⟨N ++ M, k + 1, j + 1, ?_, hrow, by rw [List.length_append]; omega, by omega, hvbn, h, hq⟩
    rw [hres, rowsT_s, dec64 (x := plE T x), hy2, Pr.bind_ok, hw2, Pr.bind_ok, hM, Pr.bind_ok, if_neg hcm, hw3]; rfl
  · try simp only [decide_eq_true_eq, decide_eq_false_iff_not, Bool.not_eq_true', Bool.not_eq_false', Bool.and_eq_true, Bool.or_eq_true, Bool.and_eq_false_iff, Bool.or_eq_false_iff] at c46
    have hcm : isT (tkA T j) 3 [44] = true := by simp_all
    have hjl2 := isT_lt (by decide) hcm
    refine W.skip ?_
    refine W.region ?_
    refine WL.c rfl (o_mvh h0 ?_)
    refine WL.c rfl (o_nil rfl ?_)
    refine WL.c rfl (o_fa 1 TI69 rfl TI3 rfl rfl ?_)
    refine WL.c rfl (o_ld TI3 rfl rfl (cell_of h.cell rfl) ?_)
    refine WL.c rfl (o_addi rfl rfl (by omega) ?_)
    refine WL.c rfl (o_nil rfl ?_)
    refine WL.c rfl (o_fa 1 TI69 rfl TI3 rfl rfl ?_)
    refine WL.u (o_stB TI3 rfl (show _ = Value.int _ _ from rfl) rfl h.cell (show 1 < 3 by decide) ?_)
    intro w53 hBp hop hsp
    replace h := h.move (a2 := j + 1) hBp hop (by omega)
    replace hrow := own_only hrow hop (fun k hk he => by obtain rfl := ob hk; exact hg2p he)
    replace hc4 := hop.blk hc4 hcp
    replace hq := hq.trans' hop (fun _ h => h) (fun _ _ h => .inl h)
    refine WL.nil ?_
    refine ⟨gg, by omega, j + 1, k + 1, N ++ M, _, h0, rfl, h2, h3, h4, h5, h, hrow, by rw [List.length_append]; omega, by omega, by omega, by omega, by omega, ?_, hvbn, hq, hc4⟩
    rw [hres, rowsT_s, dec64 (x := plE T x), hy2, Pr.bind_ok, hw2, Pr.bind_ok, hM, Pr.bind_ok, if_pos hcm]
    cases rowsT E T u gg (j + 1) (k + 1) <;> simp [Pr.bind]
end Go.Proofs.YtanimeifmicmoaaDoor
