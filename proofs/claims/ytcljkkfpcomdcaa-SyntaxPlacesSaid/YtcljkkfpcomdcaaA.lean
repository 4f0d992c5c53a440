/-
  Walks. Written by program out of specs of mine.
-/
import Derived.Test.YtcljkkfpcomdcaaStr
import Derived.Test.YtcljkkfpcomdcaaFacts
import Derived.Test.YtcljkkfpcomdcaaDefer
import Derived.Test.YtcljkkfpcomdcaaXtra
import Derived.Lib.Bytealg
set_option linter.unusedSimpArgs false
set_option linter.unusedVariables false
set_option maxRecDepth 100000
namespace Go.Proofs.Ytcljkkfpcomdcaa
open Go Go.Vc Go.RowKit Go.Proofs

def letB (c : UInt8) : Bool := decide (97 ≤ c.toNat) && decide (c.toNat ≤ 122)
def digB (c : UInt8) : Bool := decide (48 ≤ c.toNat) && decide (c.toNat ≤ 57)
def goeB (c : UInt8) : Bool := letB c || digB c || decide (c.toNat = 95)
def nnlB (c : UInt8) : Bool := !decide (c.toNat = 10)
def marks : List UInt8 := [61, 59, 60, 62, 44, 58, 123, 125]
def markB (c : UInt8) : Bool := marks.contains c
def runL (p : UInt8 → Bool) (xs : List UInt8) (k : Nat) : Nat := k + ((xs.drop k).takeWhile p).length
theorem runL_go {p : UInt8 → Bool} {xs : List UInt8} {k : Nat} (hk : k < xs.length) (hp : p xs[k] = true) : runL p xs k = runL p xs (k + 1) := by
  unfold runL
  rw [← List.getElem_cons_drop hk, List.takeWhile_cons_of_pos hp, List.length_cons]; omega
theorem runL_stop {p : UInt8 → Bool} {xs : List UInt8} {k : Nat} (hk : k < xs.length) (hp : p xs[k] = false) : runL p xs k = k := by
  unfold runL
  rw [← List.getElem_cons_drop hk, List.takeWhile_cons_of_neg (by simp [hp])]; rfl
theorem runL_end {p : UInt8 → Bool} {xs : List UInt8} {k : Nat} (hk : xs.length ≤ k) : runL p xs k = k := by
  unfold runL
  rw [List.drop_eq_nil_of_le hk]; rfl
theorem runL_le {p : UInt8 → Bool} {xs : List UInt8} {k : Nat} (hk : k ≤ xs.length) : k ≤ runL p xs k ∧ runL p xs k ≤ xs.length := by
  unfold runL
  have := (List.takeWhile_sublist p (l := xs.drop k)).length_le
  simp at this; omega
theorem runL_cases (p : UInt8 → Bool) (xs : List UInt8) (k : Nat) (hk : k ≤ xs.length) : (∃ h : k < xs.length, p xs[k] = true) ∨ (∃ h : k < xs.length, p xs[k] = false) ∨ k = xs.length := by
  by_cases h : k < xs.length
  · cases hp : p xs[k]
    · exact .inr (.inl ⟨h, hp⟩)
    · exact .inl ⟨h, hp⟩
  · exact .inr (.inr (by omega))
def words : List (List UInt8) := [[116, 121, 112, 101], [117, 56], [117, 49, 54], [117, 51, 50], [117, 54, 52], [98, 111, 111, 108], [118, 97, 114, 105, 110, 116], [118, 101, 99, 116, 111, 114], [108, 105, 115, 116], [111, 112, 116, 105, 111, 110], [117, 110, 105, 111, 110], [115, 116, 114, 117, 99, 116]]
def wordB (xs : List UInt8) : Bool := decide (xs ∈ words)
def nameB (xs : List UInt8) : Bool := decide (xs ≠ []) && decide (xs.length ≤ 32) && (xs.head?.any letB) && xs.all goeB && !wordB xs
theorem cells_all {w : World} {b T : Nat} {cs : Array Value} (h : w.heap[b]? = some (.cells cs T (0, 0))) : Cells w b 0 cs.toList := Cells.of h 0 _ (fun i v hv => by simpa using hv)

theorem letter_spec (c : UInt8) (w0 : World) : Ca Try.prog 45 #[bv c] w0 (fun v w' => v = .bool (letB c) ∧ w' = w0) := by
  refine Ca.of Try.func45 Try.ntmps45 rfl rfl ?_
  refine W.seq ?_
  refine W.region ?_
  refine WL.c rfl (o_as ?_)
  refine WL.nil ?_
  refine W.seq ?_
  refine W.region ?_
  refine WL.c rfl (o_mv ?_)
  refine WL.c rfl (o_ge rfl rfl ?_)
  refine WL.c rfl (o_mv ?_)
  refine WL.sp 2 rfl (fun g5 => ?_) (fun g5 => ?_)
  · skip
    refine WL.g rfl (g5) rfl (o_mv ?_)
    refine WL.g rfl (g5) rfl (o_le rfl rfl ?_)
    refine WL.c rfl (o_pickA rfl rfl ?_)
    refine WL.c rfl (o_as ?_)
    refine WL.nil ?_
    refine W.ret ?_
    refine ret1v rfl (show _ = Value.bool _ from rfl) ?_
    exact ⟨congrArg Value.bool (by rw [Bool.eq_iff_iff]; simp_all [letB] <;> omega), rfl⟩
  · skip
    refine WL.s rfl (g5) rfl ?_
    refine WL.s rfl (g5) rfl ?_
    refine WL.c rfl (o_pickF rfl (g5) ?_)
    refine WL.c rfl (o_as ?_)
    refine WL.nil ?_
    refine W.ret ?_
    refine ret1v rfl (show _ = Value.bool _ from rfl) ?_
    exact ⟨congrArg Value.bool (by rw [Bool.eq_iff_iff]; simp_all [letB] <;> omega), rfl⟩
theorem digit_spec (c : UInt8) (w0 : World) : Ca Try.prog 62 #[bv c] w0 (fun v w' => v = .bool (digB c) ∧ w' = w0) := by
  refine Ca.of Try.func62 Try.ntmps62 rfl rfl ?_
  refine W.seq ?_
  refine W.region ?_
  refine WL.c rfl (o_as ?_)
  refine WL.nil ?_
  refine W.seq ?_
  refine W.region ?_
  refine WL.c rfl (o_mv ?_)
  refine WL.c rfl (o_ge rfl rfl ?_)
  refine WL.c rfl (o_mv ?_)
  refine WL.sp 2 rfl (fun g5 => ?_) (fun g5 => ?_)
  · skip
    refine WL.g rfl (g5) rfl (o_mv ?_)
    refine WL.g rfl (g5) rfl (o_le rfl rfl ?_)
    refine WL.c rfl (o_pickA rfl rfl ?_)
    refine WL.c rfl (o_as ?_)
    refine WL.nil ?_
    refine W.ret ?_
    refine ret1v rfl (show _ = Value.bool _ from rfl) ?_
    exact ⟨congrArg Value.bool (by rw [Bool.eq_iff_iff]; simp_all [digB] <;> omega), rfl⟩
  · skip
    refine WL.s rfl (g5) rfl ?_
    refine WL.s rfl (g5) rfl ?_
    refine WL.c rfl (o_pickF rfl (g5) ?_)
    refine WL.c rfl (o_as ?_)
    refine WL.nil ?_
    refine W.ret ?_
    refine ret1v rfl (show _ = Value.bool _ from rfl) ?_
    exact ⟨congrArg Value.bool (by rw [Bool.eq_iff_iff]; simp_all [digB] <;> omega), rfl⟩
theorem nnl_spec (c : UInt8) (w0 : World) : Ca Try.prog 39 #[bv c] w0 (fun v w' => v = .bool (nnlB c) ∧ w' = w0) := by
  refine Ca.of Try.func39 Try.ntmps39 rfl rfl ?_
  refine W.seq ?_
  refine W.region ?_
  refine WL.c rfl (o_as ?_)
  refine WL.nil ?_
  refine W.seq ?_
  refine W.region ?_
  refine WL.c rfl (o_mv ?_)
  refine WL.c rfl (o_ne rfl rfl ?_)
  refine WL.c rfl (o_as ?_)
  refine WL.nil ?_
  refine W.ret ?_
  refine ret1v rfl (show _ = Value.bool _ from rfl) ?_
  exact ⟨congrArg Value.bool (by rw [Bool.eq_iff_iff]; simp_all [nnlB] <;> omega), rfl⟩
theorem further_spec (c : UInt8) (w0 : World) : Ca Try.prog 46 #[bv c] w0 (fun v w' => v = .bool (goeB c) ∧ w' = w0) := by
  refine Ca.of Try.func46 Try.ntmps46 rfl rfl ?_
  refine W.seq ?_
  refine W.region ?_
  refine WL.c rfl (o_as ?_)
  refine WL.nil ?_
  refine W.seq ?_
  refine W.region ?_
  refine WL.c rfl (o_mv ?_)
  refine WL.c rfl (o_call Try.call45 (lc rfl ln) ((letter_spec c _).mono ?_))
  rintro v4 w4 ⟨rfl, rfl⟩
  refine WL.c rfl (o_mv ?_)
  refine WL.sp 2 rfl (fun g5 => ?_) (fun g5 => ?_)
  · skip
    refine WL.s rfl (g5) rfl ?_
    refine WL.s rfl (g5) rfl ?_
    refine WL.c rfl (o_pickT rfl (g5) ?_)
    refine WL.c rfl (o_mv ?_)
    refine WL.s rfl (rfl) rfl ?_
    refine WL.s rfl (rfl) rfl ?_
    refine WL.c rfl (o_pickT rfl (rfl) ?_)
    refine WL.c rfl (o_as ?_)
    refine WL.nil ?_
    refine W.ret ?_
    refine ret1v rfl (show _ = Value.bool _ from rfl) ?_
    exact ⟨congrArg Value.bool (by rw [Bool.eq_iff_iff]; simp_all [goeB] <;> omega), rfl⟩
  · skip
    refine WL.g rfl (g5) rfl (o_mv ?_)
    refine WL.g rfl (g5) rfl (o_call Try.call62 (lc rfl ln) ((digit_spec c _).mono ?_))
    rintro v7 w7 ⟨rfl, rfl⟩
    refine WL.c rfl (o_pickO rfl rfl ?_)
    refine WL.c rfl (o_mv ?_)
    refine WL.sp 6 rfl (fun g9 => ?_) (fun g9 => ?_)
    · skip
      refine WL.s rfl (g9) rfl ?_
      refine WL.s rfl (g9) rfl ?_
      refine WL.c rfl (o_pickT rfl (g9) ?_)
      refine WL.c rfl (o_as ?_)
      refine WL.nil ?_
      refine W.ret ?_
      refine ret1v rfl (show _ = Value.bool _ from rfl) ?_
      exact ⟨congrArg Value.bool (by rw [Bool.eq_iff_iff]; simp_all [goeB] <;> omega), rfl⟩
    · skip
      refine WL.g rfl (g9) rfl (o_mv ?_)
      refine WL.g rfl (g9) rfl (o_eq rfl rfl ?_)
      refine WL.c rfl (o_pickO rfl rfl ?_)
      refine WL.c rfl (o_as ?_)
      refine WL.nil ?_
      refine W.ret ?_
      refine ret1v rfl (show _ = Value.bool _ from rfl) ?_
      exact ⟨congrArg Value.bool (by rw [Bool.eq_iff_iff]; simp_all [goeB] <;> omega), rfl⟩
theorem run_spec (p : UInt8 → Bool) (g : FuncId) (xs : List UInt8) (k0 : Nat) (w0 : World) (hk0 : k0 ≤ xs.length) (hlen : xs.length ≤ 9223372036854775807) (hp : ∀ c w, Ca Try.prog g #[bv c] w (fun v w' => v = .bool (p c) ∧ w' = w)) (hg : ∀ args w, (callFunc g args).run Try.prog w = .ok (.enter g args) w) : Ca Try.prog 38 #[st xs, .int .i64 (k0 : Int), .func (.func g) #[] #[]] w0 (fun v w' => v = .int .i64 (runL p xs k0 : Int) ∧ w' = w0) := by
  refine Ca.of Try.func38 Try.ntmps38 rfl rfl ?_
  refine W.seq ?_
  refine W.region ?_
  refine WL.c rfl (o_as ?_)
  refine WL.nil ?_
  refine W.seq ?_
  refine W.block ?_
  refine W.loop (fun e w => ∃ k : Nat, k ≤ xs.length ∧ e 0 = st xs ∧ e 1 = .int .i64 (k : Int) ∧ e 2 = .func (.func g) #[] #[] ∧ runL p xs k0 = runL p xs k ∧ w = w0) (fun e w => xs.length - (intOf (e 1)).toNat) ?_ ?_
  · exact ⟨k0, hk0, rfl, rfl, rfl, rfl, rfl⟩
  rintro e w ⟨k, hk, h0, h1, h2, hr, rfl⟩
  refine W.seq ?_
  refine W.seq ?_
  rcases runL_cases p xs k hk with ⟨hk1, hpk⟩ | ⟨hk1, hpk⟩ | hk1
  · skip
    refine W.region ?_
    refine WL.c rfl (o_mvh h1 ?_)
    refine WL.c rfl (o_mvh h0 ?_)
    refine WL.c rfl (o_lenT TI9 rfl ?_)
    refine WL.c rfl (o_lt rfl rfl ?_)
    refine WL.c rfl (o_mv ?_)
    refine WL.g rfl (by simp; omega) rfl (o_mvh h2 ?_)
    refine WL.g rfl (by simp; omega) rfl (o_mvh h0 ?_)
    refine WL.g rfl (by simp; omega) rfl (o_mvh h1 ?_)
    refine WL.g rfl (by simp; omega) rfl (o_idT TI9 rfl rfl (by omega) ?_)
    refine WL.g rfl (by simp; omega) rfl (o_callF rfl hg (lc rfl ln) ((hp xs[k] _).mono ?_))
    rintro v16 w16 ⟨rfl, rfl⟩
    refine WL.c rfl (o_pickA rfl rfl ?_)
    refine WL.nil ?_
    refine W.condT' rfl (by simp [hpk]; omega) ?_
    refine W.skip ?_
    refine W.block ?_
    refine W.region ?_
    refine WL.c rfl (o_mvh h1 ?_)
    refine WL.c rfl (o_addi rfl rfl (by omega) ?_)
    refine WL.c rfl (o_as ?_)
    refine WL.nil ?_
    refine ⟨⟨k + 1, by omega, h0, rfl, h2, by rw [hr]; exact runL_go hk1 hpk, rfl⟩, ?_⟩
    show xs.length - ((k : Int) + 1).toNat < _
    rw [h1]; simp [intOf]; omega
  · skip
    refine W.region ?_
    refine WL.c rfl (o_mvh h1 ?_)
    refine WL.c rfl (o_mvh h0 ?_)
    refine WL.c rfl (o_lenT TI9 rfl ?_)
    refine WL.c rfl (o_lt rfl rfl ?_)
    refine WL.c rfl (o_mv ?_)
    refine WL.g rfl (by simp; omega) rfl (o_mvh h2 ?_)
    refine WL.g rfl (by simp; omega) rfl (o_mvh h0 ?_)
    refine WL.g rfl (by simp; omega) rfl (o_mvh h1 ?_)
    refine WL.g rfl (by simp; omega) rfl (o_idT TI9 rfl rfl (by omega) ?_)
    refine WL.g rfl (by simp; omega) rfl (o_callF rfl hg (lc rfl ln) ((hp xs[k] _).mono ?_))
    rintro v16 w16 ⟨rfl, rfl⟩
    refine WL.c rfl (o_pickA rfl rfl ?_)
    refine WL.nil ?_
    refine W.condF' rfl (by simp [hpk]) ?_
    refine W.exit ?_
    refine W.seq ?_
    refine W.region ?_
    refine WL.c rfl (o_mvh h1 ?_)
    refine WL.c rfl (o_as ?_)
    refine WL.nil ?_
    refine W.ret ?_
    refine ret1v rfl (show _ = Value.int _ _ from rfl) ?_
    exact ⟨by rw [hr, runL_stop hk1 hpk], rfl⟩
  · skip
    refine W.region ?_
    refine WL.c rfl (o_mvh h1 ?_)
    refine WL.c rfl (o_mvh h0 ?_)
    refine WL.c rfl (o_lenT TI9 rfl ?_)
    refine WL.c rfl (o_lt rfl rfl ?_)
    refine WL.c rfl (o_mv ?_)
    refine WL.s rfl (by simp; omega) rfl ?_
    refine WL.s rfl (by simp; omega) rfl ?_
    refine WL.s rfl (by simp; omega) rfl ?_
    refine WL.s rfl (by simp; omega) rfl ?_
    refine WL.s rfl (by simp; omega) rfl ?_
    refine WL.c rfl (o_pickF rfl (by simp; omega) ?_)
    refine WL.nil ?_
    refine W.condF' rfl (rfl) ?_
    refine W.exit ?_
    refine W.seq ?_
    refine W.region ?_
    refine WL.c rfl (o_mvh h1 ?_)
    refine WL.c rfl (o_as ?_)
    refine WL.nil ?_
    refine W.ret ?_
    refine ret1v rfl (show _ = Value.int _ _ from rfl) ?_
    exact ⟨by rw [hr, runL_end (by omega)], rfl⟩

theorem runL_all (p : UInt8 → Bool) (xs : List UInt8) : runL p xs 0 = xs.length ↔ xs.all p = true := by
  unfold runL
  rw [List.drop_zero, Nat.zero_add]
  induction xs with
  | nil => simp
  | cons c cs ih =>
    cases hp : p c
    · rw [List.takeWhile_cons_of_neg (by simp [hp])]; simp [hp]
    · rw [List.takeWhile_cons_of_pos hp]; simp [hp, ih]
theorem head_any {xs : List UInt8} (p : UInt8 → Bool) (h : 0 < xs.length) : xs.head?.any p = p xs[0] := by
  cases xs with
  | nil => simp at h
  | cons c cs => rfl
theorem mark_idx (c : UInt8) : decide (0 ≤ Lib.indexByte marks c) = markB c := by
  have h : ∀ n : Fin 256, decide (0 ≤ Lib.indexByte marks (UInt8.ofNat n.1)) = markB (UInt8.ofNat n.1) := by decide +kernel
  have := h ⟨c.toNat, UInt8.toNat_lt c⟩
  simpa using this
def lead (xs : List UInt8) : Bool := decide (1 < xs.length) && decide (xs[0]?.map (·.toNat) = some 48)
def numF (n : Nat) : List UInt8 → Nat × Nat
  | [] => (n, 0)
  | c :: cs => if 2147483647 < 10 * n + (c.toNat - 48) then (0, 51) else numF (10 * n + (c.toNat - 48)) cs
def numL (xs : List UInt8) : Nat × Nat := if lead xs then (0, 51) else numF 0 xs
section
variable {P : Program} {e : Env} {w : World} {K : Value → World → Prop} {ty : TypeId}
theorem n_sub8 {x y : Operand} {t u : TypeId} {a b : Nat} (hx : ev e x = .int .u8 (a : Int)) (hy : ev e y = .int .u8 (b : Int)) (h : b ≤ a) (ha : a < 256) (kk : K (.int .u8 ((a - b : Nat) : Int)) w) : OP P e (.binOp .sub t x y u) ty w K := by
  refine o_sub hx hy ?_
  have : IntKind.u8.wrap ((a : Int) - b) = ((a - b : Nat) : Int) := by
    have h1 : (a : Int) - b = ((a - b : Nat) : Int) := by omega
    rw [h1, wrapU (by decide)]
    have h2 : 2 ^ ubits IntKind.u8 = 256 := by decide
    rw [h2, Nat.mod_eq_of_lt (by omega)]
  rw [this]; exact kk
theorem o_cvU {x : Operand} {t u : TypeId} {k : IntKind} {n : Nat} {s b s' b' : Nat} {z z' : Value} (ht : Ty P t (.int k) s b z) (hu : Ty P u (.int .i64) s' b' z') (hx : ev e x = .int k (n : Int)) (h : n < 9223372036854775808) (kk : K (.int .i64 (n : Int)) w) : OP P e (.convert t u x) ty w K :=
  o_cvI ht hu hx (by rw [wrap64' _ (by omega)]; exact kk)
end

theorem word_spec (xs : List UInt8) (w0 : World) : Ca Try.prog 47 #[st xs] w0 (fun v w' => v = .bool (wordB xs) ∧ w' = w0) := by
  refine Ca.of Try.func47 Try.ntmps47 rfl rfl ?_
  refine W.seq ?_
  refine W.region ?_
  refine WL.c rfl (o_as ?_)
  refine WL.nil ?_
  refine W.seq ?_
  refine W.seq ?_
  refine W.region ?_
  refine WL.c rfl (o_mv ?_)
  refine WL.nil ?_
  refine W.block ?_
  refine W.seq ?_
  refine W.seq ?_
  refine W.region ?_
  refine WL.c rfl (o_eqT rfl rfl ?_)
  refine WL.c rfl (o_as ?_)
  refine WL.nil ?_
  refine W.cond rfl (fun c4 => ?_) (fun c4 => ?_)
  · try simp only [decide_eq_true_eq, decide_eq_false_iff_not, Bool.not_eq_true', Bool.not_eq_false', Bool.and_eq_true, Bool.or_eq_true, Bool.and_eq_false_iff, Bool.or_eq_false_iff] at c4
    refine W.skip ?_
    refine W.cond rfl (fun c4 => ?_) (fun c4 => ?_)
    · try simp only [decide_eq_true_eq, decide_eq_false_iff_not, Bool.not_eq_true', Bool.not_eq_false', Bool.and_eq_true, Bool.or_eq_true, Bool.and_eq_false_iff, Bool.or_eq_false_iff] at c4
      refine W.seq ?_
      refine W.region ?_
      refine WL.c rfl (o_as ?_)
      refine WL.nil ?_
      refine W.ret ?_
      refine ret1v rfl (show _ = Value.bool _ from rfl) ?_
      exact ⟨congrArg Value.bool (by simp_all [wordB, words]), rfl⟩
    · try simp only [decide_eq_true_eq, decide_eq_false_iff_not, Bool.not_eq_true', Bool.not_eq_false', Bool.and_eq_true, Bool.or_eq_true, Bool.and_eq_false_iff, Bool.or_eq_false_iff] at c4
      refine W.skip ?_
      refine W.seq ?_
      refine W.region ?_
      refine WL.c rfl (o_as ?_)
      refine WL.nil ?_
      refine W.ret ?_
      refine ret1v rfl (show _ = Value.bool _ from rfl) ?_
      exact ⟨congrArg Value.bool (by simp_all [wordB, words]), rfl⟩
  · try simp only [decide_eq_true_eq, decide_eq_false_iff_not, Bool.not_eq_true', Bool.not_eq_false', Bool.and_eq_true, Bool.or_eq_true, Bool.and_eq_false_iff, Bool.or_eq_false_iff] at c4
    refine W.seq ?_
    refine W.region ?_
    refine WL.c rfl (o_eqT rfl rfl ?_)
    refine WL.c rfl (o_as ?_)
    refine WL.nil ?_
    refine W.cond rfl (fun c4 => ?_) (fun c4 => ?_)
    · try simp only [decide_eq_true_eq, decide_eq_false_iff_not, Bool.not_eq_true', Bool.not_eq_false', Bool.and_eq_true, Bool.or_eq_true, Bool.and_eq_false_iff, Bool.or_eq_false_iff] at c4
      refine W.skip ?_
      refine W.cond rfl (fun c4 => ?_) (fun c4 => ?_)
      · try simp only [decide_eq_true_eq, decide_eq_false_iff_not, Bool.not_eq_true', Bool.not_eq_false', Bool.and_eq_true, Bool.or_eq_true, Bool.and_eq_false_iff, Bool.or_eq_false_iff] at c4
        refine W.seq ?_
        refine W.region ?_
        refine WL.c rfl (o_as ?_)
        refine WL.nil ?_
        refine W.ret ?_
        refine ret1v rfl (show _ = Value.bool _ from rfl) ?_
        exact ⟨congrArg Value.bool (by simp_all [wordB, words]), rfl⟩
      · try simp only [decide_eq_true_eq, decide_eq_false_iff_not, Bool.not_eq_true', Bool.not_eq_false', Bool.and_eq_true, Bool.or_eq_true, Bool.and_eq_false_iff, Bool.or_eq_false_iff] at c4
        refine W.skip ?_
        refine W.seq ?_
        refine W.region ?_
        refine WL.c rfl (o_as ?_)
        refine WL.nil ?_
        refine W.ret ?_
        refine ret1v rfl (show _ = Value.bool _ from rfl) ?_
        exact ⟨congrArg Value.bool (by simp_all [wordB, words]), rfl⟩
    · try simp only [decide_eq_true_eq, decide_eq_false_iff_not, Bool.not_eq_true', Bool.not_eq_false', Bool.and_eq_true, Bool.or_eq_true, Bool.and_eq_false_iff, Bool.or_eq_false_iff] at c4
      refine W.seq ?_
      refine W.region ?_
      refine WL.c rfl (o_eqT rfl rfl ?_)
      refine WL.c rfl (o_as ?_)
      refine WL.nil ?_
      refine W.cond rfl (fun c4 => ?_) (fun c4 => ?_)
      · try simp only [decide_eq_true_eq, decide_eq_false_iff_not, Bool.not_eq_true', Bool.not_eq_false', Bool.and_eq_true, Bool.or_eq_true, Bool.and_eq_false_iff, Bool.or_eq_false_iff] at c4
        refine W.skip ?_
        refine W.cond rfl (fun c4 => ?_) (fun c4 => ?_)
        · try simp only [decide_eq_true_eq, decide_eq_false_iff_not, Bool.not_eq_true', Bool.not_eq_false', Bool.and_eq_true, Bool.or_eq_true, Bool.and_eq_false_iff, Bool.or_eq_false_iff] at c4
          refine W.seq ?_
          refine W.region ?_
          refine WL.c rfl (o_as ?_)
          refine WL.nil ?_
          refine W.ret ?_
          refine ret1v rfl (show _ = Value.bool _ from rfl) ?_
          exact ⟨congrArg Value.bool (by simp_all [wordB, words]), rfl⟩
        · try simp only [decide_eq_true_eq, decide_eq_false_iff_not, Bool.not_eq_true', Bool.not_eq_false', Bool.and_eq_true, Bool.or_eq_true, Bool.and_eq_false_iff, Bool.or_eq_false_iff] at c4
          refine W.skip ?_
          refine W.seq ?_
          refine W.region ?_
          refine WL.c rfl (o_as ?_)
          refine WL.nil ?_
          refine W.ret ?_
          refine ret1v rfl (show _ = Value.bool _ from rfl) ?_
          exact ⟨congrArg Value.bool (by simp_all [wordB, words]), rfl⟩
      · try simp only [decide_eq_true_eq, decide_eq_false_iff_not, Bool.not_eq_true', Bool.not_eq_false', Bool.and_eq_true, Bool.or_eq_true, Bool.and_eq_false_iff, Bool.or_eq_false_iff] at c4
        refine W.seq ?_
        refine W.region ?_
        refine WL.c rfl (o_eqT rfl rfl ?_)
        refine WL.c rfl (o_as ?_)
        refine WL.nil ?_
        refine W.cond rfl (fun c4 => ?_) (fun c4 => ?_)
        · try simp only [decide_eq_true_eq, decide_eq_false_iff_not, Bool.not_eq_true', Bool.not_eq_false', Bool.and_eq_true, Bool.or_eq_true, Bool.and_eq_false_iff, Bool.or_eq_false_iff] at c4
          refine W.skip ?_
          refine W.cond rfl (fun c4 => ?_) (fun c4 => ?_)
          · try simp only [decide_eq_true_eq, decide_eq_false_iff_not, Bool.not_eq_true', Bool.not_eq_false', Bool.and_eq_true, Bool.or_eq_true, Bool.and_eq_false_iff, Bool.or_eq_false_iff] at c4
            refine W.seq ?_
            refine W.region ?_
            refine WL.c rfl (o_as ?_)
            refine WL.nil ?_
            refine W.ret ?_
            refine ret1v rfl (show _ = Value.bool _ from rfl) ?_
            exact ⟨congrArg Value.bool (by simp_all [wordB, words]), rfl⟩
          · try simp only [decide_eq_true_eq, decide_eq_false_iff_not, Bool.not_eq_true', Bool.not_eq_false', Bool.and_eq_true, Bool.or_eq_true, Bool.and_eq_false_iff, Bool.or_eq_false_iff] at c4
            refine W.skip ?_
            refine W.seq ?_
            refine W.region ?_
            refine WL.c rfl (o_as ?_)
            refine WL.nil ?_
            refine W.ret ?_
            refine ret1v rfl (show _ = Value.bool _ from rfl) ?_
            exact ⟨congrArg Value.bool (by simp_all [wordB, words]), rfl⟩
        · try simp only [decide_eq_true_eq, decide_eq_false_iff_not, Bool.not_eq_true', Bool.not_eq_false', Bool.and_eq_true, Bool.or_eq_true, Bool.and_eq_false_iff, Bool.or_eq_false_iff] at c4
          refine W.seq ?_
          refine W.region ?_
          refine WL.c rfl (o_eqT rfl rfl ?_)
          refine WL.c rfl (o_as ?_)
          refine WL.nil ?_
          refine W.cond rfl (fun c4 => ?_) (fun c4 => ?_)
          · try simp only [decide_eq_true_eq, decide_eq_false_iff_not, Bool.not_eq_true', Bool.not_eq_false', Bool.and_eq_true, Bool.or_eq_true, Bool.and_eq_false_iff, Bool.or_eq_false_iff] at c4
            refine W.skip ?_
            refine W.cond rfl (fun c4 => ?_) (fun c4 => ?_)
            · try simp only [decide_eq_true_eq, decide_eq_false_iff_not, Bool.not_eq_true', Bool.not_eq_false', Bool.and_eq_true, Bool.or_eq_true, Bool.and_eq_false_iff, Bool.or_eq_false_iff] at c4
              refine W.seq ?_
              refine W.region ?_
              refine WL.c rfl (o_as ?_)
              refine WL.nil ?_
              refine W.ret ?_
              refine ret1v rfl (show _ = Value.bool _ from rfl) ?_
              exact ⟨congrArg Value.bool (by simp_all [wordB, words]), rfl⟩
            · try simp only [decide_eq_true_eq, decide_eq_false_iff_not, Bool.not_eq_true', Bool.not_eq_false', Bool.and_eq_true, Bool.or_eq_true, Bool.and_eq_false_iff, Bool.or_eq_false_iff] at c4
              refine W.skip ?_
              refine W.seq ?_
              refine W.region ?_
              refine WL.c rfl (o_as ?_)
              refine WL.nil ?_
              refine W.ret ?_
              refine ret1v rfl (show _ = Value.bool _ from rfl) ?_
              exact ⟨congrArg Value.bool (by simp_all [wordB, words]), rfl⟩
          · try simp only [decide_eq_true_eq, decide_eq_false_iff_not, Bool.not_eq_true', Bool.not_eq_false', Bool.and_eq_true, Bool.or_eq_true, Bool.and_eq_false_iff, Bool.or_eq_false_iff] at c4
            refine W.seq ?_
            refine W.region ?_
            refine WL.c rfl (o_eqT rfl rfl ?_)
            refine WL.c rfl (o_as ?_)
            refine WL.nil ?_
            refine W.cond rfl (fun c4 => ?_) (fun c4 => ?_)
            · try simp only [decide_eq_true_eq, decide_eq_false_iff_not, Bool.not_eq_true', Bool.not_eq_false', Bool.and_eq_true, Bool.or_eq_true, Bool.and_eq_false_iff, Bool.or_eq_false_iff] at c4
              refine W.skip ?_
              refine W.cond rfl (fun c4 => ?_) (fun c4 => ?_)
              · try simp only [decide_eq_true_eq, decide_eq_false_iff_not, Bool.not_eq_true', Bool.not_eq_false', Bool.and_eq_true, Bool.or_eq_true, Bool.and_eq_false_iff, Bool.or_eq_false_iff] at c4
                refine W.seq ?_
                refine W.region ?_
                refine WL.c rfl (o_as ?_)
                refine WL.nil ?_
                refine W.ret ?_
                refine ret1v rfl (show _ = Value.bool _ from rfl) ?_
                exact ⟨congrArg Value.bool (by simp_all [wordB, words]), rfl⟩
              · try simp only [decide_eq_true_eq, decide_eq_false_iff_not, Bool.not_eq_true', Bool.not_eq_false', Bool.and_eq_true, Bool.or_eq_true, Bool.and_eq_false_iff, Bool.or_eq_false_iff] at c4
                refine W.skip ?_
                refine W.seq ?_
                refine W.region ?_
                refine WL.c rfl (o_as ?_)
                refine WL.nil ?_
                refine W.ret ?_
                refine ret1v rfl (show _ = Value.bool _ from rfl) ?_
                exact ⟨congrArg Value.bool (by simp_all [wordB, words]), rfl⟩
            · try simp only [decide_eq_true_eq, decide_eq_false_iff_not, Bool.not_eq_true', Bool.not_eq_false', Bool.and_eq_true, Bool.or_eq_true, Bool.and_eq_false_iff, Bool.or_eq_false_iff] at c4
              refine W.seq ?_
              refine W.region ?_
              refine WL.c rfl (o_eqT rfl rfl ?_)
              refine WL.c rfl (o_as ?_)
              refine WL.nil ?_
              refine W.cond rfl (fun c4 => ?_) (fun c4 => ?_)
              · try simp only [decide_eq_true_eq, decide_eq_false_iff_not, Bool.not_eq_true', Bool.not_eq_false', Bool.and_eq_true, Bool.or_eq_true, Bool.and_eq_false_iff, Bool.or_eq_false_iff] at c4
                refine W.skip ?_
                refine W.cond rfl (fun c4 => ?_) (fun c4 => ?_)
                · try simp only [decide_eq_true_eq, decide_eq_false_iff_not, Bool.not_eq_true', Bool.not_eq_false', Bool.and_eq_true, Bool.or_eq_true, Bool.and_eq_false_iff, Bool.or_eq_false_iff] at c4
                  refine W.seq ?_
                  refine W.region ?_
                  refine WL.c rfl (o_as ?_)
                  refine WL.nil ?_
                  refine W.ret ?_
                  refine ret1v rfl (show _ = Value.bool _ from rfl) ?_
                  exact ⟨congrArg Value.bool (by simp_all [wordB, words]), rfl⟩
                · try simp only [decide_eq_true_eq, decide_eq_false_iff_not, Bool.not_eq_true', Bool.not_eq_false', Bool.and_eq_true, Bool.or_eq_true, Bool.and_eq_false_iff, Bool.or_eq_false_iff] at c4
                  refine W.skip ?_
                  refine W.seq ?_
                  refine W.region ?_
                  refine WL.c rfl (o_as ?_)
                  refine WL.nil ?_
                  refine W.ret ?_
                  refine ret1v rfl (show _ = Value.bool _ from rfl) ?_
                  exact ⟨congrArg Value.bool (by simp_all [wordB, words]), rfl⟩
              · try simp only [decide_eq_true_eq, decide_eq_false_iff_not, Bool.not_eq_true', Bool.not_eq_false', Bool.and_eq_true, Bool.or_eq_true, Bool.and_eq_false_iff, Bool.or_eq_false_iff] at c4
                refine W.seq ?_
                refine W.region ?_
                refine WL.c rfl (o_eqT rfl rfl ?_)
                refine WL.c rfl (o_as ?_)
                refine WL.nil ?_
                refine W.cond rfl (fun c4 => ?_) (fun c4 => ?_)
                · try simp only [decide_eq_true_eq, decide_eq_false_iff_not, Bool.not_eq_true', Bool.not_eq_false', Bool.and_eq_true, Bool.or_eq_true, Bool.and_eq_false_iff, Bool.or_eq_false_iff] at c4
                  refine W.skip ?_
                  refine W.cond rfl (fun c4 => ?_) (fun c4 => ?_)
                  · try simp only [decide_eq_true_eq, decide_eq_false_iff_not, Bool.not_eq_true', Bool.not_eq_false', Bool.and_eq_true, Bool.or_eq_true, Bool.and_eq_false_iff, Bool.or_eq_false_iff] at c4
                    refine W.seq ?_
                    refine W.region ?_
                    refine WL.c rfl (o_as ?_)
                    refine WL.nil ?_
                    refine W.ret ?_
                    refine ret1v rfl (show _ = Value.bool _ from rfl) ?_
                    exact ⟨congrArg Value.bool (by simp_all [wordB, words]), rfl⟩
                  · try simp only [decide_eq_true_eq, decide_eq_false_iff_not, Bool.not_eq_true', Bool.not_eq_false', Bool.and_eq_true, Bool.or_eq_true, Bool.and_eq_false_iff, Bool.or_eq_false_iff] at c4
                    refine W.skip ?_
                    refine W.seq ?_
                    refine W.region ?_
                    refine WL.c rfl (o_as ?_)
                    refine WL.nil ?_
                    refine W.ret ?_
                    refine ret1v rfl (show _ = Value.bool _ from rfl) ?_
                    exact ⟨congrArg Value.bool (by simp_all [wordB, words]), rfl⟩
                · try simp only [decide_eq_true_eq, decide_eq_false_iff_not, Bool.not_eq_true', Bool.not_eq_false', Bool.and_eq_true, Bool.or_eq_true, Bool.and_eq_false_iff, Bool.or_eq_false_iff] at c4
                  refine W.seq ?_
                  refine W.region ?_
                  refine WL.c rfl (o_eqT rfl rfl ?_)
                  refine WL.c rfl (o_as ?_)
                  refine WL.nil ?_
                  refine W.cond rfl (fun c4 => ?_) (fun c4 => ?_)
                  · try simp only [decide_eq_true_eq, decide_eq_false_iff_not, Bool.not_eq_true', Bool.not_eq_false', Bool.and_eq_true, Bool.or_eq_true, Bool.and_eq_false_iff, Bool.or_eq_false_iff] at c4
                    refine W.skip ?_
                    refine W.cond rfl (fun c4 => ?_) (fun c4 => ?_)
                    · try simp only [decide_eq_true_eq, decide_eq_false_iff_not, Bool.not_eq_true', Bool.not_eq_false', Bool.and_eq_true, Bool.or_eq_true, Bool.and_eq_false_iff, Bool.or_eq_false_iff] at c4
                      refine W.seq ?_
                      refine W.region ?_
                      refine WL.c rfl (o_as ?_)
                      refine WL.nil ?_
                      refine W.ret ?_
                      refine ret1v rfl (show _ = Value.bool _ from rfl) ?_
                      exact ⟨congrArg Value.bool (by simp_all [wordB, words]), rfl⟩
                    · try simp only [decide_eq_true_eq, decide_eq_false_iff_not, Bool.not_eq_true', Bool.not_eq_false', Bool.and_eq_true, Bool.or_eq_true, Bool.and_eq_false_iff, Bool.or_eq_false_iff] at c4
                      refine W.skip ?_
                      refine W.seq ?_
                      refine W.region ?_
                      refine WL.c rfl (o_as ?_)
                      refine WL.nil ?_
                      refine W.ret ?_
                      refine ret1v rfl (show _ = Value.bool _ from rfl) ?_
                      exact ⟨congrArg Value.bool (by simp_all [wordB, words]), rfl⟩
                  · try simp only [decide_eq_true_eq, decide_eq_false_iff_not, Bool.not_eq_true', Bool.not_eq_false', Bool.and_eq_true, Bool.or_eq_true, Bool.and_eq_false_iff, Bool.or_eq_false_iff] at c4
                    refine W.seq ?_
                    refine W.region ?_
                    refine WL.c rfl (o_eqT rfl rfl ?_)
                    refine WL.c rfl (o_as ?_)
                    refine WL.nil ?_
                    refine W.cond rfl (fun c4 => ?_) (fun c4 => ?_)
                    · try simp only [decide_eq_true_eq, decide_eq_false_iff_not, Bool.not_eq_true', Bool.not_eq_false', Bool.and_eq_true, Bool.or_eq_true, Bool.and_eq_false_iff, Bool.or_eq_false_iff] at c4
                      refine W.skip ?_
                      refine W.cond rfl (fun c4 => ?_) (fun c4 => ?_)
                      · try simp only [decide_eq_true_eq, decide_eq_false_iff_not, Bool.not_eq_true', Bool.not_eq_false', Bool.and_eq_true, Bool.or_eq_true, Bool.and_eq_false_iff, Bool.or_eq_false_iff] at c4
                        refine W.seq ?_
                        refine W.region ?_
                        refine WL.c rfl (o_as ?_)
                        refine WL.nil ?_
                        refine W.ret ?_
                        refine ret1v rfl (show _ = Value.bool _ from rfl) ?_
                        exact ⟨congrArg Value.bool (by simp_all [wordB, words]), rfl⟩
                      · try simp only [decide_eq_true_eq, decide_eq_false_iff_not, Bool.not_eq_true', Bool.not_eq_false', Bool.and_eq_true, Bool.or_eq_true, Bool.and_eq_false_iff, Bool.or_eq_false_iff] at c4
                        refine W.skip ?_
                        refine W.seq ?_
                        refine W.region ?_
                        refine WL.c rfl (o_as ?_)
                        refine WL.nil ?_
                        refine W.ret ?_
                        refine ret1v rfl (show _ = Value.bool _ from rfl) ?_
                        exact ⟨congrArg Value.bool (by simp_all [wordB, words]), rfl⟩
                    · try simp only [decide_eq_true_eq, decide_eq_false_iff_not, Bool.not_eq_true', Bool.not_eq_false', Bool.and_eq_true, Bool.or_eq_true, Bool.and_eq_false_iff, Bool.or_eq_false_iff] at c4
                      refine W.seq ?_
                      refine W.region ?_
                      refine WL.c rfl (o_eqT rfl rfl ?_)
                      refine WL.c rfl (o_as ?_)
                      refine WL.nil ?_
                      refine W.cond rfl (fun c4 => ?_) (fun c4 => ?_)
                      · try simp only [decide_eq_true_eq, decide_eq_false_iff_not, Bool.not_eq_true', Bool.not_eq_false', Bool.and_eq_true, Bool.or_eq_true, Bool.and_eq_false_iff, Bool.or_eq_false_iff] at c4
                        refine W.skip ?_
                        refine W.cond rfl (fun c4 => ?_) (fun c4 => ?_)
                        · try simp only [decide_eq_true_eq, decide_eq_false_iff_not, Bool.not_eq_true', Bool.not_eq_false', Bool.and_eq_true, Bool.or_eq_true, Bool.and_eq_false_iff, Bool.or_eq_false_iff] at c4
                          refine W.seq ?_
                          refine W.region ?_
                          refine WL.c rfl (o_as ?_)
                          refine WL.nil ?_
                          refine W.ret ?_
                          refine ret1v rfl (show _ = Value.bool _ from rfl) ?_
                          exact ⟨congrArg Value.bool (by simp_all [wordB, words]), rfl⟩
                        · try simp only [decide_eq_true_eq, decide_eq_false_iff_not, Bool.not_eq_true', Bool.not_eq_false', Bool.and_eq_true, Bool.or_eq_true, Bool.and_eq_false_iff, Bool.or_eq_false_iff] at c4
                          refine W.skip ?_
                          refine W.seq ?_
                          refine W.region ?_
                          refine WL.c rfl (o_as ?_)
                          refine WL.nil ?_
                          refine W.ret ?_
                          refine ret1v rfl (show _ = Value.bool _ from rfl) ?_
                          exact ⟨congrArg Value.bool (by simp_all [wordB, words]), rfl⟩
                      · try simp only [decide_eq_true_eq, decide_eq_false_iff_not, Bool.not_eq_true', Bool.not_eq_false', Bool.and_eq_true, Bool.or_eq_true, Bool.and_eq_false_iff, Bool.or_eq_false_iff] at c4
                        refine W.region ?_
                        refine WL.c rfl (o_eqT rfl rfl ?_)
                        refine WL.c rfl (o_as ?_)
                        refine WL.nil ?_
                        refine W.cond rfl (fun c4 => ?_) (fun c4 => ?_)
                        · try simp only [decide_eq_true_eq, decide_eq_false_iff_not, Bool.not_eq_true', Bool.not_eq_false', Bool.and_eq_true, Bool.or_eq_true, Bool.and_eq_false_iff, Bool.or_eq_false_iff] at c4
                          refine W.seq ?_
                          refine W.region ?_
                          refine WL.c rfl (o_as ?_)
                          refine WL.nil ?_
                          refine W.ret ?_
                          refine ret1v rfl (show _ = Value.bool _ from rfl) ?_
                          exact ⟨congrArg Value.bool (by simp_all [wordB, words]), rfl⟩
                        · try simp only [decide_eq_true_eq, decide_eq_false_iff_not, Bool.not_eq_true', Bool.not_eq_false', Bool.and_eq_true, Bool.or_eq_true, Bool.and_eq_false_iff, Bool.or_eq_false_iff] at c4
                          refine W.skip ?_
                          refine W.seq ?_
                          refine W.region ?_
                          refine WL.c rfl (o_as ?_)
                          refine WL.nil ?_
                          refine W.ret ?_
                          refine ret1v rfl (show _ = Value.bool _ from rfl) ?_
                          exact ⟨congrArg Value.bool (by simp_all [wordB, words]), rfl⟩
theorem name_spec (xs : List UInt8) (w0 : World) (hlen : xs.length ≤ 9223372036854775807) : Ca Try.prog 25 #[st xs] w0 (fun v w' => v = .bool (nameB xs) ∧ w' = w0) := by
  have hra : ((runL goeB xs 0 : Nat) : Int) = (xs.length : Int) ↔ xs.all goeB = true := Iff.trans (by omega) (runL_all goeB xs)
  refine Ca.of Try.func25 Try.ntmps25 rfl rfl ?_
  refine W.seq ?_
  refine W.region ?_
  refine WL.c rfl (o_as ?_)
  refine WL.nil ?_
  refine W.seq ?_
  refine W.region ?_
  refine WL.c rfl (o_mv ?_)
  refine WL.c rfl (o_neT rfl rfl ?_)
  refine WL.c rfl (o_mv ?_)
  refine WL.sp 2 rfl (fun g5 => ?_) (fun g5 => ?_)
  · skip
    refine WL.g rfl (g5) rfl (o_mv ?_)
    refine WL.g rfl (g5) rfl (o_lenT TI9 rfl ?_)
    refine WL.g rfl (g5) rfl (o_le rfl rfl ?_)
    refine WL.c rfl (o_pickA rfl rfl ?_)
    refine WL.c rfl (o_mv ?_)
    refine WL.sp 7 rfl (fun g10 => ?_) (fun g10 => ?_)
    · skip
      refine WL.g rfl (g10) rfl (o_mv ?_)
      try (have hne : xs ≠ [] := by simpa using g5)
      try (have h0 := List.length_pos_iff.2 hne)
      try (have hh := head_any letB h0)
      refine WL.g rfl (g10) rfl (o_idT (i := 0) TI9 rfl rfl (by omega) ?_)
      refine WL.g rfl (g10) rfl (o_call Try.call45 (lc rfl ln) ((letter_spec xs[0] _).mono ?_))
      rintro v13 w13 ⟨rfl, rfl⟩
      refine WL.c rfl (o_pickA rfl rfl ?_)
      refine WL.c rfl (o_mv ?_)
      refine WL.sp 12 rfl (fun g15 => ?_) (fun g15 => ?_)
      · skip
        refine WL.g rfl (g15) rfl (o_mv ?_)
        refine WL.g rfl (g15) rfl (o_call Try.call38 (lc rfl (lc rfl (lc rfl ln))) ((run_spec goeB 46 xs 0 _ (Nat.zero_le _) hlen further_spec Try.call46).mono ?_))
        rintro v17 w17 ⟨rfl, rfl⟩
        refine WL.g rfl (g15) rfl (o_mv ?_)
        refine WL.g rfl (g15) rfl (o_lenT TI9 rfl ?_)
        refine WL.g rfl (g15) rfl (o_eq rfl rfl ?_)
        refine WL.c rfl (o_pickA rfl rfl ?_)
        refine WL.c rfl (o_mv ?_)
        refine WL.sp 19 rfl (fun g22 => ?_) (fun g22 => ?_)
        · skip
          refine WL.g rfl (g22) rfl (o_mv ?_)
          refine WL.g rfl (g22) rfl (o_call Try.call47 (lc rfl ln) ((word_spec xs _).mono ?_))
          rintro v24 w24 ⟨rfl, rfl⟩
          refine WL.g rfl (g22) rfl (o_not' rfl ?_)
          refine WL.c rfl (o_pickA rfl rfl ?_)
          refine WL.c rfl (o_as ?_)
          refine WL.nil ?_
          refine W.ret ?_
          refine ret1v rfl (show _ = Value.bool _ from rfl) ?_
          exact ⟨congrArg Value.bool (by rw [Bool.eq_iff_iff]; simp_all [nameB] <;> first | omega | grind), rfl⟩
        · skip
          refine WL.s rfl (g22) rfl ?_
          refine WL.s rfl (g22) rfl ?_
          refine WL.s rfl (g22) rfl ?_
          refine WL.c rfl (o_pickF rfl (g22) ?_)
          refine WL.c rfl (o_as ?_)
          refine WL.nil ?_
          refine W.ret ?_
          refine ret1v rfl (show _ = Value.bool _ from rfl) ?_
          exact ⟨congrArg Value.bool (by rw [Bool.eq_iff_iff]; simp_all [nameB] <;> first | omega | grind), rfl⟩
      · skip
        refine WL.s rfl (g15) rfl ?_
        refine WL.s rfl (g15) rfl ?_
        refine WL.s rfl (g15) rfl ?_
        refine WL.s rfl (g15) rfl ?_
        refine WL.s rfl (g15) rfl ?_
        refine WL.c rfl (o_pickF rfl (g15) ?_)
        refine WL.c rfl (o_mv ?_)
        refine WL.s rfl (rfl) rfl ?_
        refine WL.s rfl (rfl) rfl ?_
        refine WL.s rfl (rfl) rfl ?_
        refine WL.c rfl (o_pickF rfl (rfl) ?_)
        refine WL.c rfl (o_as ?_)
        refine WL.nil ?_
        refine W.ret ?_
        refine ret1v rfl (show _ = Value.bool _ from rfl) ?_
        exact ⟨congrArg Value.bool (by rw [Bool.eq_iff_iff]; simp_all [nameB] <;> first | omega | grind), rfl⟩
    · skip
      refine WL.s rfl (g10) rfl ?_
      try (have hne : xs ≠ [] := by simpa using g5)
      try (have h0 := List.length_pos_iff.2 hne)
      try (have hh := head_any letB h0)
      refine WL.s rfl (g10) rfl ?_
      refine WL.s rfl (g10) rfl ?_
      refine WL.c rfl (o_pickF rfl (g10) ?_)
      refine WL.c rfl (o_mv ?_)
      refine WL.s rfl (rfl) rfl ?_
      refine WL.s rfl (rfl) rfl ?_
      refine WL.s rfl (rfl) rfl ?_
      refine WL.s rfl (rfl) rfl ?_
      refine WL.s rfl (rfl) rfl ?_
      refine WL.c rfl (o_pickF rfl (rfl) ?_)
      refine WL.c rfl (o_mv ?_)
      refine WL.s rfl (rfl) rfl ?_
      refine WL.s rfl (rfl) rfl ?_
      refine WL.s rfl (rfl) rfl ?_
      refine WL.c rfl (o_pickF rfl (rfl) ?_)
      refine WL.c rfl (o_as ?_)
      refine WL.nil ?_
      refine W.ret ?_
      refine ret1v rfl (show _ = Value.bool _ from rfl) ?_
      exact ⟨congrArg Value.bool (by rw [Bool.eq_iff_iff]; simp_all [nameB] <;> first | omega | grind), rfl⟩
  · skip
    refine WL.s rfl (g5) rfl ?_
    refine WL.s rfl (g5) rfl ?_
    refine WL.s rfl (g5) rfl ?_
    refine WL.c rfl (o_pickF rfl (g5) ?_)
    refine WL.c rfl (o_mv ?_)
    refine WL.s rfl (rfl) rfl ?_
    try (have hne : xs ≠ [] := by simpa using g5)
    try (have h0 := List.length_pos_iff.2 hne)
    try (have hh := head_any letB h0)
    refine WL.s rfl (rfl) rfl ?_
    refine WL.s rfl (rfl) rfl ?_
    refine WL.c rfl (o_pickF rfl (rfl) ?_)
    refine WL.c rfl (o_mv ?_)
    refine WL.s rfl (rfl) rfl ?_
    refine WL.s rfl (rfl) rfl ?_
    refine WL.s rfl (rfl) rfl ?_
    refine WL.s rfl (rfl) rfl ?_
    refine WL.s rfl (rfl) rfl ?_
    refine WL.c rfl (o_pickF rfl (rfl) ?_)
    refine WL.c rfl (o_mv ?_)
    refine WL.s rfl (rfl) rfl ?_
    refine WL.s rfl (rfl) rfl ?_
    refine WL.s rfl (rfl) rfl ?_
    refine WL.c rfl (o_pickF rfl (rfl) ?_)
    refine WL.c rfl (o_as ?_)
    refine WL.nil ?_
    refine W.ret ?_
    refine ret1v rfl (show _ = Value.bool _ from rfl) ?_
    exact ⟨congrArg Value.bool (by rw [Bool.eq_iff_iff]; simp_all [nameB] <;> first | omega | grind), rfl⟩
theorem number_spec (xs : List UInt8) (w0 : World) (hlen : xs.length ≤ 9223372036854775807) (hd : ∀ c ∈ xs, digB c = true) : Ca Try.prog 63 #[st xs] w0 (fun v w' => v = .tuple #[.int .i64 ((numL xs).1 : Int), .int .i64 ((numL xs).2 : Int)] ∧ w' = w0) := by
  refine Ca.of Try.func63 Try.ntmps63 rfl rfl ?_
  refine W.seq ?_
  refine W.region ?_
  refine WL.c rfl (o_as ?_)
  refine WL.c rfl (o_as ?_)
  refine WL.nil ?_
  refine W.seq ?_
  refine W.seq ?_
  refine W.region ?_
  refine WL.cut (fun e1 w1 => e1 13 = .bool (lead xs) ∧ e1 0 = st xs ∧ w1 = w0) ?_ ?_
  · -- region 1
    refine WL.c rfl (o_mv ?_)
    refine WL.c rfl (o_lenT TI9 rfl ?_)
    refine WL.c rfl (o_gt rfl rfl ?_)
    refine WL.c rfl (o_mv ?_)
    refine WL.sp 3 rfl (fun g9 => ?_) (fun g9 => ?_)
    · skip
      refine WL.g rfl (g9) rfl (o_mv ?_)
      refine WL.g rfl (g9) rfl (o_idT (i := 0) TI9 rfl rfl (by simp at g9; omega) ?_)
      refine WL.g rfl (g9) rfl (o_eq rfl rfl ?_)
      refine WL.c rfl (o_pickA rfl rfl ?_)
      exact WL.nil (⟨congrArg Value.bool (by rw [Bool.eq_iff_iff]; simp_all [lead] <;> first | omega | grind), rfl, rfl⟩)
    · skip
      refine WL.s rfl (g9) rfl ?_
      refine WL.s rfl (g9) rfl ?_
      refine WL.s rfl (g9) rfl ?_
      refine WL.c rfl (o_pickF rfl (g9) ?_)
      exact WL.nil (⟨congrArg Value.bool (by rw [Bool.eq_iff_iff]; simp_all [lead] <;> first | omega | grind), rfl, rfl⟩)
  rintro e w ⟨h13, h0, hw⟩
  refine W.cond h13 (fun c13 => ?_) (fun c13 => ?_)
  · try simp only [decide_eq_true_eq, decide_eq_false_iff_not, Bool.not_eq_true', Bool.not_eq_false', Bool.and_eq_true, Bool.or_eq_true, Bool.and_eq_false_iff, Bool.or_eq_false_iff] at c13
    refine W.seq ?_
    refine W.region ?_
    refine WL.c rfl (o_as ?_)
    refine WL.c rfl (o_as ?_)
    refine WL.nil ?_
    refine W.ret ?_
    refine ret2v rfl (show _ = Value.int _ _ from rfl) (show _ = Value.int _ _ from rfl) ?_
    exact ⟨by simp [numL, c13], hw⟩
  · try simp only [decide_eq_true_eq, decide_eq_false_iff_not, Bool.not_eq_true', Bool.not_eq_false', Bool.and_eq_true, Bool.or_eq_true, Bool.and_eq_false_iff, Bool.or_eq_false_iff] at c13
    refine W.skip ?_
    refine W.seq ?_
    refine W.region ?_
    refine WL.c rfl (o_as ?_)
    refine WL.nil ?_
    refine W.seq ?_
    refine W.seq ?_
    refine W.region ?_
    refine WL.c rfl (o_mvh h0 ?_)
    refine WL.c rfl (o_lenT TI9 rfl ?_)
    refine WL.c rfl (o_mv ?_)
    refine WL.nil ?_
    refine W.block ?_
    refine W.loop (fun e w => ∃ k n : Nat, k ≤ xs.length ∧ e 0 = st xs ∧ e 4 = .int .i64 (n : Int) ∧ e 15 = .int .i64 (xs.length : Int) ∧ e 16 = .int .i64 (k : Int) ∧ n ≤ 2147483647 ∧ numF 0 xs = numF n (xs.drop k) ∧ w = w0) (fun e w => xs.length - (intOf (e 16)).toNat) ?_ ?_
    · exact ⟨0, 0, Nat.zero_le _, h0, rfl, rfl, rfl, by decide, rfl, hw⟩
    rintro e w ⟨k, n, hk, h0, h4, h15, h16, hn, hg, rfl⟩
    refine W.seq ?_
    refine W.region ?_
    refine WL.c rfl (o_lt h16 h15 ?_)
    refine WL.nil ?_
    refine W.seq ?_
    refine W.cond rfl (fun c17 => ?_) (fun c17 => ?_)
    · try simp only [decide_eq_true_eq, decide_eq_false_iff_not, Bool.not_eq_true', Bool.not_eq_false', Bool.and_eq_true, Bool.or_eq_true, Bool.and_eq_false_iff, Bool.or_eq_false_iff] at c17
      refine W.skip ?_
      refine W.seq ?_
      refine W.block ?_
      refine W.seq ?_
      have hk1 : k < xs.length := by omega
      have hcons : xs.drop k = xs[k] :: xs.drop (k + 1) := by rw [List.getElem_cons_drop]
      have hdk := hd xs[k] (List.getElem_mem hk1)
      have hc8 : (xs[k]).toNat < 256 := UInt8.toNat_lt _
      simp [digB] at hdk
      refine W.region ?_
      refine WL.c rfl (o_mvh h16 ?_)
      refine WL.c rfl (o_as ?_)
      refine WL.nil ?_
      refine W.seq ?_
      refine W.region ?_
      refine WL.c rfl (o_mvh h4 ?_)
      refine WL.c rfl (o_muli rfl rfl (by omega) ?_)
      refine WL.c rfl (o_mvh h0 ?_)
      refine WL.c rfl (o_mv ?_)
      refine WL.c rfl (o_idT TI9 rfl rfl (by omega) ?_)
      refine WL.c rfl (n_sub8 (b := 48) rfl rfl (by omega) (by omega) ?_)
      refine WL.c rfl (o_cvU TI5 TI3 rfl (by omega) ?_)
      refine WL.c rfl (o_addi rfl rfl (by omega) ?_)
      refine WL.c rfl (o_as ?_)
      refine WL.nil ?_
      refine W.seq ?_
      refine W.region ?_
      refine WL.c rfl (o_mv ?_)
      refine WL.c rfl (o_gt rfl rfl ?_)
      refine WL.nil ?_
      refine W.cond rfl (fun c28 => ?_) (fun c28 => ?_)
      · try simp only [decide_eq_true_eq, decide_eq_false_iff_not, Bool.not_eq_true', Bool.not_eq_false', Bool.and_eq_true, Bool.or_eq_true, Bool.and_eq_false_iff, Bool.or_eq_false_iff] at c28
        refine W.seq ?_
        refine W.region ?_
        refine WL.c rfl (o_as ?_)
        refine WL.c rfl (o_as ?_)
        refine WL.nil ?_
        refine W.ret ?_
        refine ret2v rfl (show _ = Value.int _ _ from rfl) (show _ = Value.int _ _ from rfl) ?_
        exact ⟨by simp [numL, c13]; rw [hg, hcons, numF, if_pos (by omega)]; exact ⟨rfl, rfl⟩, rfl⟩
      · try simp only [decide_eq_true_eq, decide_eq_false_iff_not, Bool.not_eq_true', Bool.not_eq_false', Bool.and_eq_true, Bool.or_eq_true, Bool.and_eq_false_iff, Bool.or_eq_false_iff] at c28
        refine W.skip ?_
        refine W.region ?_
        refine WL.c rfl (o_addi h16 rfl (by omega) ?_)
        refine WL.c rfl (o_mv ?_)
        refine WL.nil ?_
        refine ⟨⟨k + 1, 10 * n + ((xs[k]).toNat - 48), by omega, h0, (by show Value.int .i64 (10 * (n : Int) + (((xs[k]).toNat - 48 : Nat) : Int)) = _; congr 1), h15, rfl, by omega, by rw [hg, hcons, numF, if_neg (by omega)], rfl⟩, ?_⟩
        show xs.length - ((k : Int) + 1).toNat < _
        rw [h16]; simp [intOf]; omega
    · try simp only [decide_eq_true_eq, decide_eq_false_iff_not, Bool.not_eq_true', Bool.not_eq_false', Bool.and_eq_true, Bool.or_eq_true, Bool.and_eq_false_iff, Bool.or_eq_false_iff] at c17
      refine W.exit ?_
      refine W.seq ?_
      refine W.region ?_
      refine WL.c rfl (o_mvh h4 ?_)
      refine WL.c rfl (o_as ?_)
      refine WL.c rfl (o_as ?_)
      refine WL.nil ?_
      refine W.ret ?_
      refine ret2v rfl (show _ = Value.int _ _ from rfl) (show _ = Value.int _ _ from rfl) ?_
      have : k = xs.length := by omega
      rw [this, List.drop_length] at hg
      exact ⟨by simp [numL, c13, hg, numF], rfl⟩
theorem idx3_spec (xs : List UInt8) (c : UInt8) (w0 : World) : Ca Try.prog 74 #[st xs, bv c] w0 (fun v w' => v = .int .i64 (Lib.indexByte xs c) ∧ w' = w0) := by
  refine Ca.of Try.func74 Try.ntmps74 rfl rfl ?_
  refine W.seq ?_
  refine W.region ?_
  refine WL.c rfl (o_as ?_)
  refine WL.nil ?_
  refine W.seq ?_
  refine W.region ?_
  refine WL.c rfl (o_mv ?_)
  refine WL.c rfl (o_mv ?_)
  refine WL.c rfl (o_callX Try.func78 (by kernel_rfl) rfl (by kernel_rfl) (show _ = some Extern.BytealgIndexByte.indexByte by kernel_rfl) (lc rfl (lc rfl ln)) (Lib.run_indexByteString ⟨xs.toArray⟩ (c.toNat : Int) _) ?_)
  refine WL.c rfl (o_as ?_)
  refine WL.nil ?_
  refine W.ret ?_
  refine ret1v rfl (show _ = Value.int _ _ from rfl) ?_
  exact ⟨by simp, rfl⟩
theorem idx_spec (xs : List UInt8) (c : UInt8) (w0 : World) : Ca Try.prog 64 #[st xs, bv c] w0 (fun v w' => v = .int .i64 (Lib.indexByte xs c) ∧ w' = w0) := by
  refine Ca.of Try.func64 Try.ntmps64 rfl rfl ?_
  refine W.seq ?_
  refine W.region ?_
  refine WL.c rfl (o_as ?_)
  refine WL.nil ?_
  refine W.seq ?_
  refine W.region ?_
  refine WL.c rfl (o_mv ?_)
  refine WL.c rfl (o_mv ?_)
  refine WL.c rfl (o_call Try.call74 (lc rfl (lc rfl ln)) ((idx3_spec xs c _).mono ?_))
  rintro v7 w7 ⟨rfl, rfl⟩
  refine WL.c rfl (o_as ?_)
  refine WL.nil ?_
  refine W.ret ?_
  refine ret1v rfl (show _ = Value.int _ _ from rfl) ?_
  exact ⟨rfl, rfl⟩
end Go.Proofs.Ytcljkkfpcomdcaa
