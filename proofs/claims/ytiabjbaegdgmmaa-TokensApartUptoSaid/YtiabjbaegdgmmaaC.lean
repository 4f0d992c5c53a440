/-
  Walks. Written by program out of specs of mine.
-/
import Derived.Test.YtiabjbaegdgmmaaStr
import Derived.Test.YtiabjbaegdgmmaaFacts
set_option linter.unusedSimpArgs false
set_option linter.unusedVariables false
namespace Go.Proofs.Ytiabjbaegdgmmaa
open Go Go.Vc Go.RowKit Go.Proofs

def letB (c : UInt8) : Bool := decide (97 ≤ c.toNat) && decide (c.toNat ≤ 122)
def digB (c : UInt8) : Bool := decide (48 ≤ c.toNat) && decide (c.toNat ≤ 57)
def goeB (c : UInt8) : Bool := letB c || digB c || decide (c.toNat = 95)
def nnlB (c : UInt8) : Bool := !decide (c.toNat = 10)
def marks : List UInt8 := [61, 59, 60, 62, 44, 58, 123, 125]
def markB (c : UInt8) : Bool := marks.contains c
def runL (p : UInt8 → Bool) (xs : List UInt8) (k : Nat) : Nat := k + ((xs.drop k).takeWhile p).length
theorem runL_go {p : UInt8 → Bool} {xs : List UInt8} {k : Nat} (hk : k < xs.length) (hp : p xs[k] = true) : runL p xs k = runL p xs (k + 1) := by
  unfold runL
  rw [← List.getElem_cons_drop hk, List.takeWhile_cons_of_pos hp, List.length_cons]; omega
theorem runL_stop {p : UInt8 → Bool} {xs : List UInt8} {k : Nat} (hk : k < xs.length) (hp : p xs[k] = false) : runL p xs k = k := by
  unfold runL
  rw [← List.getElem_cons_drop hk, List.takeWhile_cons_of_neg (by simp [hp])]; rfl
theorem runL_end {p : UInt8 → Bool} {xs : List UInt8} {k : Nat} (hk : xs.length ≤ k) : runL p xs k = k := by
  unfold runL
  rw [List.drop_eq_nil_of_le hk]; rfl
theorem runL_le {p : UInt8 → Bool} {xs : List UInt8} {k : Nat} (hk : k ≤ xs.length) : k ≤ runL p xs k ∧ runL p xs k ≤ xs.length := by
  unfold runL
  have := (List.takeWhile_sublist p (l := xs.drop k)).length_le
  simp at this; omega
theorem runL_cases (p : UInt8 → Bool) (xs : List UInt8) (k : Nat) (hk : k ≤ xs.length) : (∃ h : k < xs.length, p xs[k] = true) ∨ (∃ h : k < xs.length, p xs[k] = false) ∨ k = xs.length := by
  by_cases h : k < xs.length
  · cases hp : p xs[k]
    · exact .inr (.inl ⟨h, hp⟩)
    · exact .inl ⟨h, hp⟩
  · exact .inr (.inr (by omega))
def words : List (List UInt8) := [[116, 121, 112, 101], [117, 56], [117, 49, 54], [117, 51, 50], [117, 54, 52], [98, 111, 111, 108], [118, 97, 114, 105, 110, 116], [118, 101, 99, 116, 111, 114], [108, 105, 115, 116], [111, 112, 116, 105, 111, 110], [117, 110, 105, 111, 110], [115, 116, 114, 117, 99, 116]]
def wordB (xs : List UInt8) : Bool := decide (xs ∈ words)
def nameB (xs : List UInt8) : Bool := decide (xs ≠ []) && decide (xs.length ≤ 32) && (xs.head?.any letB) && xs.all goeB && !wordB xs
theorem cells_all {w : World} {b T : Nat} {cs : Array Value} (h : w.heap[b]? = some (.cells cs T (0, 0))) : Cells w b 0 cs.toList := Cells.of h 0 _ (fun i v hv => by simpa using hv)

theorem letter_spec (c : UInt8) (w0 : World) : Ca Try.prog 21 #[bv c] w0 (fun v w' => v = .bool (letB c) ∧ w' = w0) := by
  refine Ca.of Try.func21 Try.ntmps21 rfl rfl ?_
  refine W.seq ?_
  refine W.region ?_
  refine WL.c rfl (o_as ?_)
  refine WL.nil ?_
  refine W.seq ?_
  refine W.region ?_
  refine WL.c rfl (o_mv ?_)
  refine WL.c rfl (o_ge rfl rfl ?_)
  refine WL.c rfl (o_mv ?_)
  refine WL.sp 2 rfl (fun g5 => ?_) (fun g5 => ?_)
  · skip
    refine WL.g rfl (g5) rfl (o_mv ?_)
    refine WL.g rfl (g5) rfl (o_le rfl rfl ?_)
    refine WL.c rfl (o_pickA rfl rfl ?_)
    refine WL.c rfl (o_as ?_)
    refine WL.nil ?_
    refine W.ret ?_
    refine ret1v rfl (show _ = Value.bool _ from rfl) ?_
    exact ⟨congrArg Value.bool (by rw [Bool.eq_iff_iff]; simp_all [letB] <;> omega), rfl⟩
  · skip
    refine WL.s rfl (g5) rfl ?_
    refine WL.s rfl (g5) rfl ?_
    refine WL.c rfl (o_pickF rfl (g5) ?_)
    refine WL.c rfl (o_as ?_)
    refine WL.nil ?_
    refine W.ret ?_
    refine ret1v rfl (show _ = Value.bool _ from rfl) ?_
    exact ⟨congrArg Value.bool (by rw [Bool.eq_iff_iff]; simp_all [letB] <;> omega), rfl⟩
theorem digit_spec (c : UInt8) (w0 : World) : Ca Try.prog 30 #[bv c] w0 (fun v w' => v = .bool (digB c) ∧ w' = w0) := by
  refine Ca.of Try.func30 Try.ntmps30 rfl rfl ?_
  refine W.seq ?_
  refine W.region ?_
  refine WL.c rfl (o_as ?_)
  refine WL.nil ?_
  refine W.seq ?_
  refine W.region ?_
  refine WL.c rfl (o_mv ?_)
  refine WL.c rfl (o_ge rfl rfl ?_)
  refine WL.c rfl (o_mv ?_)
  refine WL.sp 2 rfl (fun g5 => ?_) (fun g5 => ?_)
  · skip
    refine WL.g rfl (g5) rfl (o_mv ?_)
    refine WL.g rfl (g5) rfl (o_le rfl rfl ?_)
    refine WL.c rfl (o_pickA rfl rfl ?_)
    refine WL.c rfl (o_as ?_)
    refine WL.nil ?_
    refine W.ret ?_
    refine ret1v rfl (show _ = Value.bool _ from rfl) ?_
    exact ⟨congrArg Value.bool (by rw [Bool.eq_iff_iff]; simp_all [digB] <;> omega), rfl⟩
  · skip
    refine WL.s rfl (g5) rfl ?_
    refine WL.s rfl (g5) rfl ?_
    refine WL.c rfl (o_pickF rfl (g5) ?_)
    refine WL.c rfl (o_as ?_)
    refine WL.nil ?_
    refine W.ret ?_
    refine ret1v rfl (show _ = Value.bool _ from rfl) ?_
    exact ⟨congrArg Value.bool (by rw [Bool.eq_iff_iff]; simp_all [digB] <;> omega), rfl⟩
theorem nnl_spec (c : UInt8) (w0 : World) : Ca Try.prog 26 #[bv c] w0 (fun v w' => v = .bool (nnlB c) ∧ w' = w0) := by
  refine Ca.of Try.func26 Try.ntmps26 rfl rfl ?_
  refine W.seq ?_
  refine W.region ?_
  refine WL.c rfl (o_as ?_)
  refine WL.nil ?_
  refine W.seq ?_
  refine W.region ?_
  refine WL.c rfl (o_mv ?_)
  refine WL.c rfl (o_ne rfl rfl ?_)
  refine WL.c rfl (o_as ?_)
  refine WL.nil ?_
  refine W.ret ?_
  refine ret1v rfl (show _ = Value.bool _ from rfl) ?_
  exact ⟨congrArg Value.bool (by rw [Bool.eq_iff_iff]; simp_all [nnlB] <;> omega), rfl⟩
theorem further_spec (c : UInt8) (w0 : World) : Ca Try.prog 23 #[bv c] w0 (fun v w' => v = .bool (goeB c) ∧ w' = w0) := by
  refine Ca.of Try.func23 Try.ntmps23 rfl rfl ?_
  refine W.seq ?_
  refine W.region ?_
  refine WL.c rfl (o_as ?_)
  refine WL.nil ?_
  refine W.seq ?_
  refine W.region ?_
  refine WL.c rfl (o_mv ?_)
  refine WL.c rfl (o_call Try.call21 (lc rfl ln) ((letter_spec c _).mono ?_))
  rintro v4 w4 ⟨rfl, rfl⟩
  refine WL.c rfl (o_mv ?_)
  refine WL.sp 2 rfl (fun g5 => ?_) (fun g5 => ?_)
  · skip
    refine WL.s rfl (g5) rfl ?_
    refine WL.s rfl (g5) rfl ?_
    refine WL.c rfl (o_pickT rfl (g5) ?_)
    refine WL.c rfl (o_mv ?_)
    refine WL.s rfl (rfl) rfl ?_
    refine WL.s rfl (rfl) rfl ?_
    refine WL.c rfl (o_pickT rfl (rfl) ?_)
    refine WL.c rfl (o_as ?_)
    refine WL.nil ?_
    refine W.ret ?_
    refine ret1v rfl (show _ = Value.bool _ from rfl) ?_
    exact ⟨congrArg Value.bool (by rw [Bool.eq_iff_iff]; simp_all [goeB] <;> omega), rfl⟩
  · skip
    refine WL.g rfl (g5) rfl (o_mv ?_)
    refine WL.g rfl (g5) rfl (o_call Try.call30 (lc rfl ln) ((digit_spec c _).mono ?_))
    rintro v7 w7 ⟨rfl, rfl⟩
    refine WL.c rfl (o_pickO rfl rfl ?_)
    refine WL.c rfl (o_mv ?_)
    refine WL.sp 6 rfl (fun g9 => ?_) (fun g9 => ?_)
    · skip
      refine WL.s rfl (g9) rfl ?_
      refine WL.s rfl (g9) rfl ?_
      refine WL.c rfl (o_pickT rfl (g9) ?_)
      refine WL.c rfl (o_as ?_)
      refine WL.nil ?_
      refine W.ret ?_
      refine ret1v rfl (show _ = Value.bool _ from rfl) ?_
      exact ⟨congrArg Value.bool (by rw [Bool.eq_iff_iff]; simp_all [goeB] <;> omega), rfl⟩
    · skip
      refine WL.g rfl (g9) rfl (o_mv ?_)
      refine WL.g rfl (g9) rfl (o_eq rfl rfl ?_)
      refine WL.c rfl (o_pickO rfl rfl ?_)
      refine WL.c rfl (o_as ?_)
      refine WL.nil ?_
      refine W.ret ?_
      refine ret1v rfl (show _ = Value.bool _ from rfl) ?_
      exact ⟨congrArg Value.bool (by rw [Bool.eq_iff_iff]; simp_all [goeB] <;> omega), rfl⟩
theorem run_spec (p : UInt8 → Bool) (g : FuncId) (xs : List UInt8) (k0 : Nat) (w0 : World) (hk0 : k0 ≤ xs.length) (hlen : xs.length ≤ 9223372036854775807) (hp : ∀ c w, Ca Try.prog g #[bv c] w (fun v w' => v = .bool (p c) ∧ w' = w)) (hg : ∀ args w, (callFunc g args).run Try.prog w = .ok (.enter g args) w) : Ca Try.prog 22 #[st xs, .int .i64 (k0 : Int), .func (.func g) #[] #[]] w0 (fun v w' => v = .int .i64 (runL p xs k0 : Int) ∧ w' = w0) := by
  refine Ca.of Try.func22 Try.ntmps22 rfl rfl ?_
  refine W.seq ?_
  refine W.region ?_
  refine WL.c rfl (o_as ?_)
  refine WL.nil ?_
  refine W.seq ?_
  refine W.block ?_
  refine W.loop (fun e w => ∃ k : Nat, k ≤ xs.length ∧ e 0 = st xs ∧ e 1 = .int .i64 (k : Int) ∧ e 2 = .func (.func g) #[] #[] ∧ runL p xs k0 = runL p xs k ∧ w = w0) (fun e w => xs.length - (intOf (e 1)).toNat) ?_ ?_
  · exact ⟨k0, hk0, rfl, rfl, rfl, rfl, rfl⟩
  rintro e w ⟨k, hk, h0, h1, h2, hr, rfl⟩
  refine W.seq ?_
  refine W.seq ?_
  rcases runL_cases p xs k hk with ⟨hk1, hpk⟩ | ⟨hk1, hpk⟩ | hk1
  · skip
    refine W.region ?_
    refine WL.c rfl (o_mvh h1 ?_)
    refine WL.c rfl (o_mvh h0 ?_)
    refine WL.c rfl (o_lenT TI9 rfl ?_)
    refine WL.c rfl (o_lt rfl rfl ?_)
    refine WL.c rfl (o_mv ?_)
    refine WL.g rfl (by simp; omega) rfl (o_mvh h2 ?_)
    refine WL.g rfl (by simp; omega) rfl (o_mvh h0 ?_)
    refine WL.g rfl (by simp; omega) rfl (o_mvh h1 ?_)
    refine WL.g rfl (by simp; omega) rfl (o_idT TI9 rfl rfl (by omega) ?_)
    refine WL.g rfl (by simp; omega) rfl (o_callF rfl hg (lc rfl ln) ((hp xs[k] _).mono ?_))
    rintro v16 w16 ⟨rfl, rfl⟩
    refine WL.c rfl (o_pickA rfl rfl ?_)
    refine WL.nil ?_
    refine W.condT' rfl (by simp [hpk]; omega) ?_
    refine W.skip ?_
    refine W.block ?_
    refine W.region ?_
    refine WL.c rfl (o_mvh h1 ?_)
    refine WL.c rfl (o_addi rfl rfl (by omega) ?_)
    refine WL.c rfl (o_as ?_)
    refine WL.nil ?_
    refine ⟨⟨k + 1, by omega, h0, rfl, h2, by rw [hr]; exact runL_go hk1 hpk, rfl⟩, ?_⟩
    show xs.length - ((k : Int) + 1).toNat < _
    rw [h1]; simp [intOf]; omega
  · skip
    refine W.region ?_
    refine WL.c rfl (o_mvh h1 ?_)
    refine WL.c rfl (o_mvh h0 ?_)
    refine WL.c rfl (o_lenT TI9 rfl ?_)
    refine WL.c rfl (o_lt rfl rfl ?_)
    refine WL.c rfl (o_mv ?_)
    refine WL.g rfl (by simp; omega) rfl (o_mvh h2 ?_)
    refine WL.g rfl (by simp; omega) rfl (o_mvh h0 ?_)
    refine WL.g rfl (by simp; omega) rfl (o_mvh h1 ?_)
    refine WL.g rfl (by simp; omega) rfl (o_idT TI9 rfl rfl (by omega) ?_)
    refine WL.g rfl (by simp; omega) rfl (o_callF rfl hg (lc rfl ln) ((hp xs[k] _).mono ?_))
    rintro v16 w16 ⟨rfl, rfl⟩
    refine WL.c rfl (o_pickA rfl rfl ?_)
    refine WL.nil ?_
    refine W.condF' rfl (by simp [hpk]) ?_
    refine W.exit ?_
    refine W.seq ?_
    refine W.region ?_
    refine WL.c rfl (o_mvh h1 ?_)
    refine WL.c rfl (o_as ?_)
    refine WL.nil ?_
    refine W.ret ?_
    refine ret1v rfl (show _ = Value.int _ _ from rfl) ?_
    exact ⟨by rw [hr, runL_stop hk1 hpk], rfl⟩
  · skip
    refine W.region ?_
    refine WL.c rfl (o_mvh h1 ?_)
    refine WL.c rfl (o_mvh h0 ?_)
    refine WL.c rfl (o_lenT TI9 rfl ?_)
    refine WL.c rfl (o_lt rfl rfl ?_)
    refine WL.c rfl (o_mv ?_)
    refine WL.s rfl (by simp; omega) rfl ?_
    refine WL.s rfl (by simp; omega) rfl ?_
    refine WL.s rfl (by simp; omega) rfl ?_
    refine WL.s rfl (by simp; omega) rfl ?_
    refine WL.s rfl (by simp; omega) rfl ?_
    refine WL.c rfl (o_pickF rfl (by simp; omega) ?_)
    refine WL.nil ?_
    refine W.condF' rfl (rfl) ?_
    refine W.exit ?_
    refine W.seq ?_
    refine W.region ?_
    refine WL.c rfl (o_mvh h1 ?_)
    refine WL.c rfl (o_as ?_)
    refine WL.nil ?_
    refine W.ret ?_
    refine ret1v rfl (show _ = Value.int _ _ from rfl) ?_
    exact ⟨by rw [hr, runL_end (by omega)], rfl⟩
end Go.Proofs.Ytiabjbaegdgmmaa
