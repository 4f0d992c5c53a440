/-
  Walks. Written by program out of specs of mine.
-/
import Derived.Test.YtdiaeafjjffjmaaBook
import Derived.Test.YtdiaeafjjffjmaaFacts
import Derived.Test.YtdiaeafjjffjmaaDefer
set_option linter.unusedSimpArgs false
set_option linter.unusedVariables false
set_option maxRecDepth 100000
namespace Go.Proofs.Ytdiaeafjjffjmaa
open Go Go.Vc Go.RowKit Go.Proofs

theorem maxLen_eq : maxLen = 9223372036854775807 := rfl
/-- a frame, plainly -/
structure Fr where
  rt : Int
  pl : Int
  bs : Int
  en : Int
  nd : Int
  nx : Int
  tab : List Int
deriving DecidableEq
def Fr.nil : Fr := ⟨0, 0, 0, 0, 0, 0, []⟩
def fcells (f : Fr) (tv : Value) : List Value := [.int .i64 f.rt, .int .i64 f.pl, .int .i64 f.bs, .int .i64 f.en, .int .i64 f.nd, .int .i64 f.nx, tv]
abbrev ints (l : List Int) : List Value := l.map (Value.int .i64)
abbrev In (w : World) (v : Value) (l : List Int) : Prop := Sl w 1 v l.length (ints l)
def inb (n lo hi : Int) : Bool := decide (lo ≤ n) && decide (n ≤ hi)
abbrev Huge : Int := 4611686018427387904
def fright (f : Fr) : Bool := inb f.rt 0 Huge && inb f.pl 0 Huge && inb f.bs 0 Huge && inb f.nx 0 Huge && inb f.en (-1) Huge && inb f.nd (-1) Huge
def tright (l : List Int) : Bool := decide (l.length ≤ 1048576) && l.all (fun n => inb n 0 Huge)
def fwhole (f : Fr) : Bool := fright f && tright f.tab
theorem getint {l : List Int} {k : Nat} (h : k < l.length) : (ints l)[k]? = some (.int .i64 l[k]) := by simp [h]
theorem one_ints (l : List Int) : ∀ a ∈ ints l, a.oneCell' = true := by intro a ha; obtain ⟨n, _, rfl⟩ := List.mem_map.1 ha; rfl
theorem all_drop {p : Int → Bool} {l : List Int} {k : Nat} (h : k < l.length) : (l.drop k).any p = (p l[k] || (l.drop (k + 1)).any p) := by
  rw [← List.getElem_cons_drop h]; rfl
theorem fcells_one {f : Fr} {v : Value} (h : v.oneCell' = true) : (fcells f v).toArray.toList.all (·.oneCell') = true := by simp only [fcells, List.all_cons, List.all_nil, h, Bool.and_true]; rfl
theorem fcells_all {f : Fr} {v : Value} (h : v.oneCell' = true) : ∀ a ∈ fcells f v, a.oneCell' = true := fun a ha => List.all_eq_true.1 (fcells_one (f := f) h) a (by simpa using ha)
theorem any_not_all (l : List Int) : (l.any fun n => !inb n 0 Huge) = !(l.all fun n => inb n 0 Huge) := by induction l with
  | nil => rfl
  | cons a l ih => simp [ih, Bool.not_and]

theorem in_spec (n lo hi : Int) (w : World) : Ca Try.prog 48 #[.int .i64 n, .int .i64 lo, .int .i64 hi] w (fun v w' => v = .bool (inb n lo hi) ∧ w' = w) := by
  refine Ca.of Try.func48 Try.ntmps48 rfl rfl ?_
  refine W.seq ?_
  refine W.region ?_
  refine WL.c rfl (o_as ?_)
  refine WL.nil ?_
  refine W.seq ?_
  refine W.region ?_
  refine WL.c rfl (o_mv ?_)
  refine WL.c rfl (o_mv ?_)
  refine WL.c rfl (o_le rfl rfl ?_)
  refine WL.c rfl (o_mv ?_)
  refine WL.sp 3 rfl (fun g10 => ?_) (fun g10 => ?_)
  · skip
    refine WL.g rfl (g10) rfl (o_mv ?_)
    refine WL.g rfl (g10) rfl (o_mv ?_)
    refine WL.g rfl (g10) rfl (o_le rfl rfl ?_)
    refine WL.c rfl (o_pickA rfl rfl ?_)
    refine WL.c rfl (o_as ?_)
    refine WL.nil ?_
    refine W.ret ?_
    refine ret1v rfl (show _ = Value.bool _ from rfl) ?_
    exact ⟨congrArg Value.bool (by rw [Bool.eq_iff_iff]; simp_all [inb] <;> omega), rfl⟩
  · skip
    refine WL.s rfl (g10) rfl ?_
    refine WL.s rfl (g10) rfl ?_
    refine WL.s rfl (g10) rfl ?_
    refine WL.c rfl (o_pickF rfl (g10) ?_)
    refine WL.c rfl (o_as ?_)
    refine WL.nil ?_
    refine W.ret ?_
    refine ret1v rfl (show _ = Value.bool _ from rfl) ?_
    exact ⟨congrArg Value.bool (by rw [Bool.eq_iff_iff]; simp_all [inb] <;> omega), rfl⟩
theorem whole1_spec (n : Int) (w : World) : Ca Try.prog 53 #[.int .i64 n] w (fun v w' => v = .bool (!inb n 0 Huge) ∧ w' = w) := by
  refine Ca.of Try.func53 Try.ntmps53 rfl rfl ?_
  refine W.seq ?_
  refine W.region ?_
  refine WL.c rfl (o_as ?_)
  refine WL.nil ?_
  refine W.seq ?_
  refine W.region ?_
  refine WL.c rfl (o_mv ?_)
  refine WL.c rfl (o_call Try.call48 (lc rfl (lc rfl (lc rfl ln))) ((in_spec n 0 Huge _).mono ?_))
  rintro v4 w4 ⟨rfl, rfl⟩
  refine WL.c rfl (o_not' rfl ?_)
  refine WL.c rfl (o_as ?_)
  refine WL.nil ?_
  refine W.ret ?_
  refine ret1v rfl (show _ = Value.bool _ from rfl) ?_
  exact ⟨rfl, rfl⟩
theorem indexf_spec (l : List Int) (v : Value) (w0 : World) (hl : l.length ≤ maxLen) (hS : In w0 v l) : Ca Try.prog 71 #[v, .func (.func 53) #[] #[]] w0 (fun v w' => (∃ r : Int, v = .int .i64 r ∧ (0 ≤ r ↔ (l.any fun n => !inb n 0 Huge) = true)) ∧ w' = w0) := by
  rw [maxLen_eq] at hl
  refine Ca.of Try.func71 Try.ntmps71 rfl rfl ?_
  refine W.seq ?_
  refine W.region ?_
  refine WL.c rfl (o_as ?_)
  refine WL.nil ?_
  refine W.seq ?_
  refine W.seq ?_
  refine W.region ?_
  refine WL.c rfl (o_mv ?_)
  refine WL.c rfl (o_lenR TI37 rfl hS ?_)
  refine WL.c rfl (o_mv ?_)
  refine WL.nil ?_
  refine W.block ?_
  refine W.loop (fun e w => ∃ k : Nat, k ≤ l.length ∧ e 0 = v ∧ e 1 = .func (.func 53) #[] #[] ∧ e 7 = .int .i64 (l.length : Int) ∧ e 8 = .int .i64 (k : Int) ∧ (l.any fun n => !inb n 0 Huge) = ((l.drop k).any fun n => !inb n 0 Huge) ∧ w = w0) (fun e w => l.length - (intOf (e 8)).toNat) ?_ ?_
  · exact ⟨0, Nat.zero_le _, rfl, rfl, rfl, rfl, rfl, rfl⟩
  rintro e w ⟨k, hk, h0, h1, h7, h8, hg, rfl⟩
  have hm8 := h8
  refine W.seq ?_
  refine W.region ?_
  refine WL.c rfl (o_lt h8 h7 ?_)
  refine WL.nil ?_
  refine W.seq ?_
  refine W.cond rfl (fun c9 => ?_) (fun c9 => ?_)
  · try simp only [decide_eq_true_eq, decide_eq_false_iff_not, Bool.not_eq_true', Bool.not_eq_false', Bool.and_eq_true, Bool.or_eq_true, Bool.and_eq_false_iff, Bool.or_eq_false_iff] at c9
    refine W.skip ?_
    refine W.seq ?_
    refine W.block ?_
    refine W.seq ?_
    refine W.region ?_
    refine WL.c rfl (o_mvh h8 ?_)
    refine WL.c rfl (o_as ?_)
    refine WL.nil ?_
    refine W.seq ?_
    have hk1 : k < l.length := by omega
    refine W.region ?_
    refine WL.c rfl (o_mvh h1 ?_)
    refine WL.c rfl (o_mvh h0 ?_)
    refine WL.c rfl (o_mv ?_)
    refine WL.c rfl (o_ix1 TI37 TI3 rfl rfl hS (by omega) ?_)
    intro b14 o14 hc14 hb14
    refine WL.c rfl (o_ld TI3 rfl rfl (hc14.trans (getint hk1)) ?_)
    refine WL.c rfl (o_callF (show _ = Value.func (.func 53) #[] #[] from rfl) Try.call53 (lc rfl ln) ((whole1_spec l[k] _).mono ?_))
    rintro v16 w16 ⟨rfl, rfl⟩
    refine WL.nil ?_
    refine W.cond rfl (fun c16 => ?_) (fun c16 => ?_)
    · try simp only [decide_eq_true_eq, decide_eq_false_iff_not, Bool.not_eq_true', Bool.not_eq_false', Bool.and_eq_true, Bool.or_eq_true, Bool.and_eq_false_iff, Bool.or_eq_false_iff] at c16
      refine W.seq ?_
      refine W.region ?_
      refine WL.c rfl (o_mv ?_)
      refine WL.c rfl (o_as ?_)
      refine WL.nil ?_
      refine W.ret ?_
      refine ret1v rfl (show _ = Value.int _ _ from rfl) ?_
      exact ⟨⟨_, rfl, by rw [hg, all_drop hk1, c16]; simp⟩, rfl⟩
    · try simp only [decide_eq_true_eq, decide_eq_false_iff_not, Bool.not_eq_true', Bool.not_eq_false', Bool.and_eq_true, Bool.or_eq_true, Bool.and_eq_false_iff, Bool.or_eq_false_iff] at c16
      refine W.skip ?_
      refine W.region ?_
      refine WL.c rfl (o_addi h8 rfl (by omega) ?_)
      refine WL.c rfl (o_mv ?_)
      refine WL.nil ?_
      refine ⟨⟨k + 1, by omega, h0, h1, h7, rfl, ?_, rfl⟩, ?_⟩
      · rw [hg, all_drop hk1, c16]; simp
      · show l.length - ((k : Int) + 1).toNat < _
        rw [hm8]; simp [intOf]; omega
  · try simp only [decide_eq_true_eq, decide_eq_false_iff_not, Bool.not_eq_true', Bool.not_eq_false', Bool.and_eq_true, Bool.or_eq_true, Bool.and_eq_false_iff, Bool.or_eq_false_iff] at c9
    refine W.exit ?_
    refine W.seq ?_
    refine W.region ?_
    refine WL.c rfl (o_as ?_)
    refine WL.nil ?_
    refine W.ret ?_
    refine ret1v rfl (show _ = Value.int _ _ from rfl) ?_
    have hkl : k = l.length := by omega
    subst hkl
    rw [List.drop_length] at hg
    exact ⟨⟨_, rfl, by rw [hg]; simp⟩, rfl⟩
theorem contf_spec (l : List Int) (v : Value) (w0 : World) (hl : l.length ≤ maxLen) (hS : In w0 v l) : Ca Try.prog 52 #[v, .func (.func 53) #[] #[]] w0 (fun v w' => v = .bool (l.any fun n => !inb n 0 Huge) ∧ w' = w0) := by
  refine Ca.of Try.func52 Try.ntmps52 rfl rfl ?_
  refine W.seq ?_
  refine W.region ?_
  refine WL.c rfl (o_as ?_)
  refine WL.nil ?_
  refine W.seq ?_
  refine W.region ?_
  refine WL.c rfl (o_mv ?_)
  refine WL.c rfl (o_mv ?_)
  refine WL.c rfl (o_call Try.call71 (lc rfl (lc rfl ln)) ((indexf_spec l v _ hl hS).mono ?_))
  rintro v7 w7 ⟨⟨r, rfl, hr⟩, rfl⟩
  refine WL.c rfl (o_ge rfl rfl ?_)
  refine WL.c rfl (o_as ?_)
  refine WL.nil ?_
  refine W.ret ?_
  refine ret1v rfl (show _ = Value.bool _ from rfl) ?_
  exact ⟨congrArg Value.bool (by rw [Bool.eq_iff_iff, ← hr]; simp), rfl⟩
theorem right_spec (f : Fr) (tv : Value) (w0 : World) : Ca Try.prog 47 #[.agg (fcells f tv).toArray] w0 (fun v w' => v = .bool (fright f) ∧ Ext w0 w') := by
  refine Ca.of Try.func47 Try.ntmps47 rfl rfl ?_
  refine W.seq ?_
  refine W.region ?_
  refine WL.c rfl (o_boxB rfl ?_)
  intro w1 hC1 hx1 hs1
  replace hC1 : w1.heap[w0.heap.size]? = some (.cells (fcells f tv).toArray 39 (0, 0)) := hC1
  refine WL.c rfl (o_as ?_)
  refine WL.nil ?_
  refine W.seq ?_
  refine W.region ?_
  refine WL.c rfl (o_fa 0 TI39 rfl TI3 rfl rfl ?_)
  refine WL.c rfl (o_ld TI3 rfl rfl (cell_of hC1 rfl) ?_)
  refine WL.c rfl (o_call Try.call48 (lc rfl (lc rfl (lc rfl ln))) ((in_spec f.rt 0 Huge _).mono ?_))
  rintro v5 w5 ⟨rfl, rfl⟩
  refine WL.c rfl (o_mv ?_)
  refine WL.sp 3 rfl (fun g6 => ?_) (fun g6 => ?_)
  · skip
    refine WL.g rfl (g6) rfl (o_fa 1 TI39 rfl TI3 rfl rfl ?_)
    refine WL.g rfl (g6) rfl (o_ld TI3 rfl rfl (cell_of hC1 rfl) ?_)
    refine WL.g rfl (g6) rfl (o_call Try.call48 (lc rfl (lc rfl (lc rfl ln))) ((in_spec f.pl 0 Huge _).mono ?_))
    rintro v9 w9 ⟨rfl, rfl⟩
    refine WL.c rfl (o_pickA rfl rfl ?_)
    refine WL.c rfl (o_mv ?_)
    refine WL.sp 8 rfl (fun g11 => ?_) (fun g11 => ?_)
    · skip
      refine WL.g rfl (g11) rfl (o_fa 2 TI39 rfl TI3 rfl rfl ?_)
      refine WL.g rfl (g11) rfl (o_ld TI3 rfl rfl (cell_of hC1 rfl) ?_)
      refine WL.g rfl (g11) rfl (o_call Try.call48 (lc rfl (lc rfl (lc rfl ln))) ((in_spec f.bs 0 Huge _).mono ?_))
      rintro v14 w14 ⟨rfl, rfl⟩
      refine WL.c rfl (o_pickA rfl rfl ?_)
      refine WL.c rfl (o_mv ?_)
      refine WL.sp 13 rfl (fun g16 => ?_) (fun g16 => ?_)
      · skip
        refine WL.g rfl (g16) rfl (o_fa 5 TI39 rfl TI3 rfl rfl ?_)
        refine WL.g rfl (g16) rfl (o_ld TI3 rfl rfl (cell_of hC1 rfl) ?_)
        refine WL.g rfl (g16) rfl (o_call Try.call48 (lc rfl (lc rfl (lc rfl ln))) ((in_spec f.nx 0 Huge _).mono ?_))
        rintro v19 w19 ⟨rfl, rfl⟩
        refine WL.c rfl (o_pickA rfl rfl ?_)
        refine WL.c rfl (o_mv ?_)
        refine WL.sp 18 rfl (fun g21 => ?_) (fun g21 => ?_)
        · skip
          refine WL.g rfl (g21) rfl (o_fa 3 TI39 rfl TI3 rfl rfl ?_)
          refine WL.g rfl (g21) rfl (o_ld TI3 rfl rfl (cell_of hC1 rfl) ?_)
          refine WL.g rfl (g21) rfl (o_call Try.call48 (lc rfl (lc rfl (lc rfl ln))) ((in_spec f.en (-1) Huge _).mono ?_))
          rintro v24 w24 ⟨rfl, rfl⟩
          refine WL.c rfl (o_pickA rfl rfl ?_)
          refine WL.c rfl (o_mv ?_)
          refine WL.sp 23 rfl (fun g26 => ?_) (fun g26 => ?_)
          · skip
            refine WL.g rfl (g26) rfl (o_fa 4 TI39 rfl TI3 rfl rfl ?_)
            refine WL.g rfl (g26) rfl (o_ld TI3 rfl rfl (cell_of hC1 rfl) ?_)
            refine WL.g rfl (g26) rfl (o_call Try.call48 (lc rfl (lc rfl (lc rfl ln))) ((in_spec f.nd (-1) Huge _).mono ?_))
            rintro v29 w29 ⟨rfl, rfl⟩
            refine WL.c rfl (o_pickA rfl rfl ?_)
            refine WL.c rfl (o_as ?_)
            refine WL.nil ?_
            refine W.ret ?_
            refine ret1v rfl (show _ = Value.bool _ from rfl) ?_
            exact ⟨congrArg Value.bool (by simp_all [fright]), hx1⟩
          · skip
            refine WL.s rfl (g26) rfl ?_
            refine WL.s rfl (g26) rfl ?_
            refine WL.s rfl (g26) rfl ?_
            refine WL.c rfl (o_pickF rfl (g26) ?_)
            refine WL.c rfl (o_as ?_)
            refine WL.nil ?_
            refine W.ret ?_
            refine ret1v rfl (show _ = Value.bool _ from rfl) ?_
            exact ⟨congrArg Value.bool (by simp_all [fright]), hx1⟩
        · skip
          refine WL.s rfl (g21) rfl ?_
          refine WL.s rfl (g21) rfl ?_
          refine WL.s rfl (g21) rfl ?_
          refine WL.c rfl (o_pickF rfl (g21) ?_)
          refine WL.c rfl (o_mv ?_)
          refine WL.s rfl (rfl) rfl ?_
          refine WL.s rfl (rfl) rfl ?_
          refine WL.s rfl (rfl) rfl ?_
          refine WL.c rfl (o_pickF rfl (rfl) ?_)
          refine WL.c rfl (o_as ?_)
          refine WL.nil ?_
          refine W.ret ?_
          refine ret1v rfl (show _ = Value.bool _ from rfl) ?_
          exact ⟨congrArg Value.bool (by simp_all [fright]), hx1⟩
      · skip
        refine WL.s rfl (g16) rfl ?_
        refine WL.s rfl (g16) rfl ?_
        refine WL.s rfl (g16) rfl ?_
        refine WL.c rfl (o_pickF rfl (g16) ?_)
        refine WL.c rfl (o_mv ?_)
        refine WL.s rfl (rfl) rfl ?_
        refine WL.s rfl (rfl) rfl ?_
        refine WL.s rfl (rfl) rfl ?_
        refine WL.c rfl (o_pickF rfl (rfl) ?_)
        refine WL.c rfl (o_mv ?_)
        refine WL.s rfl (rfl) rfl ?_
        refine WL.s rfl (rfl) rfl ?_
        refine WL.s rfl (rfl) rfl ?_
        refine WL.c rfl (o_pickF rfl (rfl) ?_)
        refine WL.c rfl (o_as ?_)
        refine WL.nil ?_
        refine W.ret ?_
        refine ret1v rfl (show _ = Value.bool _ from rfl) ?_
        exact ⟨congrArg Value.bool (by simp_all [fright]), hx1⟩
    · skip
      refine WL.s rfl (g11) rfl ?_
      refine WL.s rfl (g11) rfl ?_
      refine WL.s rfl (g11) rfl ?_
      refine WL.c rfl (o_pickF rfl (g11) ?_)
      refine WL.c rfl (o_mv ?_)
      refine WL.s rfl (rfl) rfl ?_
      refine WL.s rfl (rfl) rfl ?_
      refine WL.s rfl (rfl) rfl ?_
      refine WL.c rfl (o_pickF rfl (rfl) ?_)
      refine WL.c rfl (o_mv ?_)
      refine WL.s rfl (rfl) rfl ?_
      refine WL.s rfl (rfl) rfl ?_
      refine WL.s rfl (rfl) rfl ?_
      refine WL.c rfl (o_pickF rfl (rfl) ?_)
      refine WL.c rfl (o_mv ?_)
      refine WL.s rfl (rfl) rfl ?_
      refine WL.s rfl (rfl) rfl ?_
      refine WL.s rfl (rfl) rfl ?_
      refine WL.c rfl (o_pickF rfl (rfl) ?_)
      refine WL.c rfl (o_as ?_)
      refine WL.nil ?_
      refine W.ret ?_
      refine ret1v rfl (show _ = Value.bool _ from rfl) ?_
      exact ⟨congrArg Value.bool (by simp_all [fright]), hx1⟩
  · skip
    refine WL.s rfl (g6) rfl ?_
    refine WL.s rfl (g6) rfl ?_
    refine WL.s rfl (g6) rfl ?_
    refine WL.c rfl (o_pickF rfl (g6) ?_)
    refine WL.c rfl (o_mv ?_)
    refine WL.s rfl (rfl) rfl ?_
    refine WL.s rfl (rfl) rfl ?_
    refine WL.s rfl (rfl) rfl ?_
    refine WL.c rfl (o_pickF rfl (rfl) ?_)
    refine WL.c rfl (o_mv ?_)
    refine WL.s rfl (rfl) rfl ?_
    refine WL.s rfl (rfl) rfl ?_
    refine WL.s rfl (rfl) rfl ?_
    refine WL.c rfl (o_pickF rfl (rfl) ?_)
    refine WL.c rfl (o_mv ?_)
    refine WL.s rfl (rfl) rfl ?_
    refine WL.s rfl (rfl) rfl ?_
    refine WL.s rfl (rfl) rfl ?_
    refine WL.c rfl (o_pickF rfl (rfl) ?_)
    refine WL.c rfl (o_mv ?_)
    refine WL.s rfl (rfl) rfl ?_
    refine WL.s rfl (rfl) rfl ?_
    refine WL.s rfl (rfl) rfl ?_
    refine WL.c rfl (o_pickF rfl (rfl) ?_)
    refine WL.c rfl (o_as ?_)
    refine WL.nil ?_
    refine W.ret ?_
    refine ret1v rfl (show _ = Value.bool _ from rfl) ?_
    exact ⟨congrArg Value.bool (by simp_all [fright]), hx1⟩
theorem whole_spec (f : Fr) (tv : Value) (w0 : World) (hS : In w0 tv f.tab) (hl : f.tab.length ≤ maxLen) : Ca Try.prog 36 #[.agg (fcells f tv).toArray] w0 (fun v w' => v = .bool (fwhole f) ∧ Ext w0 w') := by
  refine Ca.of Try.func36 Try.ntmps36 rfl rfl ?_
  refine W.seq ?_
  refine W.region ?_
  refine WL.c rfl (o_boxB rfl ?_)
  intro w1 hC1 hx1 hs1
  replace hC1 : w1.heap[w0.heap.size]? = some (.cells (fcells f tv).toArray 39 (0, 0)) := hC1
  refine WL.c rfl (o_as ?_)
  refine WL.nil ?_
  refine W.seq ?_
  refine W.region ?_
  refine WL.c rfl (o_ldA TI39 rfl rfl (show Cells w1 w0.heap.size 0 (fcells f tv) from Cells.of hC1 0 _ (by simp)) rfl ?_)
  refine WL.c rfl (o_call Try.call47 (lc rfl ln) ((right_spec f tv _).mono ?_))
  rintro v4 w4 ⟨rfl, hx4⟩
  refine WL.c rfl (o_mv ?_)
  refine WL.sp 2 rfl (fun g5 => ?_) (fun g5 => ?_)
  · skip
    refine WL.g rfl (g5) rfl (o_fa 6 TI39 rfl TI37 rfl rfl ?_)
    refine WL.g rfl (g5) rfl (o_ld TI37 rfl rfl (cell_of (hx4.blk hC1 (fun h => h)) rfl) ?_)
    refine WL.g rfl (g5) rfl (o_lenR TI37 rfl (hS.ext (hx1.tr hx4)) ?_)
    refine WL.g rfl (g5) rfl (o_le rfl rfl ?_)
    refine WL.c rfl (o_pickA rfl rfl ?_)
    refine WL.c rfl (o_mv ?_)
    refine WL.sp 8 rfl (fun g11 => ?_) (fun g11 => ?_)
    · skip
      refine WL.g rfl (g11) rfl (o_fa 6 TI39 rfl TI37 rfl rfl ?_)
      refine WL.g rfl (g11) rfl (o_ld TI37 rfl rfl (cell_of (hx4.blk hC1 (fun h => h)) rfl) ?_)
      refine WL.g rfl (g11) rfl (o_call Try.call52 (lc rfl (lc rfl ln)) ((contf_spec f.tab tv _ hl (hS.ext (hx1.tr hx4))).mono ?_))
      rintro v14 w14 ⟨rfl, rfl⟩
      refine WL.g rfl (g11) rfl (o_not' rfl ?_)
      refine WL.c rfl (o_pickA rfl rfl ?_)
      refine WL.c rfl (o_as ?_)
      refine WL.nil ?_
      refine W.ret ?_
      refine ret1v rfl (show _ = Value.bool _ from rfl) ?_
      exact ⟨congrArg Value.bool (by rw [Bool.eq_iff_iff]; simp_all [fwhole, tright, any_not_all] <;> omega), hx1.tr hx4⟩
    · skip
      refine WL.s rfl (g11) rfl ?_
      refine WL.s rfl (g11) rfl ?_
      refine WL.s rfl (g11) rfl ?_
      refine WL.s rfl (g11) rfl ?_
      refine WL.c rfl (o_pickF rfl (g11) ?_)
      refine WL.c rfl (o_as ?_)
      refine WL.nil ?_
      refine W.ret ?_
      refine ret1v rfl (show _ = Value.bool _ from rfl) ?_
      exact ⟨congrArg Value.bool (by rw [Bool.eq_iff_iff]; simp_all [fwhole, tright, any_not_all] <;> omega), hx1.tr hx4⟩
  · skip
    refine WL.s rfl (g5) rfl ?_
    refine WL.s rfl (g5) rfl ?_
    refine WL.s rfl (g5) rfl ?_
    refine WL.s rfl (g5) rfl ?_
    refine WL.c rfl (o_pickF rfl (g5) ?_)
    refine WL.c rfl (o_mv ?_)
    refine WL.s rfl (rfl) rfl ?_
    refine WL.s rfl (rfl) rfl ?_
    refine WL.s rfl (rfl) rfl ?_
    refine WL.s rfl (rfl) rfl ?_
    refine WL.c rfl (o_pickF rfl (rfl) ?_)
    refine WL.c rfl (o_as ?_)
    refine WL.nil ?_
    refine W.ret ?_
    refine ret1v rfl (show _ = Value.bool _ from rfl) ?_
    exact ⟨congrArg Value.bool (by rw [Bool.eq_iff_iff]; simp_all [fwhole, tright, any_not_all] <;> omega), hx1.tr hx4⟩
theorem own_spec (f : Fr) (tv : Value) (w0 : World) (hS : In w0 tv f.tab) (hl : f.tab.length ≤ 16000000000000) : Ca Try.prog 37 #[.agg (fcells f tv).toArray] w0 (fun v w' => ∃ tv', v = .agg (fcells f tv').toArray ∧ w'.ownsRow w0.heap.size 3 1 tv' f.tab.length (ints f.tab) ∧ Ext w0 w') := by
  refine Ca.of Try.func37 Try.ntmps37 rfl rfl ?_
  refine W.seq ?_
  refine W.region ?_
  refine WL.c rfl (o_boxB rfl ?_)
  intro w1 hC1 hx1 hs1
  replace hC1 : w1.heap[w0.heap.size]? = some (.cells (fcells f tv).toArray 39 (0, 0)) := hC1
  refine WL.c rfl (o_alB TI39 ?_)
  intro w2 hC2 hx2 hs2
  have hC1b := hx2.blk hC1 (fun h => h)
  refine WL.nil ?_
  refine W.seq ?_
  refine W.region ?_
  refine WL.c rfl (o_fa 6 TI39 rfl TI37 rfl rfl ?_)
  refine WL.c rfl (o_ld TI37 rfl rfl (cell_of hC1b rfl) ?_)
  refine WL.c rfl (o_apO (w0.heap.size) TI37 TI3 (show _ = Value.slice _ _ _ from rfl) rfl (World.ownsRow_nil _ _ _ _) (hS.ext (hx1.tr hx2)) rfl (by decide) (one_ints _) (by rw [maxLen_eq]; omega) (by omega) ((hx1.tr hx2).size) ?_)
  intro v5 w5 hown5 ho5 hb5 hk5
  rw [Nat.zero_add, List.nil_append] at hown5
  have hx5 : Ext w2 w5 := ho5.mono (fun j _ h => by cases h)
  have hC1c := hx5.blk hC1b (fun h => h)
  have hC2c := hx5.blk hC2 (fun h => h)
  refine WL.c rfl (o_fa 6 TI39 rfl TI37 rfl rfl ?_)
  refine WL.u (o_stB TI37 rfl rfl (own_one hown5) hC1c (show _ < 7 by decide) ?_)
  intro w6 hB6 ho6 hs6
  replace hB6 : w6.heap[w0.heap.size]? = some (.cells (fcells f v5).toArray 39 (0, 0)) := hB6
  have hC2d := ho6.blk hC2c (by show ¬ w1.heap.size = w0.heap.size; omega)
  have hown6 := own_only hown5 ho6 (fun k hk he => by have := own_off hown5 hC1c (by decide); rw [he] at hk; exact this hk)
  refine WL.nil ?_
  refine W.seq ?_
  refine W.region ?_
  refine WL.c rfl (o_ldA TI39 rfl rfl (show Cells w6 w0.heap.size 0 (fcells f v5) from Cells.of hB6 0 _ (by simp)) rfl ?_)
  refine WL.u (o_stA TI39 rfl rfl rfl (fcells_one (own_one hown5)) hC2d rfl ?_)
  intro w7 hB7 ho7 hs7
  have hown7 := own_only hown6 ho7 (fun k hk he => by have := own_off hown6 hC2d (by decide); rw [he] at hk; exact this hk)
  refine WL.nil ?_
  refine W.ret ?_
  refine retC rfl TI39 rfl rfl (show Cells w7 w1.heap.size 0 (fcells f v5) from Cells.of hB7 0 _ (by simp)) rfl ?_
  refine ⟨v5, rfl, hown7, ?_⟩
  exact (((hx1.tr hx2).tr hx5).trans' ho6 (fun _ h => h) (fun j hj he => by omega)).trans' ho7 (fun _ h => h) (fun j hj he => by omega)
end Go.Proofs.Ytdiaeafjjffjmaa
