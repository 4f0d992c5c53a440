/-
  Walks. Written by program out of specs of mine.
-/
import Derived.Test.YtdiaeafjjffjmaaG
import Derived.Test.YtdiaeafjjffjmaaDefer
set_option linter.unusedSimpArgs false
set_option linter.unusedVariables false
set_option maxRecDepth 100000
namespace Go.Proofs.Ytdiaeafjjffjmaa
open Go Go.Vc Go.RowKit Go.Proofs

theorem Sl.keep {w w' : World} {s n : Nat} {v : Value} {xs : List Value} {F : Nat → Prop} (h : Sl w s v n xs) (ho : Only F w w') (hn : ∀ b, v.ownBlock = some b → F b → xs = []) : Sl w' s v n xs := by
  by_cases e : xs = []
  · subst e
    obtain ⟨hl, hv⟩ := h
    refine ⟨hl, ?_⟩
    rcases hv with ⟨h1, a, c, rfl⟩ | ⟨b, off, c, rfl, hnc, hc⟩
    · exact .inl ⟨h1, a, c, rfl⟩
    · exact .inr ⟨b, off, c, rfl, hnc, fun i v hv => by simp at hv⟩
  · exact h.only ho (fun b hb hF => e (hn b hb hF))
theorem By.drop {w : World} {a : Option Addr} {c k : Nat} {xs : List UInt8} (h : By w (.slice a xs.length c) xs) (hk : k ≤ xs.length) : By w (sliced a k xs.length c 1) (xs.drop k) := by
  have := Sl.sliced h k xs.length hk (Nat.le_refl _)
  simp only [Nat.mul_one] at this
  rw [List.take_of_length_le (by simp), ← List.map_drop] at this
  simpa [By] using this
/-- the reader: its bytes lie in blocks that are older than B0, itself in a newer one -/
structure Rdr (w : World) (B0 q : Nat) (bv : Value) (xs : List UInt8) (at_ : Nat) : Prop where
  cell : w.heap[q]? = some (.cells #[bv, .int .i64 (at_ : Int)] 75 (0, 0))
  by_ : By w bv xs
  off : ∀ b, bv.ownBlock = some b → B0 ≤ b → xs = []
  hq : B0 ≤ q
  le : at_ ≤ xs.length
  small : xs.length ≤ 1000000000000000000
theorem Rdr.keep {w w' : World} {B0 q at_ : Nat} {bv : Value} {xs : List UInt8} {F : Nat → Prop} (h : Rdr w B0 q bv xs at_) (ho : Only F w w') (hF : ∀ k, F k → B0 ≤ k) (hq : ¬ F q) : Rdr w' B0 q bv xs at_ :=
  ⟨ho.blk h.cell hq, Sl.keep h.by_ ho (fun b hb hFb => by rw [h.off b hb (hF b hFb)]; rfl), h.off, h.hq, h.le, h.small⟩
theorem Rdr.ext {w w' : World} {B0 q at_ : Nat} {bv : Value} {xs : List UInt8} (h : Rdr w B0 q bv xs at_) (ho : Ext w w') : Rdr w' B0 q bv xs at_ := h.keep ho (fun _ h => h.elim) (fun h => h)
inductive Rd (α : Type) where
  | ok (n : α) (at_ : Nat)
  | bad (e at_ : Nat)
def Rd.bind {α β : Type} (r : Rd α) (f : α → Nat → Rd β) : Rd β := match r with
  | .ok n a => f n a
  | .bad e a => .bad e a
def rdN (xs : List UInt8) (at_ : Nat) (lo hi : Int) : Rd Nat :=
  if (vget 0 0 (xs.drop at_)).2.2 = 0 then
    (if hi < ((vget 0 0 (xs.drop at_)).1 : Int) ∨ ((vget 0 0 (xs.drop at_)).1 : Int) < lo then .bad 221 at_ else .ok (vget 0 0 (xs.drop at_)).1 (at_ + (vget 0 0 (xs.drop at_)).2.1))
  else .bad (vget 0 0 (xs.drop at_)).2.2 (at_ + (vget 0 0 (xs.drop at_)).2.1)
def pan (e a : Nat) : PanicEntry := { v := .iface 31 (.agg #[.int .i64 (e : Int), .int .i64 (a : Int)]), recovered := false }
theorem vget_used : ∀ (xs : List UInt8) (k n : Nat), (vget k n xs).2.1 ≤ k + xs.length
  | [], k, n => by simp [vget]
  | c :: cs, k, n => by
    rw [vget]
    split
    · simp only [List.length_cons]; omega
    · split
      · simp only [List.length_cons]; omega
      · have := vget_used cs (k + 1) (n + c.toNat % 128 * 128 ^ k)
        rw [List.length_cons]; omega
def rdMany (xs : List UInt8) : Nat → Nat → List Int → Rd (List Int)
  | 0, a, acc => .ok acc a
  | m + 1, a, acc => (rdN xs a 0 Huge).bind fun n a => rdMany xs m a (acc ++ [(n : Int)])
def rdF (xs : List UInt8) (a : Nat) : Rd Fr :=
  (rdN xs a 0 Huge).bind fun n1 a => (rdN xs a 0 Huge).bind fun n2 a => (rdN xs a 0 Huge).bind fun n3 a =>
  (rdN xs a 0 4611686018427387905).bind fun n4 a => (rdN xs a 0 4611686018427387905).bind fun n5 a => (rdN xs a 0 Huge).bind fun n6 a =>
  (rdN xs a 0 1048576).bind fun m a => (rdMany xs m a []).bind fun t a => .ok ⟨n1, n2, n3, (n4 : Int) - 1, (n5 : Int) - 1, n6, t⟩ a
theorem rdN_ok {xs : List UInt8} {a0 n a : Nat} {lo hi : Int} (h : rdN xs a0 lo hi = .ok n a) : lo ≤ n ∧ (n : Int) ≤ hi := by
  unfold rdN at h
  split at h
  · split at h
    · cases h
    · simp only [Rd.ok.injEq] at h
      obtain ⟨rfl, -⟩ := h
      omega
  · cases h
theorem o_cvM {P : Program} {e : Env} {w : World} {K : Value → World → Prop} {ty : TypeId} {x : Operand} {t u : TypeId} {n : Nat} {s b s' b' : Nat} {z z' : Value} (ht : Ty P t (.int .u64) s b z) (hu : Ty P u (.int .i64) s' b' z') (hx : ev e x = .int .u64 (n : Int)) (h1 : n < 9223372036854775808) (kk : K (.int .i64 (n : Int)) w) : OP P e (.convert t u x) ty w K :=
  o_cvI ht hu hx (by
    have h2 : IntKind.i64.wrap (n : Int) = (n : Int) := wrap64' _ (by omega)
    rw [h2]; exact kk)

theorem number_spec (B0 q at_ : Nat) (lo hi : Int) (bv : Value) (xs : List UInt8) (w0 : World) (h : Rdr w0 B0 q bv xs at_) (hlo : 0 ≤ lo) (hhi : 0 ≤ hi) (hhi2 : hi ≤ 4611686018427387905) : CaX Try.prog 50 #[.pointer (some ⟨q, 0, none⟩), .int .i64 lo, .int .i64 hi] w0 (fun v w' => ∃ n a, rdN xs at_ lo hi = .ok n a ∧ v = .int .i64 (n : Int) ∧ Rdr w' B0 q bv xs a ∧ Only (fun k => k = q) w0 w') (fun ch w' => ∃ e a, rdN xs at_ lo hi = .bad e a ∧ ch = [pan e a] ∧ Ext w0 w') := by
  obtain ⟨ba, bc, rfl⟩ := h.by_.isSlice
  have hcell := h.cell
  have hsm := h.small
  have hle := h.le
  have hu := vget_used (xs.drop at_) 0 0
  rw [List.length_drop] at hu
  have hbd := h.by_
  refine CaX.of Try.func50 Try.ntmps50 rfl rfl ?_
  refine W.seq ?_
  refine W.region ?_
  refine WL.c rfl (o_as ?_)
  refine WL.nil ?_
  refine W.seq ?_
  refine W.quiet rfl (by kernel_rfl) ?_
  refine WQ.c rfl ((QO.o rfl fun _ => o_mv ⟨rfl, rfl⟩)) ?_
  refine WQ.c rfl ((QO.r fun _ => r_nil rfl)) ?_
  refine WQ.c rfl ((QO.o rfl fun _ => o_fa 0 TI75 rfl TI23 rfl rfl ⟨rfl, rfl⟩)) ?_
  refine WQ.c rfl ((QO.o rfl fun _ => o_ld TI23 rfl rfl (cell_of hcell rfl) ⟨rfl, rfl⟩)) ?_
  refine WQ.c rfl ((QO.o rfl fun _ => o_mv ⟨rfl, rfl⟩)) ?_
  refine WQ.c rfl ((QO.r fun _ => r_nil rfl)) ?_
  refine WQ.c rfl ((QO.o rfl fun _ => o_fa 1 TI75 rfl TI3 rfl rfl ⟨rfl, rfl⟩)) ?_
  refine WQ.c rfl ((QO.o rfl fun _ => o_ld TI3 rfl rfl (cell_of hcell rfl) ⟨rfl, rfl⟩)) ?_
  refine WQ.c rfl ((QO.o rfl fun _ => o_slv TI23 TI5 rfl (Lo.s rfl) Hi.n h.le (by obtain ⟨_, hv⟩ := h.by_; rcases hv with ⟨h1, a, c, hv⟩ | ⟨b, off, c, hv, hnc, hc⟩ <;> simp only [Value.slice.injEq] at hv <;> omega) ⟨rfl, rfl⟩)) ?_
  refine WQ.c rfl (QO.call Try.call70 (lc rfl ln) (fun _ => Ca.same (get_spec (xs.drop at_) (sliced ba at_ xs.length bc 1) _ (By.drop (Sl.ext h.by_ (Only.drewN _ _)) h.le) (by rw [maxLen_eq, List.length_drop]; omega)))) ?_
  refine WQ.c rfl ((QO.o rfl fun _ => o_mv ⟨rfl, rfl⟩)) ?_
  refine WQ.c rfl ((QO.o rfl fun _ => o_ext rfl rfl ⟨rfl, rfl⟩)) ?_
  refine WQ.c rfl ((QO.o rfl fun _ => o_ext rfl rfl ⟨rfl, rfl⟩)) ?_
  refine WQ.c rfl ((QO.o rfl fun _ => o_ext rfl rfl ⟨rfl, rfl⟩)) ?_
  refine WQ.c rfl ((QO.o rfl fun _ => o_as ⟨rfl, rfl⟩)) ?_
  refine WQ.c rfl ((QO.o rfl fun _ => o_as ⟨rfl, rfl⟩)) ?_
  refine WQ.c rfl ((QO.o rfl fun _ => o_as ⟨rfl, rfl⟩)) ?_
  refine WQ.nil ?_
  intro nq
  have hxq := Only.drewN w0 nq
  have h1 := h.ext hxq
  replace hcell := h1.cell
  generalize w0.drewN nq = wq at *
  obtain ⟨r, hr⟩ : ∃ r, r = vget 0 0 (xs.drop at_) := ⟨_, rfl⟩
  rw [← hr] at hu
  refine W.seq ?_
  refine W.seq ?_
  refine W.region ?_
  refine WL.c rfl (o_mv ?_)
  refine WL.c rfl (o_ne rfl rfl ?_)
  refine WL.nil ?_
  refine W.cond rfl (fun c25 => ?_) (fun c25 => ?_)
  · try simp only [decide_eq_true_eq, decide_eq_false_iff_not, Bool.not_eq_true', Bool.not_eq_false', Bool.and_eq_true, Bool.or_eq_true, Bool.and_eq_false_iff, Bool.or_eq_false_iff] at c25
    refine W.region ?_
    refine WL.c rfl (o_mv ?_)
    refine WL.c rfl (o_mv ?_)
    refine WL.c rfl (o_nil rfl ?_)
    refine WL.c rfl (o_fa 1 TI75 rfl TI3 rfl rfl ?_)
    refine WL.c rfl (o_ld TI3 rfl rfl (cell_of hcell rfl) ?_)
    refine WL.c rfl (o_mv ?_)
    refine WL.c rfl (o_addi rfl rfl (by rw [← hr]; omega) ?_)
    refine WL.c rfl (o_bldC (cs := [_, _]) TI31 (Sizes.cons TI29 (Sizes.cons TI3 Sizes.nil)) rfl (lcp (show _ = Value.int _ _ from rfl) (lcp (show _ = Value.int _ _ from rfl) lnp)) rfl rfl ?_)
    refine WL.c rfl (o_mkI TI31 rfl rfl ?_)
    refine WL.ux (ox_panic (show _ = Value.iface _ _ from rfl) ?_)
    exact ⟨_, _, by rw [rdN, if_neg (by omega)], rfl, hxq⟩
  · try simp only [decide_eq_true_eq, decide_eq_false_iff_not, Bool.not_eq_true', Bool.not_eq_false', Bool.and_eq_true, Bool.or_eq_true, Bool.and_eq_false_iff, Bool.or_eq_false_iff] at c25
    refine W.skip ?_
    refine W.seq ?_
    refine W.seq ?_
    by_cases hg : hi < ((vget 0 0 (xs.drop at_)).1 : Int)
    · skip
      skip
      refine W.region ?_
      refine WL.c rfl (o_mv ?_)
      refine WL.c rfl (o_mv ?_)
      refine WL.c rfl (o_cvN TI3 TI68 rfl hhi (by omega) ?_)
      refine WL.c rfl (o_gt rfl rfl ?_)
      refine WL.c rfl (o_mv ?_)
      refine WL.s rfl (decide_eq_true (by omega)) rfl ?_
      refine WL.s rfl (decide_eq_true (by omega)) rfl ?_
      refine WL.s rfl (decide_eq_true (by omega)) rfl ?_
      refine WL.s rfl (decide_eq_true (by omega)) rfl ?_
      refine WL.c rfl (o_pickT rfl (decide_eq_true (by omega)) ?_)
      refine WL.nil ?_
      refine W.condT' rfl (rfl) ?_
      refine W.region ?_
      refine WL.c rfl (o_mv ?_)
      refine WL.c rfl (o_nil rfl ?_)
      refine WL.c rfl (o_fa 1 TI75 rfl TI3 rfl rfl ?_)
      refine WL.c rfl (o_ld TI3 rfl rfl (cell_of hcell rfl) ?_)
      refine WL.c rfl (o_bldC (cs := [(.int .i64 221), _]) TI31 (Sizes.cons TI29 (Sizes.cons TI3 Sizes.nil)) rfl (lcp (show _ = Value.int _ _ from rfl) (lcp (show _ = Value.int _ _ from rfl) lnp)) rfl rfl ?_)
      refine WL.c rfl (o_mkI TI31 rfl rfl ?_)
      refine WL.ux (ox_panic (show _ = Value.iface _ _ from rfl) ?_)
      exact ⟨_, _, by rw [rdN, if_pos (by omega), if_pos (.inl hg)], rfl, hxq⟩
    · skip
      skip
      refine W.region ?_
      refine WL.c rfl (o_mv ?_)
      refine WL.c rfl (o_mv ?_)
      refine WL.c rfl (o_cvN TI3 TI68 rfl hhi (by omega) ?_)
      refine WL.c rfl (o_gt rfl rfl ?_)
      refine WL.c rfl (o_mv ?_)
      refine WL.g rfl (decide_eq_false (by omega)) rfl (o_mv ?_)
      refine WL.g rfl (decide_eq_false (by omega)) rfl (o_cvM TI68 TI3 rfl (by omega) ?_)
      refine WL.g rfl (decide_eq_false (by omega)) rfl (o_mv ?_)
      refine WL.g rfl (decide_eq_false (by omega)) rfl (o_lt rfl rfl ?_)
      refine WL.c rfl (o_pickO rfl rfl ?_)
      refine WL.nil ?_
      refine W.cond rfl (fun c44 => ?_) (fun c44 => ?_)
      · try simp only [decide_eq_true_eq, decide_eq_false_iff_not, Bool.not_eq_true', Bool.not_eq_false', Bool.and_eq_true, Bool.or_eq_true, Bool.and_eq_false_iff, Bool.or_eq_false_iff] at c44
        refine W.region ?_
        refine WL.c rfl (o_mv ?_)
        refine WL.c rfl (o_nil rfl ?_)
        refine WL.c rfl (o_fa 1 TI75 rfl TI3 rfl rfl ?_)
        refine WL.c rfl (o_ld TI3 rfl rfl (cell_of hcell rfl) ?_)
        refine WL.c rfl (o_bldC (cs := [(.int .i64 221), _]) TI31 (Sizes.cons TI29 (Sizes.cons TI3 Sizes.nil)) rfl (lcp (show _ = Value.int _ _ from rfl) (lcp (show _ = Value.int _ _ from rfl) lnp)) rfl rfl ?_)
        refine WL.c rfl (o_mkI TI31 rfl rfl ?_)
        refine WL.ux (ox_panic (show _ = Value.iface _ _ from rfl) ?_)
        exact ⟨_, _, by rw [rdN, if_pos (by omega), if_pos (by omega)], rfl, hxq⟩
      · try simp only [decide_eq_true_eq, decide_eq_false_iff_not, Bool.not_eq_true', Bool.not_eq_false', Bool.and_eq_true, Bool.or_eq_true, Bool.and_eq_false_iff, Bool.or_eq_false_iff] at c44
        refine W.skip ?_
        refine W.seq ?_
        refine W.region ?_
        refine WL.c rfl (o_mv ?_)
        refine WL.c rfl (o_nil rfl ?_)
        refine WL.c rfl (o_fa 1 TI75 rfl TI3 rfl rfl ?_)
        refine WL.c rfl (o_ld TI3 rfl rfl (cell_of hcell rfl) ?_)
        refine WL.c rfl (o_mv ?_)
        refine WL.c rfl (o_addi rfl rfl (by rw [← hr]; omega) ?_)
        refine WL.c rfl (o_nil rfl ?_)
        refine WL.c rfl (o_fa 1 TI75 rfl TI3 rfl rfl ?_)
        refine WL.u (o_stB TI3 rfl (show _ = Value.int _ _ from rfl) rfl hcell (show 1 < 2 by decide) ?_)
        intro w6 hB6 ho6 hs6
        refine WL.nil ?_
        refine W.seq ?_
        refine W.region ?_
        refine WL.c rfl (o_mv ?_)
        refine WL.c rfl (o_cvM TI68 TI3 rfl (by omega) ?_)
        refine WL.c rfl (o_as ?_)
        refine WL.nil ?_
        refine W.ret ?_
        refine ret1v rfl (show _ = Value.int _ _ from rfl) ?_
        refine ⟨_, _, by rw [rdN, if_pos (by omega), if_neg (by omega)], rfl, ⟨hB6, Sl.keep h1.by_ ho6 (fun b hb he => by subst he; rw [h1.off _ hb h1.hq]; rfl), h1.off, h1.hq, by rw [← hr]; omega, h1.small⟩, hxq.trans' ho6 (fun _ h => h.elim) (fun _ _ h => h)⟩
end Go.Proofs.Ytdiaeafjjffjmaa
