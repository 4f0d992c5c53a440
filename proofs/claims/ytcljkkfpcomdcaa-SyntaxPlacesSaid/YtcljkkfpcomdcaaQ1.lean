/-
  Walks. Written by program out of specs of mine.
-/
import Derived.Test.YtcljkkfpcomdcaaP
set_option linter.unusedSimpArgs false
set_option linter.unusedVariables false
set_option maxRecDepth 100000
namespace Go.Proofs.Ytcljkkfpcomdcaa
open Go Go.Vc Go.RowKit Go.Proofs

def opV2 (o : Opn) : List Value := [.int .i64 o.kind, .int .i64 o.left]
def opsQ (S : List Opn) : List Value := S.reverse.flatMap opV2
theorem opsQ_cons (o : Opn) (S : List Opn) : opsQ (o :: S) = opsQ S ++ opV2 o := by simp [opsQ]
theorem opsQ_len (S : List Opn) : (opsQ S).length = S.length * 2 := by
  induction S with
  | nil => rfl
  | cons o S ih => rw [opsQ_cons, List.length_append, ih, List.length_cons]; show _ + 2 = _; omega
theorem opsQ_get {o : Opn} {S : List Opn} {k : Nat} (v : Value) (h : (opV2 o)[k]? = some v) : (opsQ (o :: S))[S.length * 2 + k]? = some v := by
  rw [opsQ_cons, List.getElem?_append_right (by rw [opsQ_len]; omega), opsQ_len, Nat.add_sub_cancel_left, h]
theorem opsQ_take {o : Opn} {S : List Opn} : (opsQ (o :: S)).take (S.length * 2) = opsQ S := by
  rw [opsQ_cons]; exact List.take_left' (opsQ_len S)
theorem opsQ_set {o : Opn} {S : List Opn} {z : Int} : (opsQ (o :: S)).set (S.length * 2 + 1) (.int .i64 z) = opsQ ({ o with left := z } :: S) := by
  rw [opsQ_cons, opsQ_cons, List.set_append_right _ _ (by rw [opsQ_len]; omega), opsQ_len, Nat.add_sub_cancel_left]
  rfl
theorem leftB_z {o : Opn} {S : List Opn} (h : o.left = 0) : leftB (o :: S) = leftB S := by rw [leftB, List.any_cons, h]; rfl
theorem leftB_n {o : Opn} {S : List Opn} (h : ¬ o.left = 0) (h0 : 0 ≤ o.left) : leftB (o :: S) = true := by rw [leftB, List.any_cons, decide_eq_true (by omega)]; rfl

set_option maxHeartbeats 4000000 in
theorem nodes_spec (l : List Ex) (v : Value) (w0 : World) (hS : Sl w0 7 v l.length (exs l)) (hl : l.length ≤ 4611686018427387904) (hln : ∀ x ∈ l, x.name.length ≤ 9223372036854775807 ∧ x.label.length ≤ 9223372036854775807) : Ca Try.prog 28 #[v] w0 (fun r w' => r = .tuple #[.int .i64 ((chkT l).1 : Int), .int .i64 ((chkT l).2 : Int)] ∧ Ext w0 w') := by
  have hx : Ext w0 w0 := Only.refl _ _
  refine Ca.of Try.func28 Try.ntmps28 rfl rfl ?_
  refine W.seq ?_
  refine W.region ?_
  refine WL.c rfl (o_ash (show _ = Value.int _ _ from rfl) ?_)
  refine WL.c rfl (o_ash (show _ = Value.int _ _ from rfl) ?_)
  refine WL.nil ?_
  refine W.seq ?_
  refine W.region ?_
  refine WL.c rfl (o_bldC (cs := [(.int .i64 0), (.int .i64 1)]) TI101 (Sizes.cons TI3 (Sizes.cons TI3 Sizes.nil)) rfl (lcp (show _ = Value.int _ _ from rfl) (lcp (show _ = Value.int _ _ from rfl) lnp)) rfl rfl ?_)
  refine WL.c rfl (o_bs1 TI102 TI101 (show _ = Value.agg #[.int .i64 0, .int .i64 1] from rfl) (by decide) (by decide) rfl ?_)
  have hown : (w0.alloc (.cells (Value.agg #[.int .i64 0, .int .i64 1]).cells 101)).ownsRow w0.heap.size 101 2 (.slice (some ⟨w0.heap.size, 0, none⟩) 1 1) [(⟨0, 1, 0⟩ : Opn)].length (opsQ [⟨0, 1, 0⟩]) := own_new1 rfl
  replace hx : Ext w0 (w0.alloc (.cells (Value.agg #[.int .i64 0, .int .i64 1]).cells 101)) := Only.alloc w0 _
  generalize w0.alloc (.cells (Value.agg #[.int .i64 0, .int .i64 1]).cells 101) = w1 at *
  refine WL.c rfl (o_ash (by first | exact (show _ = Value.slice _ _ _ from rfl) | exact rfl) ?_)
  refine WL.nil ?_
  refine W.seq ?_
  refine W.region ?_
  refine WL.c rfl (o_ash (show _ = Value.int _ _ from rfl) ?_)
  refine WL.nil ?_
  refine W.block ?_
  refine W.loop (fun e w => ∃ (i : Nat) (S : List Opn) (sv : Value), i ≤ l.length ∧ e 0 = v ∧ e 4 = sv ∧ e 5 = .int .i64 (i : Int) ∧ w.ownsRow w0.heap.size 101 2 sv S.length (opsQ S) ∧ OkS S ∧ S.length ≤ 18 ∧ chkT l = chkE S i (l.drop i) ∧ Ext w0 w) (fun e w => l.length - (intOf (e 5)).toNat) ?_ ?_
  · refine ⟨0, [⟨0, 1, 0⟩], _, Nat.zero_le _, rfl, rfl, rfl, hown, ⟨rfl, by decide, by decide, trivial⟩, by decide, rfl, hx⟩
  rintro e w ⟨i, S0, sv0, hi, h0, h4, h5, hown, hok, hSl, hres, hx⟩
  have hm5 := h5
  refine W.seq ?_
  refine W.block ?_
  refine W.seq ?_
  refine W.block ?_
  refine W.loop (fun e w => ∃ (S : List Opn) (sv : Value), e 0 = v ∧ e 4 = sv ∧ e 5 = .int .i64 (i : Int) ∧ w.ownsRow w0.heap.size 101 2 sv S.length (opsQ S) ∧ OkS S ∧ S.length ≤ 18 ∧ popZ S0 = popZ S ∧ leftB S0 = leftB S ∧ Ext w0 w) (fun e w => slen (e 4)) ?_ ?_
  · exact ⟨S0, sv0, h0, h4, h5, hown, hok, hSl, rfl, rfl, hx⟩
  rintro e w ⟨S, sv, h0, h4, h5, hown, hok, hSl, hpz, hlb, hx⟩
  have hm4 := h4
  refine W.seq ?_
  refine W.seq ?_
  rcases S with _ | ⟨o, S⟩
  · skip
    skip
    refine W.region ?_
    refine WL.c rfl (o_mvh h4 ?_)
    refine WL.c rfl (o_lenR TI102 rfl (Sl.own hown) ?_)
    refine WL.c rfl (o_gt rfl rfl ?_)
    refine WL.c rfl (o_mvh (show _ = Value.bool _ from rfl) ?_)
    refine WL.s rfl (decide_eq_false (by simp)) rfl ?_
    refine WL.s rfl (decide_eq_false (by simp)) rfl ?_
    refine WL.s rfl (decide_eq_false (by simp)) rfl ?_
    refine WL.s rfl (decide_eq_false (by simp)) rfl ?_
    refine WL.s rfl (decide_eq_false (by simp)) rfl ?_
    refine WL.s rfl (decide_eq_false (by simp)) rfl ?_
    refine WL.s rfl (decide_eq_false (by simp)) rfl ?_
    refine WL.s rfl (decide_eq_false (by simp)) rfl ?_
    refine WL.c rfl (o_pickF rfl (decide_eq_false (by simp)) ?_)
    refine WL.nil ?_
    refine W.condF' rfl (rfl) ?_
    refine W.exit ?_
    refine W.seq ?_
    refine W.seq ?_
    refine W.region ?_
    refine WL.c rfl (o_mvh h4 ?_)
    refine WL.c rfl (o_lenR TI102 rfl (Sl.own hown) ?_)
    refine WL.c rfl (o_eq rfl rfl ?_)
    refine WL.c rfl (o_mvh (show _ = Value.bool _ from rfl) ?_)
    refine WL.g rfl (by simp) rfl (o_mvh h5 ?_)
    refine WL.g rfl (by simp) rfl (o_mvh h0 ?_)
    refine WL.g rfl (by simp) rfl (o_lenR TI38 rfl (hS.ext hx) ?_)
    refine WL.g rfl (by simp) rfl (o_eq rfl rfl ?_)
    refine WL.c rfl (o_pickA rfl rfl ?_)
    refine WL.nil ?_
    refine W.cond rfl (fun c38 => ?_) (fun c38 => ?_)
    · try simp only [decide_eq_true_eq, decide_eq_false_iff_not, Bool.not_eq_true', Bool.not_eq_false', Bool.and_eq_true, Bool.or_eq_true, Bool.and_eq_false_iff, Bool.or_eq_false_iff] at c38
      have hil : i = l.length := by simp at c38; omega
      rw [hil, List.drop_length, chkE_nil, hlb, if_neg (by simp [leftB])] at hres
      refine W.seq ?_
      refine W.region ?_
      refine WL.c rfl (o_ash (show _ = Value.int _ _ from rfl) ?_)
      refine WL.c rfl (o_ash (show _ = Value.int _ _ from rfl) ?_)
      refine WL.nil ?_
      refine W.ret ?_
      refine ret2v rfl (show _ = Value.int _ _ from rfl) (show _ = Value.int _ _ from rfl) ?_
      rw [hres]
      exact ⟨rfl, hx⟩
    · try simp only [decide_eq_true_eq, decide_eq_false_iff_not, Bool.not_eq_true', Bool.not_eq_false', Bool.and_eq_true, Bool.or_eq_true, Bool.and_eq_false_iff, Bool.or_eq_false_iff] at c38
      have hil : i < l.length := by simp at c38; omega
      have hlc : l.drop i = l[i] :: l.drop (i + 1) := (List.getElem_cons_drop hil).symm
      have h062 := hres.trans (by rw [hlc, chkE_z hpz])
      refine W.skip ?_
      refine W.seq ?_
      refine W.seq ?_
      refine W.region ?_
      refine WL.c rfl (o_mvh h4 ?_)
      refine WL.c rfl (o_lenR TI102 rfl (Sl.own hown) ?_)
      refine WL.c rfl (o_eq rfl rfl ?_)
      refine WL.c rfl (o_mvh (show _ = Value.bool _ from rfl) ?_)
      refine WL.s rfl (by simp) rfl ?_
      refine WL.s rfl (by simp) rfl ?_
      refine WL.s rfl (by simp) rfl ?_
      refine WL.s rfl (by simp) rfl ?_
      refine WL.c rfl (o_pickT rfl (by simp) ?_)
      refine WL.nil ?_
      refine W.condT' rfl (by simp) ?_
      refine W.seq ?_
      refine W.region ?_
      refine WL.c rfl (o_mvh h5 ?_)
      refine WL.c rfl (o_ash (show _ = Value.int _ _ from rfl) ?_)
      refine WL.c rfl (o_ash (show _ = Value.int _ _ from rfl) ?_)
      refine WL.nil ?_
      refine W.ret ?_
      refine ret2v rfl (show _ = Value.int _ _ from rfl) (show _ = Value.int _ _ from rfl) ?_
      rw [h062]
      exact ⟨rfl, hx⟩
  · skip
    replace hown : w.ownsRow w0.heap.size 101 2 sv (S.length + 1) (opsQ (o :: S)) := hown
    obtain ⟨g, cap, rfl, hgb⟩ := own_some hown (by omega)
    have hcap : S.length + 1 ≤ cap := by obtain ⟨_, _, hv, hh⟩ := own_form hown; cases hv; exact hh
    obtain ⟨hdp, hlo, hhi, hok2⟩ := OkS_cons.1 hok
    have hSl2 : S.length + 1 ≤ 18 := hSl
    refine W.region ?_
    refine WL.c rfl (o_mvh h4 ?_)
    refine WL.c rfl (o_lenR TI102 rfl (Sl.own hown) ?_)
    refine WL.c rfl (o_gt rfl rfl ?_)
    refine WL.c rfl (o_mvh (show _ = Value.bool _ from rfl) ?_)
    refine WL.g rfl (decide_eq_true (by omega)) rfl (o_mvh h4 ?_)
    refine WL.g rfl (decide_eq_true (by omega)) rfl (o_mvh h4 ?_)
    refine WL.g rfl (decide_eq_true (by omega)) rfl (o_lenR TI102 rfl (Sl.own hown) ?_)
    refine WL.g rfl (decide_eq_true (by omega)) rfl (o_subi rfl rfl (by omega) ?_)
    refine WL.g rfl (decide_eq_true (by omega)) rfl (o_ixB (i := S.length) TI102 TI101 rfl (by show Value.int .i64 _ = _; congr 1; omega) (by omega) ?_)
    refine WL.g rfl (decide_eq_true (by omega)) rfl (o_fa 1 TI101 rfl TI3 rfl rfl ?_)
    refine WL.g rfl (decide_eq_true (by omega)) rfl (o_ld TI3 rfl rfl (own_cell hown (j := 0 + S.length * 2 + 1) (by rw [Nat.zero_add]; exact opsQ_get _ rfl)) ?_)
    refine WL.g rfl (decide_eq_true (by omega)) rfl (o_eq rfl rfl ?_)
    refine WL.c rfl (o_pickA rfl rfl ?_)
    refine WL.nil ?_
    refine W.cond rfl (fun c24 => ?_) (fun c24 => ?_)
    · try simp only [decide_eq_true_eq, decide_eq_false_iff_not, Bool.not_eq_true', Bool.not_eq_false', Bool.and_eq_true, Bool.or_eq_true, Bool.and_eq_false_iff, Bool.or_eq_false_iff] at c24
      have hz : o.left = 0 := c24.2
      refine W.skip ?_
      refine W.block ?_
      refine W.region ?_
      refine WL.c rfl (o_mvh h4 ?_)
      refine WL.c rfl (o_mvh h4 ?_)
      refine WL.c rfl (o_lenR TI102 rfl (Sl.own hown) ?_)
      refine WL.c rfl (o_subi rfl rfl (by omega) ?_)
      refine WL.c rfl (o_slv (h := S.length) TI102 TI101 rfl Lo.n (Hi.s (by show Value.int .i64 _ = _; congr 1; omega)) (Nat.zero_le _) (by omega) ?_)
      rw [sliced0]
      have hown2 := own_take hown (m := S.length) (by omega)
      rw [opsQ_take] at hown2
      refine WL.c rfl (o_ash (by first | exact (show _ = Value.slice _ _ _ from rfl) | exact rfl) ?_)
      refine WL.nil ?_
      refine ⟨⟨S, _, h0, rfl, h5, hown2, hok.2.2.2, by omega, by rw [hpz, popZ_z hz], by rw [hlb, leftB_z hz], hx⟩, ?_⟩
      rw [hm4]; show S.length < S.length + 1; omega
    · try simp only [decide_eq_true_eq, decide_eq_false_iff_not, Bool.not_eq_true', Bool.not_eq_false', Bool.and_eq_true, Bool.or_eq_true, Bool.and_eq_false_iff, Bool.or_eq_false_iff] at c24
      have hz : ¬ o.left = 0 := fun hz => by rcases c24 with c | c; omega; exact c hz
      have hpz2 := hpz.trans (popZ_n hz)
      refine W.exit ?_
      refine W.seq ?_
      refine W.seq ?_
      refine W.region ?_
      refine WL.c rfl (o_mvh h4 ?_)
      refine WL.c rfl (o_lenR TI102 rfl (Sl.own hown) ?_)
      refine WL.c rfl (o_eq rfl rfl ?_)
      refine WL.c rfl (o_mvh (show _ = Value.bool _ from rfl) ?_)
      refine WL.s rfl (decide_eq_false (by omega)) rfl ?_
      refine WL.s rfl (decide_eq_false (by omega)) rfl ?_
      refine WL.s rfl (decide_eq_false (by omega)) rfl ?_
      refine WL.s rfl (decide_eq_false (by omega)) rfl ?_
      refine WL.c rfl (o_pickF rfl (decide_eq_false (by omega)) ?_)
      refine WL.nil ?_
      refine W.condF' rfl (rfl) ?_
      refine W.skip ?_
      refine W.seq ?_
      refine W.seq ?_
      refine W.region ?_
      refine WL.c rfl (o_mvh h4 ?_)
      refine WL.c rfl (o_lenR TI102 rfl (Sl.own hown) ?_)
      refine WL.c rfl (o_eq rfl rfl ?_)
      refine WL.c rfl (o_mvh (show _ = Value.bool _ from rfl) ?_)
      refine WL.g rfl (decide_eq_false (by omega)) rfl (o_mvh h5 ?_)
      refine WL.g rfl (decide_eq_false (by omega)) rfl (o_mvh h0 ?_)
      refine WL.g rfl (decide_eq_false (by omega)) rfl (o_lenR TI38 rfl (hS.ext hx) ?_)
      refine WL.g rfl (decide_eq_false (by omega)) rfl (o_eq rfl rfl ?_)
      refine WL.c rfl (o_pickO rfl rfl ?_)
      refine WL.nil ?_
      refine W.cond rfl (fun c47 => ?_) (fun c47 => ?_)
      · try simp only [decide_eq_true_eq, decide_eq_false_iff_not, Bool.not_eq_true', Bool.not_eq_false', Bool.and_eq_true, Bool.or_eq_true, Bool.and_eq_false_iff, Bool.or_eq_false_iff] at c47
        have hil : i = l.length := by simp at c47; omega
        rw [hil, List.drop_length, chkE_nil, hlb, leftB_n hz hlo, if_pos rfl] at hres
        refine W.seq ?_
        refine W.region ?_
        refine WL.c rfl (o_mvh h5 ?_)
        refine WL.c rfl (o_ash (show _ = Value.int _ _ from rfl) ?_)
        refine WL.c rfl (o_ash (show _ = Value.int _ _ from rfl) ?_)
        refine WL.nil ?_
        refine W.ret ?_
        refine ret2v rfl (show _ = Value.int _ _ from rfl) (show _ = Value.int _ _ from rfl) ?_
        rw [hres]
        exact ⟨by rw [hil]; rfl, hx⟩
      · try simp only [decide_eq_true_eq, decide_eq_false_iff_not, Bool.not_eq_true', Bool.not_eq_false', Bool.and_eq_true, Bool.or_eq_true, Bool.and_eq_false_iff, Bool.or_eq_false_iff] at c47
        have hil : i < l.length := by simp at c47; omega
        have hlc : l.drop i = l[i] :: l.drop (i + 1) := (List.getElem_cons_drop hil).symm
        have hres2 := hres.trans (by rw [hlc, chkE_o hpz2])
        obtain ⟨tb, to_, tc, hvv, htc⟩ := Sl.exq (hS.ext hx) hil
        refine W.skip ?_
        refine W.seq ?_
        refine W.region ?_
        refine WL.c rfl (o_mvh h0 ?_)
        refine WL.c rfl (o_mvh h5 ?_)
        refine WL.c rfl (o_ixB (i := i) TI38 TI30 (show _ = _ from hvv) rfl (by omega) ?_)
        refine WL.c rfl (o_ldA TI30 rfl rfl htc rfl ?_)
        refine WL.c rfl (o_alB TI30 ?_)
        intro w6 hC6 hx6 hs6
        refine WL.u (o_stA TI30 rfl (show _ = Value.agg (exV l[i]).toArray from rfl) rfl rfl hC6 rfl ?_)
        intro w7 hC7 ho7 hs7
        have hxb := Ext.own hx6 (Nat.le_refl _) ho7
        clear hC6 hx6 hs6 ho7 hs7 htc
        have hgw := (hown.lt g rfl).2
        have hgl := (hown.lt g rfl).1
        replace hown := own_ext hown hxb
        replace hx := hx.tr hxb
        obtain ⟨c6, hc6⟩ : ∃ c, c = w.heap.size := ⟨_, rfl⟩
        rw [← hc6] at hC7 ⊢
        have hcg : ¬ g = c6 := by omega
        refine WL.nil ?_
        refine W.seq ?_
        refine W.region ?_
        refine WL.c rfl (o_mvh h4 ?_)
        refine WL.c rfl (o_lenR TI102 rfl (Sl.own hown) ?_)
        refine WL.c rfl (o_subi rfl rfl (by omega) ?_)
        rw [show (((S.length + 1 : Nat) : Int) - 1) = (S.length : Int) by omega]
        refine WL.c rfl (o_ash (show _ = Value.int _ _ from rfl) ?_)
        refine WL.nil ?_
        refine W.seq ?_
        refine W.block ?_
        refine W.seq ?_
        refine W.region ?_
        refine WL.c rfl (o_mvh (show _ = Value.int _ _ from rfl) ?_)
        refine WL.c rfl (o_gt rfl rfl ?_)
        refine WL.c rfl (o_ash (show _ = Value.bool _ from rfl) ?_)
        refine WL.nil ?_
        refine W.cond rfl (fun c56 => ?_) (fun c56 => ?_)
        · try simp only [decide_eq_true_eq, decide_eq_false_iff_not, Bool.not_eq_true', Bool.not_eq_false', Bool.and_eq_true, Bool.or_eq_true, Bool.and_eq_false_iff, Bool.or_eq_false_iff] at c56
          have hdeep : 16 < o.deep := by omega
          rw [if_pos hdeep] at hres2
          refine W.seq ?_
          refine W.region ?_
          refine WL.c rfl (o_mvh h5 ?_)
          refine WL.c rfl (o_ash (show _ = Value.int _ _ from rfl) ?_)
          refine WL.c rfl (o_ash (show _ = Value.int _ _ from rfl) ?_)
          refine WL.nil ?_
          refine W.ret ?_
          refine ret2v rfl (show _ = Value.int _ _ from rfl) (show _ = Value.int _ _ from rfl) ?_
          rw [hres2]
          exact ⟨rfl, hx⟩
        · try simp only [decide_eq_true_eq, decide_eq_false_iff_not, Bool.not_eq_true', Bool.not_eq_false', Bool.and_eq_true, Bool.or_eq_true, Bool.and_eq_false_iff, Bool.or_eq_false_iff] at c56
          have hdeep : ¬ 16 < o.deep := by omega
          rw [if_neg hdeep] at hres2
          refine W.seq ?_
          refine W.seq ?_
          refine W.region ?_
          refine WL.c rfl (o_fa 0 TI30 rfl TI3 rfl rfl ?_)
          refine WL.c rfl (o_ld TI3 rfl rfl (cell_of hC7 rfl) ?_)
          refine WL.c rfl (o_eq rfl rfl ?_)
          refine WL.c rfl (o_mvh (show _ = Value.bool _ from rfl) ?_)
          refine WL.sp 3 rfl (fun g64 => ?_) (fun g64 => ?_)
          · skip
            refine WL.g rfl (g64) rfl (o_fa 5 TI30 rfl TI3 rfl rfl ?_)
            refine WL.g rfl (g64) rfl (o_ld TI3 rfl rfl (cell_of hC7 rfl) ?_)
            refine WL.g rfl (g64) rfl (o_gt rfl rfl ?_)
            refine WL.c rfl (o_pickA rfl rfl ?_)
            refine WL.c rfl (o_ash (show _ = Value.bool _ from rfl) ?_)
            refine WL.nil ?_
            refine W.cut (fun e1 w1 => e1 0 = v ∧ e1 4 = Value.slice (some ⟨g, 0, none⟩) (S.length + 1) cap ∧ e1 5 = .int .i64 (i : Int) ∧ e1 6 = .pointer (some ⟨c6, 0, none⟩) ∧ e1 7 = .int .i64 (S.length : Int) ∧ e1 60 = .bool (manyB l[i]) ∧ w1 = w7) ?_ ?_
            · -- both ways
              refine W.cond rfl (fun c60 => ?_) (fun c60 => ?_)
              · try simp only [decide_eq_true_eq, decide_eq_false_iff_not, Bool.not_eq_true', Bool.not_eq_false', Bool.and_eq_true, Bool.or_eq_true, Bool.and_eq_false_iff, Bool.or_eq_false_iff] at c60
                refine W.skip ?_
                exact ⟨h0, h4, h5, rfl, rfl, congrArg Value.bool (by rw [Bool.eq_iff_iff]; (try simp only [decide_eq_true_eq, decide_eq_false_iff_not] at g64); (try simp only [decide_eq_true_eq, decide_eq_false_iff_not] at g72); (try (cases c60; done)); all_goals simp only [manyB, Bool.or_eq_true, Bool.and_eq_true, decide_eq_true_eq, Bool.false_eq_true, false_iff]; all_goals omega), rfl⟩
              · try simp only [decide_eq_true_eq, decide_eq_false_iff_not, Bool.not_eq_true', Bool.not_eq_false', Bool.and_eq_true, Bool.or_eq_true, Bool.and_eq_false_iff, Bool.or_eq_false_iff] at c60
                refine W.region ?_
                refine WL.c rfl (o_fa 0 TI30 rfl TI3 rfl rfl ?_)
                refine WL.c rfl (o_ld TI3 rfl rfl (cell_of hC7 rfl) ?_)
                refine WL.c rfl (o_eq rfl rfl ?_)
                refine WL.c rfl (o_mvh (show _ = Value.bool _ from rfl) ?_)
                refine WL.sp 3 rfl (fun g72 => ?_) (fun g72 => ?_)
                · skip
                  refine WL.g rfl (g72) rfl (o_fa 5 TI30 rfl TI3 rfl rfl ?_)
                  refine WL.g rfl (g72) rfl (o_ld TI3 rfl rfl (cell_of hC7 rfl) ?_)
                  refine WL.g rfl (g72) rfl (o_gt rfl rfl ?_)
                  refine WL.c rfl (o_pickA rfl rfl ?_)
                  refine WL.c rfl (o_ash (show _ = Value.bool _ from rfl) ?_)
                  refine WL.nil ?_
                  exact ⟨h0, h4, h5, rfl, rfl, congrArg Value.bool (by rw [Bool.eq_iff_iff]; (try simp only [decide_eq_true_eq, decide_eq_false_iff_not] at g64); (try simp only [decide_eq_true_eq, decide_eq_false_iff_not] at g72); (try (cases c60; done)); all_goals simp only [manyB, Bool.or_eq_true, Bool.and_eq_true, decide_eq_true_eq, Bool.false_eq_true, false_iff]; all_goals omega), rfl⟩
                · skip
                  refine WL.s rfl (g72) rfl ?_
                  refine WL.s rfl (g72) rfl ?_
                  refine WL.s rfl (g72) rfl ?_
                  refine WL.c rfl (o_pickF rfl (g72) ?_)
                  refine WL.c rfl (o_ash (show _ = Value.bool _ from rfl) ?_)
                  refine WL.nil ?_
                  exact ⟨h0, h4, h5, rfl, rfl, congrArg Value.bool (by rw [Bool.eq_iff_iff]; (try simp only [decide_eq_true_eq, decide_eq_false_iff_not] at g64); (try simp only [decide_eq_true_eq, decide_eq_false_iff_not] at g72); (try (cases c60; done)); all_goals simp only [manyB, Bool.or_eq_true, Bool.and_eq_true, decide_eq_true_eq, Bool.false_eq_true, false_iff]; all_goals omega), rfl⟩
            rintro e w ⟨h0, h4, h5, h6, h7, h60, rfl⟩
            refine W.cond h60 (fun c60 => ?_) (fun c60 => ?_)
            · try simp only [decide_eq_true_eq, decide_eq_false_iff_not, Bool.not_eq_true', Bool.not_eq_false', Bool.and_eq_true, Bool.or_eq_true, Bool.and_eq_false_iff, Bool.or_eq_false_iff] at c60
              refine W.seq ?_
              have hmany : manyB l[i] = true := by simpa using c60
              rw [if_pos hmany] at hres2
              refine W.region ?_
              refine WL.c rfl (o_mvh h5 ?_)
              refine WL.c rfl (o_ash (show _ = Value.int _ _ from rfl) ?_)
              refine WL.c rfl (o_ash (show _ = Value.int _ _ from rfl) ?_)
              refine WL.nil ?_
              refine W.ret ?_
              refine ret2v rfl (show _ = Value.int _ _ from rfl) (show _ = Value.int _ _ from rfl) ?_
              rw [hres2]
              exact ⟨rfl, hx⟩
            · try simp only [decide_eq_true_eq, decide_eq_false_iff_not, Bool.not_eq_true', Bool.not_eq_false', Bool.and_eq_true, Bool.or_eq_true, Bool.and_eq_false_iff, Bool.or_eq_false_iff] at c60
              refine W.seq ?_
              cases hrgt : rgtB l[i]
              · skip
                skip
                have hmany : manyB l[i] = false := by simpa using c60
                rw [if_neg (by simp [hmany])] at hres2
                obtain ⟨wd, hwd⟩ : ∃ wd, wd = w.drew := ⟨_, rfl⟩
                have hxd : Ext w wd := hwd ▸ Only.drew w
                replace hown := own_ext hown hxd
                replace hC7 := hxd.blk hC7 (fun h => h)
                replace hx := hx.tr hxd
                refine W.draw (Ext) [(0, fun v _ => v = _), (4, fun v _ => v = _), (5, fun v _ => v = _), (6, fun v _ => v = _), (7, fun v _ => v = _)] rfl (by kernel_rfl) (Only.refl No) (fun _ _ _ h k => h.trans k) ⟨Mono.eq, Mono.eq, Mono.eq, Mono.eq, Mono.eq, trivial⟩ ⟨h0, h4, h5, h6, h7, trivial⟩ ?_
                refine WD.p rfl (fun e w hR hh => by obtain ⟨h6, -⟩ := hh; rw [← hwd] at hR; exact SG.n (o_ldA TI30 rfl h6 (show Cells w c6 0 (exV l[i]) from Cells.of (hR.blk hC7 (fun h => h)) 0 _ (by simp)) rfl ⟨rfl, Only.refl No _⟩)) ?_
                refine WD.p rfl (fun e w hR hh => by obtain ⟨h79, -⟩ := hh; exact SG.n (o_call Try.call52 (lc h79 ln) ((rright_spec l[i] _ (hln _ (List.getElem_mem hil)).1).mono (fun v w' h => h)))) ?_
                refine WD.p rfl (fun e w hR hh => by obtain ⟨h80, -⟩ := hh; exact SG.n (o_not' h80 ⟨rfl, Only.refl No _⟩)) ?_
                refine WD.p rfl (fun e w hR hh => by obtain ⟨h81, -⟩ := hh; exact SG.n (o_mvh h81 ⟨rfl, Only.refl No _⟩)) ?_
                refine WD.p rfl (fun e w hR hh => by obtain ⟨h82, h6, -⟩ := hh; rw [← hwd] at hR; exact SG.s h82 (by simp [hrgt]) ⟨rfl, Only.refl No _⟩) ?_
                refine WD.p rfl (fun e w hR hh => by obtain ⟨h82, h4, -⟩ := hh; exact SG.s h82 (by simp [hrgt]) ⟨rfl, Only.refl No _⟩) ?_
                refine WD.p rfl (fun e w hR hh => by obtain ⟨h82, h7, -⟩ := hh; exact SG.s h82 (by simp [hrgt]) ⟨rfl, Only.refl No _⟩) ?_
                refine WD.p rfl (fun e w hR hh => by obtain ⟨h85, h84, h82, -⟩ := hh; exact SG.s h82 (by simp [hrgt]) ⟨rfl, Only.refl No _⟩) ?_
                refine WD.p rfl (fun e w hR hh => by obtain ⟨h86, h82, -⟩ := hh; exact SG.s h82 (by simp [hrgt]) ⟨rfl, Only.refl No _⟩) ?_
                refine WD.p rfl (fun e w hR hh => by obtain ⟨h87, h82, -⟩ := hh; rw [← hwd] at hR; exact SG.s h82 (by simp [hrgt]) ⟨rfl, Only.refl No _⟩) ?_
                refine WD.p rfl (fun e w hR hh => by obtain ⟨h88, h83, h82, -⟩ := hh; exact SG.s h82 (by simp [hrgt]) ⟨rfl, Only.refl No _⟩) ?_
                refine WD.p rfl (fun e w hR hh => by obtain ⟨h89, h82, -⟩ := hh; exact SG.s h82 (by simp [hrgt]) ⟨rfl, Only.refl No _⟩) ?_
                refine WD.p rfl (fun e w hR hh => by obtain ⟨h90, h82, -⟩ := hh; exact SG.n (o_pickT h82 (by simp [hrgt]) ⟨rfl, Only.refl No _⟩)) ?_
                refine WD.p rfl (fun e w hR hh => by obtain ⟨h91, -⟩ := hh; exact SG.n (o_ash h91 ⟨rfl, Only.refl No _⟩)) ?_
                rintro e w hR ⟨h78, h91, h90, h89, h88, h87, h86, h85, h84, h83, h82, h81, h80, h79, h0, h4, h5, h6, h7, -⟩
                rw [← hwd] at hR
                replace hown := own_ext hown hR
                replace hC7 := hR.blk hC7 (fun h => h)
                replace hx := hx.tr hR
                refine W.condT' h78 (rfl) ?_
                refine W.seq ?_
                have hright : rightB l[i] o.kind = false := by rw [rightB_two, hrgt]; rfl
                rw [if_pos hright] at hres2
                refine W.region ?_
                refine WL.c rfl (o_mvh h5 ?_)
                refine WL.c rfl (o_ash (show _ = Value.int _ _ from rfl) ?_)
                refine WL.c rfl (o_ash (show _ = Value.int _ _ from rfl) ?_)
                refine WL.nil ?_
                refine W.ret ?_
                refine ret2v rfl (show _ = Value.int _ _ from rfl) (show _ = Value.int _ _ from rfl) ?_
                rw [hres2]
                exact ⟨rfl, hx⟩
              · skip
                skip
                have hmany : manyB l[i] = false := by simpa using c60
                rw [if_neg (by simp [hmany])] at hres2
                obtain ⟨wd, hwd⟩ : ∃ wd, wd = w.drew := ⟨_, rfl⟩
                have hxd : Ext w wd := hwd ▸ Only.drew w
                replace hown := own_ext hown hxd
                replace hC7 := hxd.blk hC7 (fun h => h)
                replace hx := hx.tr hxd
                refine W.draw (Ext) [(0, fun v _ => v = _), (4, fun v _ => v = _), (5, fun v _ => v = _), (6, fun v _ => v = _), (7, fun v _ => v = _)] rfl (by kernel_rfl) (Only.refl No) (fun _ _ _ h k => h.trans k) ⟨Mono.eq, Mono.eq, Mono.eq, Mono.eq, Mono.eq, trivial⟩ ⟨h0, h4, h5, h6, h7, trivial⟩ ?_
                refine WD.p rfl (fun e w hR hh => by obtain ⟨h6, -⟩ := hh; rw [← hwd] at hR; exact SG.n (o_ldA TI30 rfl h6 (show Cells w c6 0 (exV l[i]) from Cells.of (hR.blk hC7 (fun h => h)) 0 _ (by simp)) rfl ⟨rfl, Only.refl No _⟩)) ?_
                refine WD.p rfl (fun e w hR hh => by obtain ⟨h79, -⟩ := hh; exact SG.n (o_call Try.call52 (lc h79 ln) ((rright_spec l[i] _ (hln _ (List.getElem_mem hil)).1).mono (fun v w' h => h)))) ?_
                refine WD.p rfl (fun e w hR hh => by obtain ⟨h80, -⟩ := hh; exact SG.n (o_not' h80 ⟨rfl, Only.refl No _⟩)) ?_
                refine WD.p rfl (fun e w hR hh => by obtain ⟨h81, -⟩ := hh; exact SG.n (o_mvh h81 ⟨rfl, Only.refl No _⟩)) ?_
                refine WD.p rfl (fun e w hR hh => by obtain ⟨h82, h6, -⟩ := hh; rw [← hwd] at hR; exact SG.g h82 (by simp [hrgt]) (o_ldA TI30 rfl h6 (show Cells w c6 0 (exV l[i]) from Cells.of (hR.blk hC7 (fun h => h)) 0 _ (by simp)) rfl ⟨rfl, Only.refl No _⟩)) ?_
                refine WD.p rfl (fun e w hR hh => by obtain ⟨h82, h4, -⟩ := hh; exact SG.g h82 (by simp [hrgt]) (o_mvh h4 ⟨rfl, Only.refl No _⟩)) ?_
                refine WD.p rfl (fun e w hR hh => by obtain ⟨h82, h7, -⟩ := hh; exact SG.g h82 (by simp [hrgt]) (o_mvh h7 ⟨rfl, Only.refl No _⟩)) ?_
                refine WD.p rfl (fun e w hR hh => by obtain ⟨h85, h84, h82, -⟩ := hh; exact SG.g h82 (by simp [hrgt]) (o_ixB (i := S.length) TI102 TI101 h84 h85 (by omega) ⟨rfl, Only.refl No _⟩)) ?_
                refine WD.p rfl (fun e w hR hh => by obtain ⟨h86, h82, -⟩ := hh; exact SG.g h82 (by simp [hrgt]) (o_fa 0 TI101 rfl TI3 rfl h86 ⟨rfl, Only.refl No _⟩)) ?_
                refine WD.p rfl (fun e w hR hh => by obtain ⟨h87, h82, -⟩ := hh; rw [← hwd] at hR; exact SG.g h82 (by simp [hrgt]) (o_ld TI3 rfl h87 (own_cell (own_ext hown hR) (j := 0 + S.length * 2 + 0) (by rw [Nat.zero_add]; exact opsQ_get _ rfl)) ⟨rfl, Only.refl No _⟩)) ?_
                refine WD.p rfl (fun e w hR hh => by obtain ⟨h88, h83, h82, -⟩ := hh; exact SG.g h82 (by simp [hrgt]) (o_call Try.call53 (lc h83 (lc h88 ln)) ((placed_spec l[i] o.kind _ (hln _ (List.getElem_mem hil)).2).mono (fun v w' h => h)))) ?_
                refine WD.p rfl (fun e w hR hh => by obtain ⟨h89, h82, -⟩ := hh; exact SG.g h82 (by simp [hrgt]) (o_not' h89 ⟨rfl, Only.refl No _⟩)) ?_
                refine WD.p rfl (fun e w hR hh => by obtain ⟨h90, h82, -⟩ := hh; exact SG.n (o_pickO h82 h90 ⟨rfl, Only.refl No _⟩)) ?_
                refine WD.p rfl (fun e w hR hh => by obtain ⟨h91, -⟩ := hh; exact SG.n (o_ash h91 ⟨rfl, Only.refl No _⟩)) ?_
                rintro e w hR ⟨h78, h91, h90, h89, h88, h87, h86, h85, h84, h83, h82, h81, h80, h79, h0, h4, h5, h6, h7, -⟩
                rw [← hwd] at hR
                replace hown := own_ext hown hR
                replace hC7 := hR.blk hC7 (fun h => h)
                replace hx := hx.tr hR
                refine W.cond h78 (fun c78 => ?_) (fun c78 => ?_)
                · try simp only [decide_eq_true_eq, decide_eq_false_iff_not, Bool.not_eq_true', Bool.not_eq_false', Bool.and_eq_true, Bool.or_eq_true, Bool.and_eq_false_iff, Bool.or_eq_false_iff] at c78
                  have hright : rightB l[i] o.kind = false := by rw [rightB_two, hrgt]; simpa [hrgt] using c78
                  rw [if_pos hright] at hres2
                  refine W.seq ?_
                  refine W.region ?_
                  refine WL.c rfl (o_mvh h5 ?_)
                  refine WL.c rfl (o_ash (show _ = Value.int _ _ from rfl) ?_)
                  refine WL.c rfl (o_ash (show _ = Value.int _ _ from rfl) ?_)
                  refine WL.nil ?_
                  refine W.ret ?_
                  refine ret2v rfl (show _ = Value.int _ _ from rfl) (show _ = Value.int _ _ from rfl) ?_
                  rw [hres2]
                  exact ⟨rfl, hx⟩
                · try simp only [decide_eq_true_eq, decide_eq_false_iff_not, Bool.not_eq_true', Bool.not_eq_false', Bool.and_eq_true, Bool.or_eq_true, Bool.and_eq_false_iff, Bool.or_eq_false_iff] at c78
                  have hright : rightB l[i] o.kind = true := by rw [rightB_two, hrgt]; simpa [hrgt] using c78
                  rw [if_neg (by simp [hright])] at hres2
                  have hkd := rightB_kids hright hmany
                  refine W.skip ?_
                  refine W.seq ?_
                  refine W.region ?_
                  refine WL.c rfl (o_mvh h4 ?_)
                  refine WL.c rfl (o_mvh h7 ?_)
                  refine WL.c rfl (o_ixB (i := S.length) TI102 TI101 rfl rfl (by omega) ?_)
                  refine WL.c rfl (o_fa 1 TI101 rfl TI3 rfl rfl ?_)
                  refine WL.c rfl (o_ld TI3 rfl rfl (own_cell hown (j := 0 + S.length * 2 + 1) (by rw [Nat.zero_add]; exact opsQ_get _ rfl)) ?_)
                  refine WL.c rfl (o_subi rfl rfl (by omega) ?_)
                  refine WL.c rfl (o_ixB (i := S.length) TI102 TI101 rfl rfl (by omega) ?_)
                  refine WL.c rfl (o_fa 1 TI101 rfl TI3 rfl rfl ?_)
                  refine WL.u (o_stRj (i := S.length * 2 + 1) TI3 rfl (by omega) (show _ = Value.int .i64 (o.left - 1) from rfl) rfl hown rfl (by omega) ?_)
                  intro wA hown' hoA hsA
                  replace hown : wA.ownsRow w0.heap.size 101 2 (Value.slice (some ⟨g, 0, none⟩) (S.length + 1) cap) (S.length + 1) (opsQ ({ o with left := o.left - 1 } :: S)) := by rw [← opsQ_set]; exact hown'
                  clear hown'
                  replace hC7 := hoA.blk hC7 (fun hk => hcg (by simpa [Value.ownBlock] using hk))
                  replace hx := hx.trans' hoA (fun _ h => h) (fun k hk he => by have := ob he; omega)
                  have hok3 : OkS ({ o with left := o.left - 1 } :: S) := ⟨hdp, by show 0 ≤ o.left - 1; omega, by show o.left - 1 ≤ 64; omega, hok2⟩
                  refine WL.nil ?_
                  refine W.seq ?_
                  refine W.region ?_
                  refine WL.c rfl (o_fa 5 TI30 rfl TI3 rfl h6 ?_)
                  refine WL.c rfl (o_ld TI3 rfl rfl (cell_of hC7 rfl) ?_)
                  refine WL.c rfl (o_gt rfl rfl ?_)
                  refine WL.nil ?_
                  refine W.cond rfl (fun c103 => ?_) (fun c103 => ?_)
                  · try simp only [decide_eq_true_eq, decide_eq_false_iff_not, Bool.not_eq_true', Bool.not_eq_false', Bool.and_eq_true, Bool.or_eq_true, Bool.and_eq_false_iff, Bool.or_eq_false_iff] at c103
                    have hkp : 0 < l[i].kids := by omega
                    refine W.region ?_
                    refine WL.c rfl (o_mvh h4 ?_)
                    refine WL.c rfl (o_fa 0 TI30 rfl TI3 rfl h6 ?_)
                    refine WL.c rfl (o_ld TI3 rfl rfl (cell_of hC7 rfl) ?_)
                    refine WL.c rfl (o_fa 5 TI30 rfl TI3 rfl h6 ?_)
                    refine WL.c rfl (o_ld TI3 rfl rfl (cell_of hC7 rfl) ?_)
                    refine WL.c rfl (o_bldC (cs := [_, _]) TI101 (Sizes.cons TI3 (Sizes.cons TI3 Sizes.nil)) rfl (lcp (show _ = Value.int _ _ from rfl) (lcp (show _ = Value.int _ _ from rfl) lnp)) rfl rfl ?_)
                    refine WL.apO (w0.heap.size) rfl rfl TI102 TI101 rfl rfl hown (by decide) (by decide) rfl (fun a ha => List.all_eq_true.1 (show List.all _ (fun a => a.oneCell') = true from rfl) a ha) rfl (by rw [maxLen_eq]; omega) (by omega) hx.size ?_
                    intro v111 w111 hown111 ho111 hb111 _
                    have hrow : w111.ownsRow w0.heap.size 101 2 v111 (⟨l[i].kind, l[i].kids, o.deep + 1⟩ :: { o with left := o.left - 1 } :: S).length (opsQ (⟨l[i].kind, l[i].kids, o.deep + 1⟩ :: { o with left := o.left - 1 } :: S)) := by rw [opsQ_cons ⟨l[i].kind, l[i].kids, o.deep + 1⟩]; exact hown111
                    replace ho111 : Only (fun k => (Value.slice (some ⟨g, 0, none⟩) (S.length + 1) cap).ownBlock = some k) wA w111 := ho111
                    replace hx := hx.trans' ho111 (fun _ h => h) (fun k hk he => by have := ob he; omega)
                    have hokN : OkS (⟨l[i].kind, l[i].kids, o.deep + 1⟩ :: { o with left := o.left - 1 } :: S) := ⟨by simp only [List.length_cons]; omega, hkd.1, hkd.2, hok3⟩
                    refine WL.c rfl (o_ash (by first | exact (show _ = Value.slice _ _ _ from rfl) | exact rfl) ?_)
                    refine WL.nil ?_
                    refine W.region ?_
                    refine WL.c rfl (o_mvh h5 ?_)
                    refine WL.c rfl (o_addi rfl rfl (by omega) ?_)
                    refine WL.c rfl (o_ash (show _ = Value.int _ _ from rfl) ?_)
                    refine WL.nil ?_
                    refine ⟨⟨i + 1, _, _, by omega, h0, by first | exact h4 | exact rfl, rfl, hrow, hokN, by simp only [List.length_cons]; omega, ?_, hx⟩, ?_⟩
                    · rw [hres, hlc, chkE_o hpz2, if_neg hdeep, if_neg (by simp [hmany]), if_neg (by simp [hright])]
                      all_goals first | rfl | exact chkE_pz hkz
                    · show l.length - ((i : Int) + 1).toNat < _
                      rw [hm5]; simp [intOf]; omega
                  · try simp only [decide_eq_true_eq, decide_eq_false_iff_not, Bool.not_eq_true', Bool.not_eq_false', Bool.and_eq_true, Bool.or_eq_true, Bool.and_eq_false_iff, Bool.or_eq_false_iff] at c103
                    have hkz : l[i].kids = 0 := by omega
                    have hrow := hown
                    have hokN := hok3
                    refine W.skip ?_
                    refine W.region ?_
                    refine WL.c rfl (o_mvh h5 ?_)
                    refine WL.c rfl (o_addi rfl rfl (by omega) ?_)
                    refine WL.c rfl (o_ash (show _ = Value.int _ _ from rfl) ?_)
                    refine WL.nil ?_
                    refine ⟨⟨i + 1, _, _, by omega, h0, by first | exact h4 | exact rfl, rfl, hrow, hokN, by simp only [List.length_cons]; omega, ?_, hx⟩, ?_⟩
                    · rw [hres, hlc, chkE_o hpz2, if_neg hdeep, if_neg (by simp [hmany]), if_neg (by simp [hright])]
                      all_goals first | rfl | exact chkE_pz hkz
                    · show l.length - ((i : Int) + 1).toNat < _
                      rw [hm5]; simp [intOf]; omega
          · skip
            refine WL.s rfl (g64) rfl ?_
            refine WL.s rfl (g64) rfl ?_
            refine WL.s rfl (g64) rfl ?_
            refine WL.c rfl (o_pickF rfl (g64) ?_)
            refine WL.c rfl (o_ash (show _ = Value.bool _ from rfl) ?_)
            refine WL.nil ?_
            refine W.cut (fun e1 w1 => e1 0 = v ∧ e1 4 = Value.slice (some ⟨g, 0, none⟩) (S.length + 1) cap ∧ e1 5 = .int .i64 (i : Int) ∧ e1 6 = .pointer (some ⟨c6, 0, none⟩) ∧ e1 7 = .int .i64 (S.length : Int) ∧ e1 60 = .bool (manyB l[i]) ∧ w1 = w7) ?_ ?_
            · -- both ways
              refine W.cond rfl (fun c60 => ?_) (fun c60 => ?_)
              · try simp only [decide_eq_true_eq, decide_eq_false_iff_not, Bool.not_eq_true', Bool.not_eq_false', Bool.and_eq_true, Bool.or_eq_true, Bool.and_eq_false_iff, Bool.or_eq_false_iff] at c60
                refine W.skip ?_
                exact ⟨h0, h4, h5, rfl, rfl, congrArg Value.bool (by rw [Bool.eq_iff_iff]; (try simp only [decide_eq_true_eq, decide_eq_false_iff_not] at g64); (try simp only [decide_eq_true_eq, decide_eq_false_iff_not] at g72); (try (cases c60; done)); all_goals simp only [manyB, Bool.or_eq_true, Bool.and_eq_true, decide_eq_true_eq, Bool.false_eq_true, false_iff]; all_goals omega), rfl⟩
              · try simp only [decide_eq_true_eq, decide_eq_false_iff_not, Bool.not_eq_true', Bool.not_eq_false', Bool.and_eq_true, Bool.or_eq_true, Bool.and_eq_false_iff, Bool.or_eq_false_iff] at c60
                refine W.region ?_
                refine WL.c rfl (o_fa 0 TI30 rfl TI3 rfl rfl ?_)
                refine WL.c rfl (o_ld TI3 rfl rfl (cell_of hC7 rfl) ?_)
                refine WL.c rfl (o_eq rfl rfl ?_)
                refine WL.c rfl (o_mvh (show _ = Value.bool _ from rfl) ?_)
                refine WL.sp 3 rfl (fun g72 => ?_) (fun g72 => ?_)
                · skip
                  refine WL.g rfl (g72) rfl (o_fa 5 TI30 rfl TI3 rfl rfl ?_)
                  refine WL.g rfl (g72) rfl (o_ld TI3 rfl rfl (cell_of hC7 rfl) ?_)
                  refine WL.g rfl (g72) rfl (o_gt rfl rfl ?_)
                  refine WL.c rfl (o_pickA rfl rfl ?_)
                  refine WL.c rfl (o_ash (show _ = Value.bool _ from rfl) ?_)
                  refine WL.nil ?_
                  exact ⟨h0, h4, h5, rfl, rfl, congrArg Value.bool (by rw [Bool.eq_iff_iff]; (try simp only [decide_eq_true_eq, decide_eq_false_iff_not] at g64); (try simp only [decide_eq_true_eq, decide_eq_false_iff_not] at g72); (try (cases c60; done)); all_goals simp only [manyB, Bool.or_eq_true, Bool.and_eq_true, decide_eq_true_eq, Bool.false_eq_true, false_iff]; all_goals omega), rfl⟩
                · skip
                  refine WL.s rfl (g72) rfl ?_
                  refine WL.s rfl (g72) rfl ?_
                  refine WL.s rfl (g72) rfl ?_
                  refine WL.c rfl (o_pickF rfl (g72) ?_)
                  refine WL.c rfl (o_ash (show _ = Value.bool _ from rfl) ?_)
                  refine WL.nil ?_
                  exact ⟨h0, h4, h5, rfl, rfl, congrArg Value.bool (by rw [Bool.eq_iff_iff]; (try simp only [decide_eq_true_eq, decide_eq_false_iff_not] at g64); (try simp only [decide_eq_true_eq, decide_eq_false_iff_not] at g72); (try (cases c60; done)); all_goals simp only [manyB, Bool.or_eq_true, Bool.and_eq_true, decide_eq_true_eq, Bool.false_eq_true, false_iff]; all_goals omega), rfl⟩
            rintro e w ⟨h0, h4, h5, h6, h7, h60, rfl⟩
            refine W.cond h60 (fun c60 => ?_) (fun c60 => ?_)
            · try simp only [decide_eq_true_eq, decide_eq_false_iff_not, Bool.not_eq_true', Bool.not_eq_false', Bool.and_eq_true, Bool.or_eq_true, Bool.and_eq_false_iff, Bool.or_eq_false_iff] at c60
              refine W.seq ?_
              have hmany : manyB l[i] = true := by simpa using c60
              rw [if_pos hmany] at hres2
              refine W.region ?_
              refine WL.c rfl (o_mvh h5 ?_)
              refine WL.c rfl (o_ash (show _ = Value.int _ _ from rfl) ?_)
              refine WL.c rfl (o_ash (show _ = Value.int _ _ from rfl) ?_)
              refine WL.nil ?_
              refine W.ret ?_
              refine ret2v rfl (show _ = Value.int _ _ from rfl) (show _ = Value.int _ _ from rfl) ?_
              rw [hres2]
              exact ⟨rfl, hx⟩
            · try simp only [decide_eq_true_eq, decide_eq_false_iff_not, Bool.not_eq_true', Bool.not_eq_false', Bool.and_eq_true, Bool.or_eq_true, Bool.and_eq_false_iff, Bool.or_eq_false_iff] at c60
              refine W.seq ?_
              cases hrgt : rgtB l[i]
              · skip
                skip
                have hmany : manyB l[i] = false := by simpa using c60
                rw [if_neg (by simp [hmany])] at hres2
                obtain ⟨wd, hwd⟩ : ∃ wd, wd = w.drew := ⟨_, rfl⟩
                have hxd : Ext w wd := hwd ▸ Only.drew w
                replace hown := own_ext hown hxd
                replace hC7 := hxd.blk hC7 (fun h => h)
                replace hx := hx.tr hxd
                refine W.draw (Ext) [(0, fun v _ => v = _), (4, fun v _ => v = _), (5, fun v _ => v = _), (6, fun v _ => v = _), (7, fun v _ => v = _)] rfl (by kernel_rfl) (Only.refl No) (fun _ _ _ h k => h.trans k) ⟨Mono.eq, Mono.eq, Mono.eq, Mono.eq, Mono.eq, trivial⟩ ⟨h0, h4, h5, h6, h7, trivial⟩ ?_
                refine WD.p rfl (fun e w hR hh => by obtain ⟨h6, -⟩ := hh; rw [← hwd] at hR; exact SG.n (o_ldA TI30 rfl h6 (show Cells w c6 0 (exV l[i]) from Cells.of (hR.blk hC7 (fun h => h)) 0 _ (by simp)) rfl ⟨rfl, Only.refl No _⟩)) ?_
                refine WD.p rfl (fun e w hR hh => by obtain ⟨h79, -⟩ := hh; exact SG.n (o_call Try.call52 (lc h79 ln) ((rright_spec l[i] _ (hln _ (List.getElem_mem hil)).1).mono (fun v w' h => h)))) ?_
                refine WD.p rfl (fun e w hR hh => by obtain ⟨h80, -⟩ := hh; exact SG.n (o_not' h80 ⟨rfl, Only.refl No _⟩)) ?_
                refine WD.p rfl (fun e w hR hh => by obtain ⟨h81, -⟩ := hh; exact SG.n (o_mvh h81 ⟨rfl, Only.refl No _⟩)) ?_
                refine WD.p rfl (fun e w hR hh => by obtain ⟨h82, h6, -⟩ := hh; rw [← hwd] at hR; exact SG.s h82 (by simp [hrgt]) ⟨rfl, Only.refl No _⟩) ?_
                refine WD.p rfl (fun e w hR hh => by obtain ⟨h82, h4, -⟩ := hh; exact SG.s h82 (by simp [hrgt]) ⟨rfl, Only.refl No _⟩) ?_
                refine WD.p rfl (fun e w hR hh => by obtain ⟨h82, h7, -⟩ := hh; exact SG.s h82 (by simp [hrgt]) ⟨rfl, Only.refl No _⟩) ?_
                refine WD.p rfl (fun e w hR hh => by obtain ⟨h85, h84, h82, -⟩ := hh; exact SG.s h82 (by simp [hrgt]) ⟨rfl, Only.refl No _⟩) ?_
                refine WD.p rfl (fun e w hR hh => by obtain ⟨h86, h82, -⟩ := hh; exact SG.s h82 (by simp [hrgt]) ⟨rfl, Only.refl No _⟩) ?_
                refine WD.p rfl (fun e w hR hh => by obtain ⟨h87, h82, -⟩ := hh; rw [← hwd] at hR; exact SG.s h82 (by simp [hrgt]) ⟨rfl, Only.refl No _⟩) ?_
                refine WD.p rfl (fun e w hR hh => by obtain ⟨h88, h83, h82, -⟩ := hh; exact SG.s h82 (by simp [hrgt]) ⟨rfl, Only.refl No _⟩) ?_
                refine WD.p rfl (fun e w hR hh => by obtain ⟨h89, h82, -⟩ := hh; exact SG.s h82 (by simp [hrgt]) ⟨rfl, Only.refl No _⟩) ?_
                refine WD.p rfl (fun e w hR hh => by obtain ⟨h90, h82, -⟩ := hh; exact SG.n (o_pickT h82 (by simp [hrgt]) ⟨rfl, Only.refl No _⟩)) ?_
                refine WD.p rfl (fun e w hR hh => by obtain ⟨h91, -⟩ := hh; exact SG.n (o_ash h91 ⟨rfl, Only.refl No _⟩)) ?_
                rintro e w hR ⟨h78, h91, h90, h89, h88, h87, h86, h85, h84, h83, h82, h81, h80, h79, h0, h4, h5, h6, h7, -⟩
                rw [← hwd] at hR
                replace hown := own_ext hown hR
                replace hC7 := hR.blk hC7 (fun h => h)
                replace hx := hx.tr hR
                refine W.condT' h78 (rfl) ?_
                refine W.seq ?_
                have hright : rightB l[i] o.kind = false := by rw [rightB_two, hrgt]; rfl
                rw [if_pos hright] at hres2
                refine W.region ?_
                refine WL.c rfl (o_mvh h5 ?_)
                refine WL.c rfl (o_ash (show _ = Value.int _ _ from rfl) ?_)
                refine WL.c rfl (o_ash (show _ = Value.int _ _ from rfl) ?_)
                refine WL.nil ?_
                refine W.ret ?_
                refine ret2v rfl (show _ = Value.int _ _ from rfl) (show _ = Value.int _ _ from rfl) ?_
                rw [hres2]
                exact ⟨rfl, hx⟩
              · skip
                skip
                have hmany : manyB l[i] = false := by simpa using c60
                rw [if_neg (by simp [hmany])] at hres2
                obtain ⟨wd, hwd⟩ : ∃ wd, wd = w.drew := ⟨_, rfl⟩
                have hxd : Ext w wd := hwd ▸ Only.drew w
                replace hown := own_ext hown hxd
                replace hC7 := hxd.blk hC7 (fun h => h)
                replace hx := hx.tr hxd
                refine W.draw (Ext) [(0, fun v _ => v = _), (4, fun v _ => v = _), (5, fun v _ => v = _), (6, fun v _ => v = _), (7, fun v _ => v = _)] rfl (by kernel_rfl) (Only.refl No) (fun _ _ _ h k => h.trans k) ⟨Mono.eq, Mono.eq, Mono.eq, Mono.eq, Mono.eq, trivial⟩ ⟨h0, h4, h5, h6, h7, trivial⟩ ?_
                refine WD.p rfl (fun e w hR hh => by obtain ⟨h6, -⟩ := hh; rw [← hwd] at hR; exact SG.n (o_ldA TI30 rfl h6 (show Cells w c6 0 (exV l[i]) from Cells.of (hR.blk hC7 (fun h => h)) 0 _ (by simp)) rfl ⟨rfl, Only.refl No _⟩)) ?_
                refine WD.p rfl (fun e w hR hh => by obtain ⟨h79, -⟩ := hh; exact SG.n (o_call Try.call52 (lc h79 ln) ((rright_spec l[i] _ (hln _ (List.getElem_mem hil)).1).mono (fun v w' h => h)))) ?_
                refine WD.p rfl (fun e w hR hh => by obtain ⟨h80, -⟩ := hh; exact SG.n (o_not' h80 ⟨rfl, Only.refl No _⟩)) ?_
                refine WD.p rfl (fun e w hR hh => by obtain ⟨h81, -⟩ := hh; exact SG.n (o_mvh h81 ⟨rfl, Only.refl No _⟩)) ?_
                refine WD.p rfl (fun e w hR hh => by obtain ⟨h82, h6, -⟩ := hh; rw [← hwd] at hR; exact SG.g h82 (by simp [hrgt]) (o_ldA TI30 rfl h6 (show Cells w c6 0 (exV l[i]) from Cells.of (hR.blk hC7 (fun h => h)) 0 _ (by simp)) rfl ⟨rfl, Only.refl No _⟩)) ?_
                refine WD.p rfl (fun e w hR hh => by obtain ⟨h82, h4, -⟩ := hh; exact SG.g h82 (by simp [hrgt]) (o_mvh h4 ⟨rfl, Only.refl No _⟩)) ?_
                refine WD.p rfl (fun e w hR hh => by obtain ⟨h82, h7, -⟩ := hh; exact SG.g h82 (by simp [hrgt]) (o_mvh h7 ⟨rfl, Only.refl No _⟩)) ?_
                refine WD.p rfl (fun e w hR hh => by obtain ⟨h85, h84, h82, -⟩ := hh; exact SG.g h82 (by simp [hrgt]) (o_ixB (i := S.length) TI102 TI101 h84 h85 (by omega) ⟨rfl, Only.refl No _⟩)) ?_
                refine WD.p rfl (fun e w hR hh => by obtain ⟨h86, h82, -⟩ := hh; exact SG.g h82 (by simp [hrgt]) (o_fa 0 TI101 rfl TI3 rfl h86 ⟨rfl, Only.refl No _⟩)) ?_
                refine WD.p rfl (fun e w hR hh => by obtain ⟨h87, h82, -⟩ := hh; rw [← hwd] at hR; exact SG.g h82 (by simp [hrgt]) (o_ld TI3 rfl h87 (own_cell (own_ext hown hR) (j := 0 + S.length * 2 + 0) (by rw [Nat.zero_add]; exact opsQ_get _ rfl)) ⟨rfl, Only.refl No _⟩)) ?_
                refine WD.p rfl (fun e w hR hh => by obtain ⟨h88, h83, h82, -⟩ := hh; exact SG.g h82 (by simp [hrgt]) (o_call Try.call53 (lc h83 (lc h88 ln)) ((placed_spec l[i] o.kind _ (hln _ (List.getElem_mem hil)).2).mono (fun v w' h => h)))) ?_
                refine WD.p rfl (fun e w hR hh => by obtain ⟨h89, h82, -⟩ := hh; exact SG.g h82 (by simp [hrgt]) (o_not' h89 ⟨rfl, Only.refl No _⟩)) ?_
                refine WD.p rfl (fun e w hR hh => by obtain ⟨h90, h82, -⟩ := hh; exact SG.n (o_pickO h82 h90 ⟨rfl, Only.refl No _⟩)) ?_
                refine WD.p rfl (fun e w hR hh => by obtain ⟨h91, -⟩ := hh; exact SG.n (o_ash h91 ⟨rfl, Only.refl No _⟩)) ?_
                rintro e w hR ⟨h78, h91, h90, h89, h88, h87, h86, h85, h84, h83, h82, h81, h80, h79, h0, h4, h5, h6, h7, -⟩
                rw [← hwd] at hR
                replace hown := own_ext hown hR
                replace hC7 := hR.blk hC7 (fun h => h)
                replace hx := hx.tr hR
                refine W.cond h78 (fun c78 => ?_) (fun c78 => ?_)
                · try simp only [decide_eq_true_eq, decide_eq_false_iff_not, Bool.not_eq_true', Bool.not_eq_false', Bool.and_eq_true, Bool.or_eq_true, Bool.and_eq_false_iff, Bool.or_eq_false_iff] at c78
                  have hright : rightB l[i] o.kind = false := by rw [rightB_two, hrgt]; simpa [hrgt] using c78
                  rw [if_pos hright] at hres2
                  refine W.seq ?_
                  refine W.region ?_
                  refine WL.c rfl (o_mvh h5 ?_)
                  refine WL.c rfl (o_ash (show _ = Value.int _ _ from rfl) ?_)
                  refine WL.c rfl (o_ash (show _ = Value.int _ _ from rfl) ?_)
                  refine WL.nil ?_
                  refine W.ret ?_
                  refine ret2v rfl (show _ = Value.int _ _ from rfl) (show _ = Value.int _ _ from rfl) ?_
                  rw [hres2]
                  exact ⟨rfl, hx⟩
                · try simp only [decide_eq_true_eq, decide_eq_false_iff_not, Bool.not_eq_true', Bool.not_eq_false', Bool.and_eq_true, Bool.or_eq_true, Bool.and_eq_false_iff, Bool.or_eq_false_iff] at c78
                  have hright : rightB l[i] o.kind = true := by rw [rightB_two, hrgt]; simpa [hrgt] using c78
                  rw [if_neg (by simp [hright])] at hres2
                  have hkd := rightB_kids hright hmany
                  refine W.skip ?_
                  refine W.seq ?_
                  refine W.region ?_
                  refine WL.c rfl (o_mvh h4 ?_)
                  refine WL.c rfl (o_mvh h7 ?_)
                  refine WL.c rfl (o_ixB (i := S.length) TI102 TI101 rfl rfl (by omega) ?_)
                  refine WL.c rfl (o_fa 1 TI101 rfl TI3 rfl rfl ?_)
                  refine WL.c rfl (o_ld TI3 rfl rfl (own_cell hown (j := 0 + S.length * 2 + 1) (by rw [Nat.zero_add]; exact opsQ_get _ rfl)) ?_)
                  refine WL.c rfl (o_subi rfl rfl (by omega) ?_)
                  refine WL.c rfl (o_ixB (i := S.length) TI102 TI101 rfl rfl (by omega) ?_)
                  refine WL.c rfl (o_fa 1 TI101 rfl TI3 rfl rfl ?_)
                  refine WL.u (o_stRj (i := S.length * 2 + 1) TI3 rfl (by omega) (show _ = Value.int .i64 (o.left - 1) from rfl) rfl hown rfl (by omega) ?_)
                  intro wA hown' hoA hsA
                  replace hown : wA.ownsRow w0.heap.size 101 2 (Value.slice (some ⟨g, 0, none⟩) (S.length + 1) cap) (S.length + 1) (opsQ ({ o with left := o.left - 1 } :: S)) := by rw [← opsQ_set]; exact hown'
                  clear hown'
                  replace hC7 := hoA.blk hC7 (fun hk => hcg (by simpa [Value.ownBlock] using hk))
                  replace hx := hx.trans' hoA (fun _ h => h) (fun k hk he => by have := ob he; omega)
                  have hok3 : OkS ({ o with left := o.left - 1 } :: S) := ⟨hdp, by show 0 ≤ o.left - 1; omega, by show o.left - 1 ≤ 64; omega, hok2⟩
                  refine WL.nil ?_
                  refine W.seq ?_
                  refine W.region ?_
                  refine WL.c rfl (o_fa 5 TI30 rfl TI3 rfl h6 ?_)
                  refine WL.c rfl (o_ld TI3 rfl rfl (cell_of hC7 rfl) ?_)
                  refine WL.c rfl (o_gt rfl rfl ?_)
                  refine WL.nil ?_
                  refine W.cond rfl (fun c103 => ?_) (fun c103 => ?_)
                  · try simp only [decide_eq_true_eq, decide_eq_false_iff_not, Bool.not_eq_true', Bool.not_eq_false', Bool.and_eq_true, Bool.or_eq_true, Bool.and_eq_false_iff, Bool.or_eq_false_iff] at c103
                    have hkp : 0 < l[i].kids := by omega
                    refine W.region ?_
                    refine WL.c rfl (o_mvh h4 ?_)
                    refine WL.c rfl (o_fa 0 TI30 rfl TI3 rfl h6 ?_)
                    refine WL.c rfl (o_ld TI3 rfl rfl (cell_of hC7 rfl) ?_)
                    refine WL.c rfl (o_fa 5 TI30 rfl TI3 rfl h6 ?_)
                    refine WL.c rfl (o_ld TI3 rfl rfl (cell_of hC7 rfl) ?_)
                    refine WL.c rfl (o_bldC (cs := [_, _]) TI101 (Sizes.cons TI3 (Sizes.cons TI3 Sizes.nil)) rfl (lcp (show _ = Value.int _ _ from rfl) (lcp (show _ = Value.int _ _ from rfl) lnp)) rfl rfl ?_)
                    refine WL.apO (w0.heap.size) rfl rfl TI102 TI101 rfl rfl hown (by decide) (by decide) rfl (fun a ha => List.all_eq_true.1 (show List.all _ (fun a => a.oneCell') = true from rfl) a ha) rfl (by rw [maxLen_eq]; omega) (by omega) hx.size ?_
                    intro v111 w111 hown111 ho111 hb111 _
                    have hrow : w111.ownsRow w0.heap.size 101 2 v111 (⟨l[i].kind, l[i].kids, o.deep + 1⟩ :: { o with left := o.left - 1 } :: S).length (opsQ (⟨l[i].kind, l[i].kids, o.deep + 1⟩ :: { o with left := o.left - 1 } :: S)) := by rw [opsQ_cons ⟨l[i].kind, l[i].kids, o.deep + 1⟩]; exact hown111
                    replace ho111 : Only (fun k => (Value.slice (some ⟨g, 0, none⟩) (S.length + 1) cap).ownBlock = some k) wA w111 := ho111
                    replace hx := hx.trans' ho111 (fun _ h => h) (fun k hk he => by have := ob he; omega)
                    have hokN : OkS (⟨l[i].kind, l[i].kids, o.deep + 1⟩ :: { o with left := o.left - 1 } :: S) := ⟨by simp only [List.length_cons]; omega, hkd.1, hkd.2, hok3⟩
                    refine WL.c rfl (o_ash (by first | exact (show _ = Value.slice _ _ _ from rfl) | exact rfl) ?_)
                    refine WL.nil ?_
                    refine W.region ?_
                    refine WL.c rfl (o_mvh h5 ?_)
                    refine WL.c rfl (o_addi rfl rfl (by omega) ?_)
                    refine WL.c rfl (o_ash (show _ = Value.int _ _ from rfl) ?_)
                    refine WL.nil ?_
                    refine ⟨⟨i + 1, _, _, by omega, h0, by first | exact h4 | exact rfl, rfl, hrow, hokN, by simp only [List.length_cons]; omega, ?_, hx⟩, ?_⟩
                    · rw [hres, hlc, chkE_o hpz2, if_neg hdeep, if_neg (by simp [hmany]), if_neg (by simp [hright])]
                      all_goals first | rfl | exact chkE_pz hkz
                    · show l.length - ((i : Int) + 1).toNat < _
                      rw [hm5]; simp [intOf]; omega
                  · try simp only [decide_eq_true_eq, decide_eq_false_iff_not, Bool.not_eq_true', Bool.not_eq_false', Bool.and_eq_true, Bool.or_eq_true, Bool.and_eq_false_iff, Bool.or_eq_false_iff] at c103
                    have hkz : l[i].kids = 0 := by omega
                    have hrow := hown
                    have hokN := hok3
                    refine W.skip ?_
                    refine W.region ?_
                    refine WL.c rfl (o_mvh h5 ?_)
                    refine WL.c rfl (o_addi rfl rfl (by omega) ?_)
                    refine WL.c rfl (o_ash (show _ = Value.int _ _ from rfl) ?_)
                    refine WL.nil ?_
                    refine ⟨⟨i + 1, _, _, by omega, h0, by first | exact h4 | exact rfl, rfl, hrow, hokN, by simp only [List.length_cons]; omega, ?_, hx⟩, ?_⟩
                    · rw [hres, hlc, chkE_o hpz2, if_neg hdeep, if_neg (by simp [hmany]), if_neg (by simp [hright])]
                      all_goals first | rfl | exact chkE_pz hkz
                    · show l.length - ((i : Int) + 1).toNat < _
                      rw [hm5]; simp [intOf]; omega
set_option maxHeartbeats 2000000 in
theorem rcheck_spec (D : List Df) (dv : Value) (V : Nat → Value) (w0 : World) (hD : DefR w0 D dv V) (hlim : DLim D) : Ca Try.prog 15 #[.agg #[dv]] w0 (fun r w' => r = rs3 (chkS D) ∧ Ext w0 w') := by
  refine Ca.of Try.func15 Try.ntmps15 rfl rfl ?_
  refine W.seq ?_
  refine W.region ?_
  refine WL.c rfl (o_boxB rfl ?_)
  intro w1 hC1 hx1 hs1
  have hx := hx1
  replace hC1 : w1.heap[w0.heap.size]? = some (.cells #[dv] 28 (0, 0)) := hC1
  obtain ⟨c1, hc1⟩ : ∃ c, c = w0.heap.size := ⟨_, rfl⟩
  rw [← hc1] at hC1 ⊢
  replace hD := hD.ext hx1
  refine WL.c rfl (o_ash (show _ = Value.int _ _ from rfl) ?_)
  refine WL.c rfl (o_ash (show _ = Value.int _ _ from rfl) ?_)
  refine WL.c rfl (o_ash (show _ = Value.int _ _ from rfl) ?_)
  refine WL.nil ?_
  refine W.seq ?_
  refine W.seq ?_
  refine W.region ?_
  refine WL.c rfl (o_fa 0 TI28 rfl TI26 rfl rfl ?_)
  refine WL.c rfl (o_ld TI26 rfl rfl (cell_of hC1 rfl) ?_)
  refine WL.c rfl (o_lenR TI26 rfl hD.row ?_)
  refine WL.c rfl (o_gt rfl rfl ?_)
  refine WL.nil ?_
  refine W.cond rfl (fun c11 => ?_) (fun c11 => ?_)
  · try simp only [decide_eq_true_eq, decide_eq_false_iff_not, Bool.not_eq_true', Bool.not_eq_false', Bool.and_eq_true, Bool.or_eq_true, Bool.and_eq_false_iff, Bool.or_eq_false_iff] at c11
    have hn : 256 < D.length := by omega
    refine W.seq ?_
    refine W.region ?_
    refine WL.c rfl (o_ash (show _ = Value.int _ _ from rfl) ?_)
    refine WL.c rfl (o_ash (show _ = Value.int _ _ from rfl) ?_)
    refine WL.c rfl (o_ash (show _ = Value.int _ _ from rfl) ?_)
    refine WL.nil ?_
    refine W.ret ?_
    refine ret3v rfl (show _ = Value.int _ _ from rfl) (show _ = Value.int _ _ from rfl) (show _ = Value.int _ _ from rfl) ?_
    exact ⟨by rw [chkS, if_pos hn]; rfl, hx⟩
  · try simp only [decide_eq_true_eq, decide_eq_false_iff_not, Bool.not_eq_true', Bool.not_eq_false', Bool.and_eq_true, Bool.or_eq_true, Bool.and_eq_false_iff, Bool.or_eq_false_iff] at c11
    have hn : ¬ 256 < D.length := by omega
    refine W.skip ?_
    refine W.seq ?_
    refine W.seq ?_
    refine W.region ?_
    refine WL.c rfl (o_ash (show _ = Value.int _ _ from rfl) ?_)
    refine WL.nil ?_
    refine W.block ?_
    refine W.loop (fun e w => ∃ i : Nat, i ≤ D.length ∧ e 1 = .pointer (some ⟨c1, 0, none⟩) ∧ e 5 = .int .i64 (i : Int) ∧ w.heap[c1]? = some (.cells #[dv] 28 (0, 0)) ∧ chkS D = chkA i (D.drop i) ∧ DefR w D dv V ∧ Ext w0 w) (fun e w => D.length - (intOf (e 5)).toNat) ?_ ?_
    · exact ⟨0, Nat.zero_le _, rfl, rfl, hC1, by rw [chkS, if_neg hn]; rfl, hD, hx⟩
    rintro e w ⟨i, hi, h1, h5, hC1, hres, hD, hx⟩
    have hm5 := h5
    refine W.seq ?_
    refine W.seq ?_
    refine W.region ?_
    refine WL.c rfl (o_mvh h5 ?_)
    refine WL.c rfl (o_fa 0 TI28 rfl TI26 rfl h1 ?_)
    refine WL.c rfl (o_ld TI26 rfl rfl (cell_of hC1 rfl) ?_)
    refine WL.c rfl (o_lenR TI26 rfl hD.row ?_)
    refine WL.c rfl (o_lt rfl rfl ?_)
    refine WL.nil ?_
    refine W.cond rfl (fun c16 => ?_) (fun c16 => ?_)
    · try simp only [decide_eq_true_eq, decide_eq_false_iff_not, Bool.not_eq_true', Bool.not_eq_false', Bool.and_eq_true, Bool.or_eq_true, Bool.and_eq_false_iff, Bool.or_eq_false_iff] at c16
      have hil : i < D.length := by omega
      obtain ⟨tb, to_, tc, rfl, htc, hty⟩ := hD.atk hil
      have hdr : D.drop i = D[i] :: D.drop (i + 1) := (List.getElem_cons_drop hil).symm
      have hli := hlim _ (List.getElem_mem hil)
      refine W.skip ?_
      refine W.seq ?_
      refine W.block ?_
      refine W.seq ?_
      refine W.seq ?_
      refine W.region ?_
      refine WL.c rfl (o_fa 0 TI28 rfl TI26 rfl h1 ?_)
      refine WL.c rfl (o_ld TI26 rfl rfl (cell_of hC1 rfl) ?_)
      refine WL.c rfl (o_mvh h5 ?_)
      refine WL.c rfl (o_ixB TI26 TI40 rfl rfl (by omega) ?_)
      refine WL.c rfl (o_fa 0 TI40 rfl TI9 rfl rfl ?_)
      refine WL.c rfl (o_ld TI9 rfl rfl (htc 0 _ rfl) ?_)
      refine WL.c rfl (o_call Try.call27 (lc rfl ln) ((rname_spec D[i].name _ hli.1).mono ?_))
      rintro v25 w25 ⟨rfl, rfl⟩
      refine WL.c rfl (o_not' rfl ?_)
      refine WL.nil ?_
      refine W.cond rfl (fun c26 => ?_) (fun c26 => ?_)
      · try simp only [decide_eq_true_eq, decide_eq_false_iff_not, Bool.not_eq_true', Bool.not_eq_false', Bool.and_eq_true, Bool.or_eq_true, Bool.and_eq_false_iff, Bool.or_eq_false_iff] at c26
        have hnm : nameB D[i].name = false := by simpa using c26
        refine W.seq ?_
        refine W.region ?_
        refine WL.c rfl (o_mvh h5 ?_)
        refine WL.c rfl (o_ash (show _ = Value.int _ _ from rfl) ?_)
        refine WL.c rfl (o_ash (show _ = Value.int _ _ from rfl) ?_)
        refine WL.c rfl (o_ash (show _ = Value.int _ _ from rfl) ?_)
        refine WL.nil ?_
        refine W.ret ?_
        refine ret3v rfl (show _ = Value.int _ _ from rfl) (show _ = Value.int _ _ from rfl) (show _ = Value.int _ _ from rfl) ?_
        rw [hres, hdr, chkA_cons, if_pos hnm]
        exact ⟨rfl, hx⟩
      · try simp only [decide_eq_true_eq, decide_eq_false_iff_not, Bool.not_eq_true', Bool.not_eq_false', Bool.and_eq_true, Bool.or_eq_true, Bool.and_eq_false_iff, Bool.or_eq_false_iff] at c26
        have hnm : nameB D[i].name = true := by simpa using c26
        refine W.skip ?_
        refine W.seq ?_
        refine W.region ?_
        refine WL.c rfl (o_fa 0 TI28 rfl TI26 rfl h1 ?_)
        refine WL.c rfl (o_ld TI26 rfl rfl (cell_of hC1 rfl) ?_)
        refine WL.c rfl (o_mvh h5 ?_)
        refine WL.c rfl (o_ixB TI26 TI40 rfl rfl (by omega) ?_)
        refine WL.c rfl (o_fa 2 TI40 rfl TI38 rfl rfl ?_)
        refine WL.c rfl (o_ld TI38 rfl rfl (htc 2 _ rfl) ?_)
        refine WL.c rfl (o_call Try.call28 (lc rfl ln) ((nodes_spec D[i].ty (V i) _ hty hli.2.1 hli.2.2).mono ?_))
        rintro v35 w35 ⟨rfl, hx35⟩
        replace hx := hx.tr hx35
        replace hD := hD.ext hx35
        replace hC1 := hx35.blk hC1 (fun h => h)
        refine WL.c rfl (o_mvh (by first | exact (show _ = Value.tuple _ from rfl) | exact rfl) ?_)
        refine WL.c rfl (o_ext rfl rfl ?_)
        refine WL.c rfl (o_ext rfl rfl ?_)
        refine WL.c rfl (o_ash (show _ = Value.int _ _ from rfl) ?_)
        refine WL.c rfl (o_ash (show _ = Value.int _ _ from rfl) ?_)
        refine WL.nil ?_
        refine W.seq ?_
        refine W.region ?_
        refine WL.c rfl (o_mvh (show _ = Value.int _ _ from rfl) ?_)
        refine WL.c rfl (o_ne rfl rfl ?_)
        refine WL.nil ?_
        refine W.cond rfl (fun c39 => ?_) (fun c39 => ?_)
        · try simp only [decide_eq_true_eq, decide_eq_false_iff_not, Bool.not_eq_true', Bool.not_eq_false', Bool.and_eq_true, Bool.or_eq_true, Bool.and_eq_false_iff, Bool.or_eq_false_iff] at c39
          have hce : ¬ (chkT D[i].ty).2 = 0 := by omega
          refine W.seq ?_
          refine W.region ?_
          refine WL.c rfl (o_mvh h5 ?_)
          refine WL.c rfl (o_mvh (show _ = Value.int _ _ from rfl) ?_)
          refine WL.c rfl (o_mvh (show _ = Value.int _ _ from rfl) ?_)
          refine WL.c rfl (o_ash (show _ = Value.int _ _ from rfl) ?_)
          refine WL.c rfl (o_ash (show _ = Value.int _ _ from rfl) ?_)
          refine WL.c rfl (o_ash (show _ = Value.int _ _ from rfl) ?_)
          refine WL.nil ?_
          refine W.ret ?_
          refine ret3v rfl (show _ = Value.int _ _ from rfl) (show _ = Value.int _ _ from rfl) (show _ = Value.int _ _ from rfl) ?_
          rw [hres, hdr, chkA_cons, if_neg (by simp [hnm]), if_neg hce]
          exact ⟨rfl, hx⟩
        · try simp only [decide_eq_true_eq, decide_eq_false_iff_not, Bool.not_eq_true', Bool.not_eq_false', Bool.and_eq_true, Bool.or_eq_true, Bool.and_eq_false_iff, Bool.or_eq_false_iff] at c39
          have hce : (chkT D[i].ty).2 = 0 := by omega
          refine W.skip ?_
          refine W.region ?_
          refine WL.c rfl (o_mvh h5 ?_)
          refine WL.c rfl (o_addi rfl rfl (by omega) ?_)
          refine WL.c rfl (o_ash (show _ = Value.int _ _ from rfl) ?_)
          refine WL.nil ?_
          refine ⟨⟨i + 1, by omega, h1, rfl, hC1, ?_, hD, hx⟩, ?_⟩
          · rw [hres, hdr, chkA_cons, if_neg (by simp [hnm]), if_pos hce]
          · show D.length - ((i : Int) + 1).toNat < _
            rw [hm5]; simp [intOf]; omega
    · try simp only [decide_eq_true_eq, decide_eq_false_iff_not, Bool.not_eq_true', Bool.not_eq_false', Bool.and_eq_true, Bool.or_eq_true, Bool.and_eq_false_iff, Bool.or_eq_false_iff] at c16
      have hil : i = D.length := by omega
      rw [hil, List.drop_length, chkA_nil] at hres
      refine W.exit ?_
      refine W.seq ?_
      refine W.region ?_
      refine WL.c rfl (o_ash (show _ = Value.int _ _ from rfl) ?_)
      refine WL.c rfl (o_ash (show _ = Value.int _ _ from rfl) ?_)
      refine WL.c rfl (o_ash (show _ = Value.int _ _ from rfl) ?_)
      refine WL.nil ?_
      refine W.ret ?_
      refine ret3v rfl (show _ = Value.int _ _ from rfl) (show _ = Value.int _ _ from rfl) (show _ = Value.int _ _ from rfl) ?_
      rw [hres]
      exact ⟨rfl, hx⟩
end Go.Proofs.Ytcljkkfpcomdcaa
