/-
  Walks. Written by program out of specs of mine.
-/
import Derived.Test.YtieldjpbempkcaaRD
set_option linter.unusedSimpArgs false
set_option linter.unusedVariables false
namespace Go.Proofs.Ytieldjpbempkcaa
open Go Go.Vc Go.RowKit Go.Proofs

/-- one call of a script, as it is read -/
structure OpD where
  kind : Int
  two : Bool
  n : Nat
  vB : Value
  xs : List UInt8
  c : UInt8
def opV (o : OpD) : List Value := [.int .i64 o.kind, .bool o.two, .int .u64 (o.n : Int), o.vB, bv o.c]
def opsV (os : List OpD) : List Value := os.flatMap opV
theorem opsV_at : ∀ (os : List OpD) (k : Nat) (h : k < os.length), ((opsV os).drop (k * 5)).take 5 = opV os[k]
  | t :: os, 0, h => by simp [opsV, opV]
  | t :: os, k + 1, h => by
    have ih := opsV_at os k (by simpa using h)
    have : opsV (t :: os) = opV t ++ opsV os := by simp [opsV]
    rw [this, List.drop_append]
    have h5 : (opV t).length = 5 := rfl
    rw [List.drop_eq_nil_of_le (by omega), h5, show (k + 1) * 5 - 5 = k * 5 by omega, List.nil_append, ih]
    rfl
/-- what is asked of a call's arguments -/
def OpOk (w : World) (o : OpD) : Prop := o.n < 18446744073709551616 ∧ By w o.vB o.xs ∧ o.xs.length ≤ 140737488351232
theorem BF.step {w : World} {H b p q p' q' b2 p2 q2 : Nat} {vb vb' vb2 : Value} {bs2 : List UInt8} {ov2 : Bool} (h2 : Bt w H b2 p2 q2 vb2 bs2 ov2) (hd : ∀ j, BF b p q vb j → ¬ BF b2 p2 q2 vb2 j) (hn : NewB w p q vb p' q' vb') : ∀ j, BF b p' q' vb' j → ¬ BF b2 p2 q2 vb2 j := by
  intro j hj h
  have hhi := h2.hi j h
  obtain ⟨h1, h3, h4⟩ := hn
  rcases hj with rfl | rfl | rfl | hj
  · exact hd _ (.inl rfl) h
  · rcases h1 with rfl | h1
    · exact hd _ (.inr (.inl rfl)) h
    · omega
  · rcases h3 with rfl | h3
    · exact hd _ (.inr (.inr (.inl rfl))) h
    · omega
  · rcases h4 j hj with h5 | h5
    · exact hd _ (.inr (.inr (.inr h5))) h
    · omega

set_option maxHeartbeats 4000000 in
theorem exact_walk (w0 : World) (v : Value) (os : List OpD) (hol : os.length ≤ 9223372036854775807) (hS : Sl w0 5 v os.length (opsV os)) (hos : ∀ o ∈ os, OpOk w0 o) : Ca Try.prog 3 #[v] w0 (fun v w' => v = .bool true ∧ Ext w0 w') := by
  refine Ca.of Try.func3 Try.ntmps3 rfl rfl ?_
  refine W.seq ?_
  refine W.region ?_
  refine WL.c rfl (o_as ?_)
  refine WL.nil ?_
  refine W.seq ?_
  refine W.seq ?_
  refine W.region ?_
  refine WL.c rfl (o_call Try.call8 ln ((awake_spec _).mono ?_))
  rintro v7 w7 ⟨rfl, hx⟩
  have hz0 := hx.size
  obtain ⟨H0, hH0⟩ : ∃ x, x = w7.heap.size := ⟨_, rfl⟩
  refine WL.c rfl (o_not' rfl ?_)
  refine WL.nil ?_
  refine W.condF' rfl (rfl) ?_
  refine W.skip ?_
  refine W.seq ?_
  refine W.region ?_
  refine WL.c rfl (o_call Try.call9 ln ((new_spec _).mono ?_))
  rintro v9 w9 ⟨rfl, hp9, hx9⟩
  have l9 := hp9.lt
  refine WL.c rfl (o_call Try.call10 ln ((rnew_spec _).mono ?_))
  rintro v10 w10 ⟨rfl, hq10, hx10⟩
  have l10 := (Array.getElem?_eq_some_iff.1 hq10.1).1
  have z10 := hx10.size
  have z9 := hx9.size
  refine WL.c rfl (o_bldC (cs := [_, _]) TI30 (Sizes.cons TI25 (Sizes.cons TI27 Sizes.nil)) rfl (lcp rfl (lcp rfl lnp)) rfl rfl ?_)
  refine WL.c rfl (o_boxB rfl ?_)
  intro w12 hC12 hx12 hs12
  have hb1 : Bt w12 H0 w10.heap.size w7.heap.size w9.heap.size (.slice none 0 0) [] false := ⟨hC12, RdP.ext (RdP.ext hp9 hx10) hx12, ⟨hx12.blk hq10.1 (fun h => h), own_mono (own_ext hq10.2 hx12) (by omega)⟩, RdOk.new, by omega, by omega, by omega⟩
  replace hx := hx.tr (hx9.tr (hx10.tr hx12))
  refine WL.c rfl (o_as ?_)
  refine WL.nil ?_
  refine W.seq ?_
  refine W.region ?_
  refine WL.c rfl (o_call Try.call9 ln ((new_spec _).mono ?_))
  rintro v13 w13 ⟨rfl, hp13, hx13⟩
  have l13 := hp13.lt
  refine WL.c rfl (o_call Try.call10 ln ((rnew_spec _).mono ?_))
  rintro v14 w14 ⟨rfl, hq14, hx14⟩
  have l14 := (Array.getElem?_eq_some_iff.1 hq14.1).1
  have z14 := hx14.size
  have z13 := hx13.size
  refine WL.c rfl (o_bldC (cs := [_, _]) TI30 (Sizes.cons TI25 (Sizes.cons TI27 Sizes.nil)) rfl (lcp rfl (lcp rfl lnp)) rfl rfl ?_)
  refine WL.c rfl (o_boxB rfl ?_)
  intro w16 hC16 hx16 hs16
  have hb2 : Bt w16 H0 w14.heap.size w12.heap.size w13.heap.size (.slice none 0 0) [] false := ⟨hC16, RdP.ext (RdP.ext hp13 hx14) hx16, ⟨hx16.blk hq14.1 (fun h => h), own_mono (own_ext hq14.2 hx16) (by omega)⟩, RdOk.new, by omega, by omega, by omega⟩
  replace hb1 := hb1.ext (hx13.tr (hx14.tr hx16))
  replace hx := hx.tr (hx13.tr (hx14.tr hx16))
  have hd : ∀ j, BF w10.heap.size w7.heap.size w9.heap.size (.slice none 0 0) j → ¬ BF w14.heap.size w12.heap.size w13.heap.size (.slice none 0 0) j := by
    intro j h1 h2
    rcases h1 with h1 | h1 | h1 | h1 <;> rcases h2 with h2 | h2 | h2 | h2 <;> first | (simp [Value.ownBlock] at h1; done) | (simp [Value.ownBlock] at h2; done) | omega
  generalize w10.heap.size = b1 at *
  generalize w14.heap.size = b2 at *
  refine WL.c rfl (o_as ?_)
  refine WL.nil ?_
  refine W.seq ?_
  refine W.seq ?_
  refine W.region ?_
  refine WL.c rfl (o_as ?_)
  refine WL.nil ?_
  refine W.block ?_
  refine W.loop (fun e w => ∃ (i p1 q1 p2 q2 : Nat) (vb1 vb2 : Value) (bs1 bs2 : List UInt8) (ov1 ov2 : Bool), i ≤ os.length ∧ i ≤ 500 ∧ e 0 = v ∧ e 3 = .pointer (some ⟨b1, 0, none⟩) ∧ e 4 = .pointer (some ⟨b2, 0, none⟩) ∧ e 5 = .int .i64 (i : Int) ∧ Bt w H0 b1 p1 q1 vb1 bs1 ov1 ∧ Bt w H0 b2 p2 q2 vb2 bs2 ov2 ∧ (∀ j, BF b1 p1 q1 vb1 j → ¬ BF b2 p2 q2 vb2 j) ∧ Ext w0 w ∧ H0 ≤ w.heap.size) (fun e w => 500 - (intOf (e 5)).toNat) ?_ ?_
  · exact ⟨0, _, _, _, _, _, _, _, _, _, _, Nat.zero_le _, by omega, rfl, rfl, rfl, rfl, hb1, hb2, hd, hx, by have := (hb1.hi _ (.inl rfl)); have := hb1.lob; omega⟩
  rintro e w ⟨i, p1, q1, p2, q2, vb1, vb2, bs1, bs2, ov1, ov2, hi, hi5, h0, h3, h4, h5, hb1, hb2, hd, hx, hz⟩
  have hm5 := h5
  have h0v := h0
  refine W.seq ?_
  refine W.seq ?_
  refine W.region ?_
  refine WL.cut (fun e1 w1 => e1 24 = .bool (decide (i < os.length) && decide (i < 500)) ∧ e1 0 = v ∧ e1 3 = .pointer (some ⟨b1, 0, none⟩) ∧ e1 4 = .pointer (some ⟨b2, 0, none⟩) ∧ e1 5 = .int .i64 (i : Int) ∧ w1 = w) ?_ ?_
  · -- region 6
    refine WL.c rfl (o_mvh h5 ?_)
    refine WL.c rfl (o_mvh h0 ?_)
    refine WL.c rfl (o_lenR TI22 rfl (hS.ext hx) ?_)
    refine WL.c rfl (o_lt rfl rfl ?_)
    refine WL.c rfl (o_mv ?_)
    refine WL.sp 4 rfl (fun g21 => ?_) (fun g21 => ?_)
    · skip
      refine WL.g rfl (g21) rfl (o_mvh h5 ?_)
      refine WL.g rfl (g21) rfl (o_lt rfl rfl ?_)
      refine WL.c rfl (o_pickA rfl rfl ?_)
      exact WL.nil (⟨congrArg Value.bool (by rw [Bool.eq_iff_iff]; simp_all <;> omega), h0, h3, h4, h5, rfl⟩)
    · skip
      refine WL.s rfl (g21) rfl ?_
      refine WL.s rfl (g21) rfl ?_
      refine WL.c rfl (o_pickF rfl (g21) ?_)
      exact WL.nil (⟨congrArg Value.bool (by rw [Bool.eq_iff_iff]; simp_all <;> omega), h0, h3, h4, h5, rfl⟩)
  rintro e w ⟨h24, h0, h3, h4, h5, rfl⟩
  refine W.cond h24 (fun c24 => ?_) (fun c24 => ?_)
  · try simp only [decide_eq_true_eq, decide_eq_false_iff_not, Bool.not_eq_true', Bool.not_eq_false', Bool.and_eq_true, Bool.or_eq_true, Bool.and_eq_false_iff, Bool.or_eq_false_iff] at c24
    obtain ⟨hi1, hi2⟩ := c24
    have hv0 := h0
    obtain ⟨hn, hB, hxl⟩ := hos os[i] (List.getElem_mem hi1)
    rcases (hS.ext hx).val with ⟨hz1, -⟩ | ⟨bS, oS, cS, hvS, -, hcS⟩
    · omega
    rw [hvS] at h0
    have hcs := hcS.sub (i * 5) 5
    rw [opsV_at os i hi1] at hcs
    refine W.skip ?_
    refine W.seq ?_
    refine W.block ?_
    refine W.seq ?_
    refine W.region ?_
    refine WL.c rfl (o_mvh h3 ?_)
    refine WL.c rfl (o_as ?_)
    refine WL.nil ?_
    refine W.seq ?_
    refine W.seq ?_
    refine W.region ?_
    refine WL.c rfl (o_mvh h0 ?_)
    refine WL.c rfl (o_mvh h5 ?_)
    refine WL.c rfl (o_ixB TI22 TI34 rfl rfl (hi1) ?_)
    refine WL.c rfl (o_fa 1 TI34 rfl TI4 rfl rfl ?_)
    refine WL.c rfl (o_ld TI4 rfl rfl (hcs 1 _ rfl) ?_)
    refine WL.nil ?_
    refine W.cond rfl (fun c32 => ?_) (fun c32 => ?_)
    · try simp only [decide_eq_true_eq, decide_eq_false_iff_not, Bool.not_eq_true', Bool.not_eq_false', Bool.and_eq_true, Bool.or_eq_true, Bool.and_eq_false_iff, Bool.or_eq_false_iff] at c32
      have hbA := hb2
      have hbO := hb1
      have hdA : ∀ j, BF b2 p2 q2 vb2 j → ¬ BF b1 p1 q1 vb1 j := fun j h1 h2 => hd j h2 h1
      have hdA' : ∀ j, BF b1 p1 q1 vb1 j → ¬ BF b2 p2 q2 vb2 j := hd
      refine W.region ?_
      refine WL.c rfl (o_mvh h4 ?_)
      refine WL.c rfl (o_as ?_)
      refine WL.nil ?_
      refine W.seq ?_
      refine W.region ?_
      refine WL.c rfl (o_mv ?_)
      refine WL.c rfl (o_mvh h0 ?_)
      refine WL.c rfl (o_mvh h5 ?_)
      refine WL.c rfl (o_ixB TI22 TI34 rfl rfl (hi1) ?_)
      refine WL.c rfl (o_ldA TI34 rfl rfl hcs rfl ?_)
      refine WL.c rfl (o_call Try.call11 (lc rfl (lc rfl ln)) ((plays_spec H0 _ _ _ _ _ _ (os[i]).kind (os[i]).two (os[i]).n hn (os[i]).vB (os[i]).xs (os[i]).c _ hbA hz (hB.ext hx) hxl).mono ?_))
      rintro v39 w39 ⟨rfl, p', q', vb', bs', ov', hbN, hoN, hnN⟩
      have hdN := BF.step hbO hdA hnN
      have hloA := hbA.lo
      have hxN := hx.trans' hoN (fun _ h => h) (fun j hj he => by have := hloA j he; omega)
      have hzN : H0 ≤ w39.heap.size := by have := hoN.size; omega
      refine WL.c rfl (o_not' rfl ?_)
      refine WL.nil ?_
      refine W.condF' rfl (rfl) ?_
      refine W.skip ?_
      refine W.region ?_
      refine WL.c rfl (o_mvh h5 ?_)
      refine WL.c rfl (o_addi rfl rfl (by omega) ?_)
      refine WL.c rfl (o_as ?_)
      refine WL.nil ?_
      refine ⟨?_, by show 500 - ((i : Int) + 1).toNat < _; rw [hm5]; simp [intOf]; omega⟩
      first
      | (have hc : (os[i]).two = true := c32
         exact ⟨i + 1, p1, q1, p', q', vb1, vb', bs1, bs', ov1, ov', by omega, by omega, hv0, h3, h4, rfl, hbO.only hoN hdA', hbN, fun j h1 h2 => hdN j h2 h1, hxN, hzN⟩)
      | exact ⟨i + 1, p', q', p2, q2, vb', vb2, bs', bs2, ov', ov2, by omega, by omega, hv0, h3, h4, rfl, hbN, hbO.only hoN hdA', hdN, hxN, hzN⟩
    · try simp only [decide_eq_true_eq, decide_eq_false_iff_not, Bool.not_eq_true', Bool.not_eq_false', Bool.and_eq_true, Bool.or_eq_true, Bool.and_eq_false_iff, Bool.or_eq_false_iff] at c32
      have hbA := hb1
      have hbO := hb2
      have hdA : ∀ j, BF b1 p1 q1 vb1 j → ¬ BF b2 p2 q2 vb2 j := hd
      have hdA' : ∀ j, BF b2 p2 q2 vb2 j → ¬ BF b1 p1 q1 vb1 j := fun j h1 h2 => hd j h2 h1
      refine W.skip ?_
      refine W.seq ?_
      refine W.region ?_
      refine WL.c rfl (o_mv ?_)
      refine WL.c rfl (o_mvh h0 ?_)
      refine WL.c rfl (o_mvh h5 ?_)
      refine WL.c rfl (o_ixB TI22 TI34 rfl rfl (hi1) ?_)
      refine WL.c rfl (o_ldA TI34 rfl rfl hcs rfl ?_)
      refine WL.c rfl (o_call Try.call11 (lc rfl (lc rfl ln)) ((plays_spec H0 _ _ _ _ _ _ (os[i]).kind (os[i]).two (os[i]).n hn (os[i]).vB (os[i]).xs (os[i]).c _ hbA hz (hB.ext hx) hxl).mono ?_))
      rintro v39 w39 ⟨rfl, p', q', vb', bs', ov', hbN, hoN, hnN⟩
      have hdN := BF.step hbO hdA hnN
      have hloA := hbA.lo
      have hxN := hx.trans' hoN (fun _ h => h) (fun j hj he => by have := hloA j he; omega)
      have hzN : H0 ≤ w39.heap.size := by have := hoN.size; omega
      refine WL.c rfl (o_not' rfl ?_)
      refine WL.nil ?_
      refine W.condF' rfl (rfl) ?_
      refine W.skip ?_
      refine W.region ?_
      refine WL.c rfl (o_mvh h5 ?_)
      refine WL.c rfl (o_addi rfl rfl (by omega) ?_)
      refine WL.c rfl (o_as ?_)
      refine WL.nil ?_
      refine ⟨?_, by show 500 - ((i : Int) + 1).toNat < _; rw [hm5]; simp [intOf]; omega⟩
      first
      | (have hc : (os[i]).two = true := c32
         exact ⟨i + 1, p1, q1, p', q', vb1, vb', bs1, bs', ov1, ov', by omega, by omega, hv0, h3, h4, rfl, hbO.only hoN hdA', hbN, fun j h1 h2 => hdN j h2 h1, hxN, hzN⟩)
      | exact ⟨i + 1, p', q', p2, q2, vb', vb2, bs', bs2, ov', ov2, by omega, by omega, hv0, h3, h4, rfl, hbN, hbO.only hoN hdA', hdN, hxN, hzN⟩
  · try simp only [decide_eq_true_eq, decide_eq_false_iff_not, Bool.not_eq_true', Bool.not_eq_false', Bool.and_eq_true, Bool.or_eq_true, Bool.and_eq_false_iff, Bool.or_eq_false_iff] at c24
    refine W.exit ?_
    refine W.seq ?_
    refine W.region ?_
    refine WL.c rfl (o_mvh h3 ?_)
    refine WL.c rfl (o_call Try.call12 (lc rfl ln) ((tells_spec b1 p1 q1 H0 vb1 bs1 ov1 _ hb1.cell hb1.prog hb1.ref hb1.ok).mono ?_))
    rintro v42 w42 ⟨rfl, hx42⟩
    replace hb2 := hb2.ext hx42
    refine WL.c rfl (o_mv ?_)
    refine WL.g rfl (rfl) rfl (o_mvh h4 ?_)
    refine WL.g rfl (rfl) rfl (o_call Try.call12 (lc rfl ln) ((tells_spec b2 p2 q2 H0 vb2 bs2 ov2 _ hb2.cell hb2.prog hb2.ref hb2.ok).mono ?_))
    rintro v45 w45 ⟨rfl, hx45⟩
    refine WL.c rfl (o_pickA rfl rfl ?_)
    refine WL.c rfl (o_as ?_)
    refine WL.nil ?_
    refine W.ret ?_
    refine ret1v rfl (show _ = Value.bool _ from rfl) ?_
    exact ⟨rfl, hx.tr (hx42.tr hx45)⟩
end Go.Proofs.Ytieldjpbempkcaa
