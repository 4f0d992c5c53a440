/-
  Walks. Written by program out of specs of mine.
-/
import Derived.Test.YtieldjpbempkcaaRA
set_option linter.unusedSimpArgs false
set_option linter.unusedVariables false
namespace Go.Proofs.Ytieldjpbempkcaa
open Go Go.Vc Go.RowKit Go.Proofs

/-- the document's reader: its two cells, and the row of its bytes -/
def RRd (w : World) (H q : Nat) (vb : Value) (bs : List UInt8) (over : Bool) : Prop := w.heap[q]? = some (.cells #[vb, .bool over] 59 (0, 0)) ∧ w.ownsRow H 5 1 vb bs.length (bs.map bv)
theorem RRd.ext {w w' : World} {H q : Nat} {vb : Value} {bs : List UInt8} {over : Bool} (h : RRd w H q vb bs over) (hx : Ext w w') : RRd w' H q vb bs over := ⟨hx.blk h.1 (fun h => h), own_ext h.2 hx⟩
def RRF (q : Nat) (vb : Value) (j : Nat) : Prop := j = q ∨ vb.ownBlock = some j
theorem RRd.only {w w' : World} {H q : Nat} {vb : Value} {bs : List UInt8} {over : Bool} {F : Nat → Prop} (h : RRd w H q vb bs over) (hx : Only F w w') (h1 : ¬ F q) (h2 : ∀ j, vb.ownBlock = some j → ¬ F j) : RRd w' H q vb bs over := ⟨hx.blk h.1 h1, own_only h.2 hx h2⟩
theorem RRd.qv {w : World} {H q : Nat} {vb : Value} {bs : List UInt8} {over : Bool} (h : RRd w H q vb bs over) : ¬ vb.ownBlock = some q := own_off h.2 h.1 (by decide)
/-- the row stays, or is a new one -/
def Newer (w : World) (vb vb' : Value) : Prop := ∀ k, vb'.ownBlock = some k → vb.ownBlock = some k ∨ w.heap.size ≤ k

theorem rnew_spec (w0 : World) : Ca Try.prog 10 #[] w0 (fun v w' => v = .pointer (some ⟨w0.heap.size, 0, none⟩) ∧ RRd w' w0.heap.size w0.heap.size (.slice none 0 0) [] false ∧ Ext w0 w') := by
  refine Ca.of Try.func10 Try.ntmps10 rfl rfl ?_
  refine W.seq ?_
  refine W.region ?_
  refine WL.c rfl (o_as ?_)
  refine WL.nil ?_
  refine W.seq ?_
  refine W.region ?_
  refine WL.c rfl (o_bldC (cs := [(.slice none 0 0), (.bool false)]) TI59 (Sizes.cons TI32 (Sizes.cons TI4 Sizes.nil)) rfl lnp rfl rfl ?_)
  refine WL.c rfl (o_boxB rfl ?_)
  intro w2 hB2 hx2 hs2
  refine WL.c rfl (o_as ?_)
  refine WL.nil ?_
  refine W.ret ?_
  refine ret1v rfl (show _ = Value.pointer _ from rfl) ?_
  exact ⟨rfl, ⟨hB2, World.ownsRow_nil _ _ _ _⟩, hx2⟩
theorem rn_spec (H q : Nat) (vb : Value) (bs : List UInt8) (over : Bool) (w0 : World) (hr : RRd w0 H q vb bs over) (ho : RdOk bs over) : Ca Try.prog 29 #[.pointer (some ⟨q, 0, none⟩)] w0 (fun v w' => v = .int .u64 (vnum 0 0 bs : Int) ∧ w' = w0) := by
  refine Ca.of Try.func29 Try.ntmps29 rfl rfl ?_
  refine W.seq ?_
  refine W.region ?_
  refine WL.c rfl (o_as ?_)
  refine WL.nil ?_
  refine W.seq ?_
  refine W.region ?_
  refine WL.c rfl (o_mv ?_)
  refine WL.c rfl (o_nil rfl ?_)
  refine WL.c rfl (o_fa 0 TI59 rfl TI32 rfl rfl ?_)
  refine WL.c rfl (o_ld TI32 rfl rfl (cell_of hr.1 rfl) ?_)
  refine WL.c rfl (o_call Try.call34 (lc rfl ln) ((value_spec bs vb _ (Sl.own hr.2) (by have := ho.len; omega)).mono ?_))
  rintro v7 w7 ⟨rfl, rfl⟩
  refine WL.c rfl (o_as ?_)
  refine WL.nil ?_
  refine W.ret ?_
  refine ret1v rfl (show _ = Value.int _ _ from rfl) ?_
  exact ⟨by rw [Nat.mod_eq_of_lt ho.num], rfl⟩
theorem rread_spec (H q : Nat) (vb : Value) (bs : List UInt8) (over : Bool) (w0 : World) (hr : RRd w0 H q vb bs over) (ho : RdOk bs over) : Ca Try.prog 30 #[.pointer (some ⟨q, 0, none⟩)] w0 (fun v w' => Fresh w0 w' v bs) := by
  have hl := ho.len
  refine Ca.of Try.func30 Try.ntmps30 rfl rfl ?_
  refine W.seq ?_
  refine W.region ?_
  refine WL.c rfl (o_as ?_)
  refine WL.nil ?_
  refine W.seq ?_
  refine W.region ?_
  refine WL.c rfl (o_mv ?_)
  refine WL.c rfl (o_nil rfl ?_)
  refine WL.c rfl (o_fa 0 TI59 rfl TI32 rfl rfl ?_)
  refine WL.c rfl (o_ld TI32 rfl rfl (cell_of hr.1 rfl) ?_)
  refine WL.c rfl (o_apO (w0.heap.size) TI32 TI5 (show _ = Value.slice _ _ _ from rfl) (show _ = vb from rfl) (World.ownsRow_nil _ _ _ _) (Sl.own hr.2) rfl (by decide) one_bv (by rw [maxLen_eq]; omega) (by omega) (Nat.le_refl _) ?_)
  intro v7 w7 hown7 ho7 hb7 hk7
  rw [Nat.zero_add, List.nil_append] at hown7
  refine WL.c rfl (o_as ?_)
  refine WL.nil ?_
  refine W.ret ?_
  refine ret1v rfl (show _ = v7 from rfl) ?_
  exact ⟨hown7, ho7.mono (fun j _ h => by cases h)⟩
theorem rbyte_spec (H q : Nat) (vb : Value) (c : UInt8) (bs : List UInt8) (over : Bool) (w0 : World) (hr : RRd w0 H q vb bs over) (ho : RdOk bs over) (hH : H ≤ w0.heap.size) : Ca Try.prog 28 #[.pointer (some ⟨q, 0, none⟩), bv c] w0 (fun v w' => v = .tuple #[.bool (rdone bs over c), .int .i64 (rerr bs over c : Int)] ∧ ∃ vb', RRd w' H q vb' (rnext bs over c) (rover bs over c) ∧ Only (RRF q vb) w0 w' ∧ Newer w0 vb vb') := by
  have hl := ho.len
  have hq := hr.1
  have hown := hr.2
  refine Ca.of Try.func28 Try.ntmps28 rfl rfl ?_
  refine W.seq ?_
  refine W.region ?_
  refine WL.c rfl (o_as ?_)
  refine WL.c rfl (o_as ?_)
  refine WL.nil ?_
  refine W.seq ?_
  refine W.seq ?_
  refine W.region ?_
  refine WL.c rfl (o_mv ?_)
  refine WL.c rfl (o_nil rfl ?_)
  refine WL.c rfl (o_fa 1 TI59 rfl TI4 rfl rfl ?_)
  refine WL.c rfl (o_ld TI4 rfl rfl (cell_of hq rfl) ?_)
  refine WL.nil ?_
  refine W.cond rfl (fun c9 => ?_) (fun c9 => ?_)
  · try simp only [decide_eq_true_eq, decide_eq_false_iff_not, Bool.not_eq_true', Bool.not_eq_false', Bool.and_eq_true, Bool.or_eq_true, Bool.and_eq_false_iff, Bool.or_eq_false_iff] at c9
    refine W.seq ?_
    refine W.region ?_
    refine WL.c rfl (o_as ?_)
    refine WL.c rfl (o_as ?_)
    refine WL.nil ?_
    refine W.ret ?_
    refine ret2v rfl (show _ = Value.bool _ from rfl) (show _ = Value.int _ _ from rfl) ?_
    subst c9
    exact ⟨rfl, vb, ⟨hq, by simpa [rnext] using hown⟩, Only.refl _ _, fun k h => .inl h⟩
  · try simp only [decide_eq_true_eq, decide_eq_false_iff_not, Bool.not_eq_true', Bool.not_eq_false', Bool.and_eq_true, Bool.or_eq_true, Bool.and_eq_false_iff, Bool.or_eq_false_iff] at c9
    subst c9
    have h9 := ho.more rfl
    refine W.skip ?_
    refine W.seq ?_
    refine W.seq ?_
    refine W.region ?_
    refine WL.c rfl (o_mv ?_)
    refine WL.c rfl (o_nil rfl ?_)
    refine WL.c rfl (o_fa 0 TI59 rfl TI32 rfl rfl ?_)
    refine WL.c rfl (o_ld TI32 rfl rfl (cell_of hq rfl) ?_)
    refine WL.c rfl (o_lenR TI32 rfl (Sl.own hown) ?_)
    refine WL.c rfl (o_mv ?_)
    refine WL.c rfl (o_call Try.call33 (lc rfl (lc rfl ln)) ((shows_spec c bs.length h9 _).mono ?_))
    rintro v16 w16 ⟨rfl, rfl⟩
    refine WL.nil ?_
    refine W.cond rfl (fun c16 => ?_) (fun c16 => ?_)
    · try simp only [decide_eq_true_eq, decide_eq_false_iff_not, Bool.not_eq_true', Bool.not_eq_false', Bool.and_eq_true, Bool.or_eq_true, Bool.and_eq_false_iff, Bool.or_eq_false_iff] at c16
      refine W.seq ?_
      refine W.region ?_
      refine WL.c rfl (o_mv ?_)
      refine WL.c rfl (o_nil rfl ?_)
      refine WL.c rfl (o_fa 1 TI59 rfl TI4 rfl rfl ?_)
      refine WL.u (o_stB TI4 rfl (show _ = Value.bool _ from rfl) rfl hq (show _ < 2 by decide) ?_)
      intro w19 hq19 ho19 hs19
      refine WL.nil ?_
      refine W.seq ?_
      refine W.region ?_
      refine WL.c rfl (o_as ?_)
      refine WL.c rfl (o_as ?_)
      refine WL.nil ?_
      refine W.ret ?_
      refine ret2v rfl (show _ = Value.bool _ from rfl) (show _ = Value.int _ _ from rfl) ?_
      refine ⟨by simp [rdone, rerr, c16], vb, ⟨?_, ?_⟩, ho19.mono (fun j _ h => .inl h), fun k h => .inl h⟩
      · rw [hq19]; simp [rover, c16]
      · simp only [rnext, c16, Bool.false_or, if_true]
        exact own_only hown ho19 (fun j hj he => hr.qv (by rw [← he]; exact hj))
    · try simp only [decide_eq_true_eq, decide_eq_false_iff_not, Bool.not_eq_true', Bool.not_eq_false', Bool.and_eq_true, Bool.or_eq_true, Bool.and_eq_false_iff, Bool.or_eq_false_iff] at c16
      refine W.skip ?_
      refine W.seq ?_
      refine W.region ?_
      refine WL.c rfl (o_mv ?_)
      refine WL.c rfl (o_mv ?_)
      refine WL.c rfl (o_nil rfl ?_)
      refine WL.c rfl (o_fa 0 TI59 rfl TI32 rfl rfl ?_)
      refine WL.c rfl (o_ld TI32 rfl rfl (cell_of hq rfl) ?_)
      refine WL.c rfl (o_mv ?_)
      have hqv := hr.qv
      refine WL.apO (H) rfl rfl TI32 TI5 (show _ = Value.int _ _ from rfl) (show _ = vb from rfl) hown (by decide) (by decide) rfl (one1 rfl) rfl (by rw [maxLen_eq]; omega) (by omega) hH ?_
      intro v27 w27 hown27 ho27 hb27 hk27
      have hq27 := ho27.blk hq hqv
      refine WL.c rfl (o_nil rfl ?_)
      refine WL.c rfl (o_fa 0 TI59 rfl TI32 rfl rfl ?_)
      refine WL.u (o_stB TI32 rfl rfl (own_one hown27) hq27 (show _ < 2 by decide) ?_)
      intro w29 hq29 ho29 hs29
      replace hq29 : w29.heap[q]? = some (.cells #[v27, .bool false] 59 (0, 0)) := hq29
      refine WL.nil ?_
      refine W.seq ?_
      refine W.region ?_
      refine WL.c rfl (o_mv ?_)
      refine WL.c rfl (o_mv ?_)
      refine WL.c rfl (o_lt rfl rfl ?_)
      refine WL.c rfl (o_nil rfl ?_)
      refine WL.c rfl (o_fa 1 TI59 rfl TI4 rfl rfl ?_)
      refine WL.u (o_stB TI4 rfl (show _ = Value.bool _ from rfl) rfl hq29 (show _ < 2 by decide) ?_)
      intro w34 hq34 ho34 hs34
      replace hq34 : w34.heap[q]? = some (.cells #[v27, .bool (decide ((c.toNat : Int) < 128))] 59 (0, 0)) := hq34
      refine WL.nil ?_
      refine W.seq ?_
      refine W.region ?_
      refine WL.c rfl (o_mv ?_)
      refine WL.c rfl (o_nil rfl ?_)
      refine WL.c rfl (o_fa 1 TI59 rfl TI4 rfl rfl ?_)
      refine WL.c rfl (o_ld TI4 rfl rfl (cell_of hq34 rfl) ?_)
      refine WL.c rfl (o_as ?_)
      refine WL.c rfl (o_as ?_)
      refine WL.nil ?_
      refine W.ret ?_
      refine ret2v rfl (show _ = Value.bool _ from rfl) (show _ = Value.int _ _ from rfl) ?_
      have hd : decide ((c.toNat : Int) < 128) = decide (c.toNat < 128) := decide_eq_decide.2 (by omega)
      have hv27 : ¬ v27.ownBlock = some q := own_off hown27 hq27 (by decide)
      have hT : Only (fun j => j = q) w27 w34 := ho29.trans ho34
      refine ⟨by simp [rdone, rerr, c16, hd], v27, ⟨?_, ?_⟩, (ho27.mono (fun j _ h => .inr h)).trans (hT.mono (fun j _ h => .inl h)), fun k hk => hb27.elim (fun h => .inl (by rw [← h]; exact hk)) (fun h => .inr (by rw [h] at hk; simp at hk; omega))⟩
      · rw [hq34]; simp [rover, c16, hd]
      · simp only [rnext, c16, Bool.false_or]
        rw [if_neg (by simp), List.length_append, List.map_append]
        exact own_only hown27 hT (fun j hj he => hv27 (by rw [← he]; exact hj))
theorem rload_spec (xs : List UInt8) (v : Value) (w0 : World) (hB : By w0 v xs) (hlen : xs.length ≤ 9223372036854775807) : Ca Try.prog 27 #[v] w0 (fun r w' => r = .tuple #[.pointer (pOf (rload [] false xs).1 w0.heap.size), .int .i64 ((rload [] false xs).1 : Int)] ∧ ((rload [] false xs).1 = 0 → ∃ vb, RRd w' w0.heap.size w0.heap.size vb (rload [] false xs).2.1 (rload [] false xs).2.2) ∧ Ext w0 w') := by
  refine Ca.of Try.func27 Try.ntmps27 rfl rfl ?_
  refine W.seq ?_
  refine W.region ?_
  refine WL.c rfl (o_as ?_)
  refine WL.c rfl (o_as ?_)
  refine WL.nil ?_
  refine W.seq ?_
  refine W.region ?_
  refine WL.c rfl (o_call Try.call10 ln ((rnew_spec _).mono ?_))
  rintro v8 w8 ⟨rfl, hr8, hx8⟩
  refine WL.c rfl (o_as ?_)
  refine WL.nil ?_
  refine W.seq ?_
  refine W.seq ?_
  refine W.region ?_
  refine WL.c rfl (o_as ?_)
  refine WL.nil ?_
  refine W.block ?_
  refine W.loop (fun e w => ∃ (k : Nat) (bs : List UInt8) (over : Bool) (vb : Value), k ≤ xs.length ∧ rload [] false xs = rload bs over (xs.drop k) ∧ RdOk bs over ∧ e 0 = v ∧ e 4 = .pointer (some ⟨w0.heap.size, 0, none⟩) ∧ e 5 = .int .i64 (k : Int) ∧ RRd w w0.heap.size w0.heap.size vb bs over ∧ Ext w0 w) (fun e w => xs.length - (intOf (e 5)).toNat) ?_ ?_
  · exact ⟨0, [], false, _, Nat.zero_le _, rfl, RdOk.new, rfl, rfl, rfl, hr8, hx8⟩
  rintro e w ⟨k, bs, over, vb, hk, hrl, ho, h0, h4, h5, hr, hx⟩
  have hm5 := h5
  refine W.seq ?_
  refine W.seq ?_
  by_cases hk1 : k < xs.length
  · skip
    have hcons : xs.drop k = xs[k] :: xs.drop (k + 1) := by rw [List.getElem_cons_drop]
    refine W.region ?_
    refine WL.c rfl (o_mvh h5 ?_)
    refine WL.c rfl (o_mvh h0 ?_)
    refine WL.c rfl (o_lenR TI32 rfl (hB.ext hx) ?_)
    refine WL.c rfl (o_lt rfl rfl ?_)
    refine WL.nil ?_
    refine W.condT' rfl (by simp; omega) ?_
    refine W.skip ?_
    refine W.seq ?_
    refine W.block ?_
    refine W.seq ?_
    refine W.region ?_
    refine WL.c rfl (o_mvh h4 ?_)
    refine WL.c rfl (o_mvh h0 ?_)
    refine WL.c rfl (o_mvh h5 ?_)
    refine WL.c rfl (o_ix1 TI32 TI5 rfl rfl (hB.ext hx) (by omega) ?_)
    intro b19 o19 hc19 hb19
    refine WL.c rfl (o_ld TI5 rfl rfl (hc19.trans (getbv hk1)) ?_)
    refine WL.c rfl (o_call Try.call28 (lc rfl (lc rfl ln)) ((rbyte_spec w0.heap.size w0.heap.size vb xs[k] bs over _ hr ho hx.size).mono ?_))
    rintro v21 w21 ⟨rfl, vb1, hr1, ho1, hnw1⟩
    have hx1 : Ext w0 w21 := hx.trans' ho1 (fun _ h => h) (fun j hj he => by rcases he with he | he; omega; have := (hr.2.lt j he).1; omega)
    refine WL.c rfl (o_mv ?_)
    refine WL.c rfl (o_ext rfl rfl ?_)
    refine WL.c rfl (o_ext rfl rfl ?_)
    refine WL.c rfl (o_as ?_)
    refine WL.c rfl (o_as ?_)
    refine WL.nil ?_
    refine W.seq ?_
    refine W.region ?_
    refine WL.c rfl (o_mv ?_)
    refine WL.c rfl (o_ne rfl rfl ?_)
    refine WL.nil ?_
    refine W.cond rfl (fun c25 => ?_) (fun c25 => ?_)
    · try simp only [decide_eq_true_eq, decide_eq_false_iff_not, Bool.not_eq_true', Bool.not_eq_false', Bool.and_eq_true, Bool.or_eq_true, Bool.and_eq_false_iff, Bool.or_eq_false_iff] at c25
      refine W.seq ?_
      refine W.region ?_
      refine WL.c rfl (o_mv ?_)
      refine WL.c rfl (o_as ?_)
      refine WL.c rfl (o_as ?_)
      refine WL.nil ?_
      refine W.ret ?_
      refine ret2v rfl (show _ = Value.pointer _ from rfl) (show _ = Value.int _ _ from rfl) ?_
      have hne : ¬ rerr bs over xs[k] = 0 := by omega
      have h1 : (rload [] false xs).1 = rerr bs over xs[k] := by rw [hrl, hcons, rload, if_neg hne]
      exact ⟨by rw [h1, pOf, if_neg hne], fun h => absurd (h1 ▸ h) hne, hx1⟩
    · try simp only [decide_eq_true_eq, decide_eq_false_iff_not, Bool.not_eq_true', Bool.not_eq_false', Bool.and_eq_true, Bool.or_eq_true, Bool.and_eq_false_iff, Bool.or_eq_false_iff] at c25
      have hz : rerr bs over xs[k] = 0 := by omega
      refine W.skip ?_
      refine W.region ?_
      refine WL.c rfl (o_mvh h5 ?_)
      refine WL.c rfl (o_addi rfl rfl (by omega) ?_)
      refine WL.c rfl (o_as ?_)
      refine WL.nil ?_
      refine ⟨⟨k + 1, _, _, vb1, by omega, by rw [hrl, hcons, rload_cons hz], ho.next _, h0, h4, rfl, hr1, hx1⟩, ?_⟩
      show xs.length - ((k : Int) + 1).toNat < _
      rw [hm5]; simp [intOf]; omega
  · skip
    refine W.region ?_
    refine WL.c rfl (o_mvh h5 ?_)
    refine WL.c rfl (o_mvh h0 ?_)
    refine WL.c rfl (o_lenR TI32 rfl (hB.ext hx) ?_)
    refine WL.c rfl (o_lt rfl rfl ?_)
    refine WL.nil ?_
    refine W.condF' rfl (by simp; omega) ?_
    refine W.exit ?_
    refine W.seq ?_
    refine W.region ?_
    refine WL.c rfl (o_mvh h4 ?_)
    refine WL.c rfl (o_as ?_)
    refine WL.c rfl (o_as ?_)
    refine WL.nil ?_
    refine W.ret ?_
    refine ret2v rfl (show _ = Value.pointer _ from rfl) (show _ = Value.int _ _ from rfl) ?_
    have h1 : rload [] false xs = (0, bs, over) := by rw [hrl, List.drop_eq_nil_of_le (by omega)]; rfl
    exact ⟨by rw [h1]; rfl, fun _ => ⟨vb, by rw [h1]; exact hr⟩, hx⟩
end Go.Proofs.Ytieldjpbempkcaa
