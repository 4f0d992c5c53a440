/-
  Walks. Written by program out of specs of mine.
-/
import Derived.Test.YtcljkkfpcomdcaaJ
set_option linter.unusedSimpArgs false
set_option linter.unusedVariables false
set_option maxRecDepth 100000
namespace Go.Proofs.Ytcljkkfpcomdcaa
open Go Go.Vc Go.RowKit Go.Proofs

theorem fm_at {α : Type} {f : α → List Value} {s : Nat} (hs : ∀ a, (f a).length = s) (ts : List α) : ∀ (k : Nat) (hk : k < ts.length), ((ts.flatMap f).drop (k * s)).take s = f ts[k] := by
  induction ts with
  | nil => intro k hk; simp at hk
  | cons t ts ih =>
    intro k hk
    cases k with
    | zero => rw [Nat.zero_mul, List.drop_zero, List.flatMap_cons]; exact List.take_left' (hs t)
    | succ k =>
      have h1 : (k + 1) * s - (f t).length = k * s := by rw [hs, Nat.succ_mul]; omega
      have h2 : (f t).length ≤ (k + 1) * s := by rw [hs, Nat.succ_mul]; omega
      have := ih k (by simpa using hk)
      rw [List.flatMap_cons, List.drop_append, List.drop_eq_nil_of_le h2, List.nil_append, h1]
      exact this
theorem drows_at (D : List Df) (V : Nat → Value) {k : Nat} (hk : k < D.length) : ((drows D V).drop (k * 3)).take 3 = dcell (D.getD k df0) (V k) := by
  have h := fm_at (f := fun j => dcell (D.getD j df0) (V j)) (s := 3) (fun _ => rfl) (List.range D.length) k (by simpa using hk)
  rw [drows, h, List.getElem_range]
/-- definitions that are read -/
structure DefR (w : World) (D : List Df) (dv : Value) (V : Nat → Value) : Prop where
  row : Sl w 3 dv D.length (drows D V)
  tys : ∀ j, j < D.length → Sl w 7 (V j) (tyD D j).length (exs (tyD D j))
theorem DefR.only {w w' : World} {D : List Df} {dv : Value} {V : Nat → Value} {F : Nat → Prop} (h : DefR w D dv V) (ho : Only F w w') (hn : ∀ k, DF dv V D.length k → ¬ F k) : DefR w' D dv V :=
  ⟨h.row.only ho (fun k hk => hn k (.inl hk)), fun j hj => (h.tys j hj).only ho (fun k hk => hn k (.inr ⟨j, hj, hk⟩))⟩
theorem DefR.ext {w w' : World} {D : List Df} {dv : Value} {V : Nat → Value} (h : DefR w D dv V) (ho : Ext w w') : DefR w' D dv V := h.only ho (fun _ _ h => h)
theorem Defs.rd {w : World} {H : Nat} {D : List Df} {dv : Value} {V : Nat → Value} (h : Defs w H D dv V) : DefR w D dv V := ⟨Sl.own h.row, fun j hj => Sl.own (h.tys.row j hj)⟩
theorem DefR.at {w : World} {D : List Df} {dv : Value} {V : Nat → Value} (h : DefR w D dv V) {k : Nat} (hk : k < D.length) : ∃ b o c, dv = .slice (some ⟨b, o, none⟩) D.length c ∧ Cells w b (o + k * 3) (dcell (D.getD k df0) (V k)) := by
  rcases h.row.val with ⟨hz, h0⟩ | ⟨b, o, c, rfl, hnc, hc⟩
  · omega
  · exact ⟨b, o, c, rfl, by rw [← drows_at D V hk]; exact hc.sub _ _⟩
theorem sl_one1 {w : World} {s : Nat} {v : Value} {n : Nat} {xs : List Value} (h : Sl w s v n xs) : v.oneCell' = true := by
  obtain ⟨a, c, rfl⟩ := h.isSlice
  rfl
/-- names and numbers that a machine can hold -/
def DLim (D : List Df) : Prop := ∀ d ∈ D, d.name.length ≤ 9223372036854775807 ∧ d.ty.length ≤ 4611686018427387904 ∧ ∀ x ∈ d.ty, x.name.length ≤ 9223372036854775807 ∧ x.label.length ≤ 9223372036854775807
def chkT (l : List Ex) : Nat × Nat := chkE [⟨0, 1, 0⟩] 0 l
def chkA : Nat → List Df → Nat × Nat × Nat
  | _, [] => (0, 0, 0)
  | i, d :: ds => if nameB d.name = false then (i, 0, 62) else if (chkT d.ty).2 = 0 then chkA (i + 1) ds else (i, chkT d.ty)
def chkS (D : List Df) : Nat × Nat × Nat := if 256 < D.length then (256, 0, 5) else chkA 0 D
theorem chkA_nil {i : Nat} : chkA i [] = (0, 0, 0) := rfl
theorem chkA_cons {i : Nat} {d : Df} {ds : List Df} : chkA i (d :: ds) = if nameB d.name = false then (i, 0, 62) else if (chkT d.ty).2 = 0 then chkA (i + 1) ds else (i, chkT d.ty) := rfl
def rs3 (r : Nat × Nat × Nat) : Value := .tuple #[.int .i64 (r.1 : Int), .int .i64 (r.2.1 : Int), .int .i64 (r.2.2 : Int)]

set_option maxHeartbeats 2000000 in
theorem check_spec (D : List Df) (dv : Value) (V : Nat → Value) (w0 : World) (hD : DefR w0 D dv V) (hlim : DLim D) : Ca Try.prog 14 #[.agg #[dv]] w0 (fun r w' => r = rs3 (chkS D) ∧ Ext w0 w') := by
  refine Ca.of Try.func14 Try.ntmps14 rfl rfl ?_
  refine W.seq ?_
  refine W.region ?_
  refine WL.c rfl (o_boxB rfl ?_)
  intro w1 hC1 hx1 hs1
  have hx := hx1
  replace hC1 : w1.heap[w0.heap.size]? = some (.cells #[dv] 28 (0, 0)) := hC1
  obtain ⟨c1, hc1⟩ : ∃ c, c = w0.heap.size := ⟨_, rfl⟩
  rw [← hc1] at hC1 ⊢
  replace hD := hD.ext hx1
  refine WL.c rfl (o_ash (show _ = Value.int _ _ from rfl) ?_)
  refine WL.c rfl (o_ash (show _ = Value.int _ _ from rfl) ?_)
  refine WL.c rfl (o_ash (show _ = Value.int _ _ from rfl) ?_)
  refine WL.nil ?_
  refine W.seq ?_
  refine W.seq ?_
  refine W.region ?_
  refine WL.c rfl (o_fa 0 TI28 rfl TI26 rfl rfl ?_)
  refine WL.c rfl (o_ld TI26 rfl rfl (cell_of hC1 rfl) ?_)
  refine WL.c rfl (o_lenR TI26 rfl hD.row ?_)
  refine WL.c rfl (o_gt rfl rfl ?_)
  refine WL.nil ?_
  refine W.cond rfl (fun c12 => ?_) (fun c12 => ?_)
  · try simp only [decide_eq_true_eq, decide_eq_false_iff_not, Bool.not_eq_true', Bool.not_eq_false', Bool.and_eq_true, Bool.or_eq_true, Bool.and_eq_false_iff, Bool.or_eq_false_iff] at c12
    have hn : 256 < D.length := by omega
    refine W.seq ?_
    refine W.region ?_
    refine WL.c rfl (o_ash (show _ = Value.int _ _ from rfl) ?_)
    refine WL.c rfl (o_ash (show _ = Value.int _ _ from rfl) ?_)
    refine WL.c rfl (o_ash (show _ = Value.int _ _ from rfl) ?_)
    refine WL.nil ?_
    refine W.ret ?_
    refine ret3v rfl (show _ = Value.int _ _ from rfl) (show _ = Value.int _ _ from rfl) (show _ = Value.int _ _ from rfl) ?_
    exact ⟨by rw [chkS, if_pos hn]; rfl, hx⟩
  · try simp only [decide_eq_true_eq, decide_eq_false_iff_not, Bool.not_eq_true', Bool.not_eq_false', Bool.and_eq_true, Bool.or_eq_true, Bool.and_eq_false_iff, Bool.or_eq_false_iff] at c12
    have hn : ¬ 256 < D.length := by omega
    refine W.skip ?_
    refine W.seq ?_
    refine W.seq ?_
    refine W.region ?_
    refine WL.c rfl (o_fa 0 TI28 rfl TI26 rfl rfl ?_)
    refine WL.c rfl (o_ld TI26 rfl rfl (cell_of hC1 rfl) ?_)
    refine WL.c rfl (o_lenR TI26 rfl hD.row ?_)
    refine WL.c rfl (o_mvh (show _ = Value.int _ _ from rfl) ?_)
    refine WL.nil ?_
    refine W.block ?_
    refine W.loop (fun e w => ∃ i : Nat, i ≤ D.length ∧ e 14 = dv ∧ e 15 = .int .i64 (D.length : Int) ∧ e 16 = .int .i64 (i : Int) ∧ chkS D = chkA i (D.drop i) ∧ DefR w D dv V ∧ Ext w0 w) (fun e w => D.length - (intOf (e 16)).toNat) ?_ ?_
    · exact ⟨0, Nat.zero_le _, rfl, rfl, rfl, by rw [chkS, if_neg hn]; rfl, hD, hx⟩
    rintro e w ⟨i, hi, h14, h15, h16, hres, hD, hx⟩
    have hm16 := h16
    refine W.seq ?_
    refine W.region ?_
    refine WL.c rfl (o_lt h16 h15 ?_)
    refine WL.nil ?_
    refine W.seq ?_
    refine W.cond rfl (fun c17 => ?_) (fun c17 => ?_)
    · try simp only [decide_eq_true_eq, decide_eq_false_iff_not, Bool.not_eq_true', Bool.not_eq_false', Bool.and_eq_true, Bool.or_eq_true, Bool.and_eq_false_iff, Bool.or_eq_false_iff] at c17
      have hil : i < D.length := by omega
      obtain ⟨tb, to_, tc, rfl, htc⟩ := hD.at hil
      have htd : tyD D i = D[i].ty := by simp [tyD, List.getD_eq_getElem?_getD, hil]
      have hty := hD.tys i hil
      rw [htd] at hty
      rw [show D.getD i df0 = D[i] by simp [List.getD_eq_getElem?_getD, hil]] at htc
      have hdr : D.drop i = D[i] :: D.drop (i + 1) := (List.getElem_cons_drop hil).symm
      have hli := hlim _ (List.getElem_mem hil)
      refine W.skip ?_
      refine W.seq ?_
      refine W.block ?_
      refine W.seq ?_
      refine W.region ?_
      refine WL.c rfl (o_mvh h16 ?_)
      refine WL.c rfl (o_ixB TI26 TI40 h14 h16 (by omega) ?_)
      refine WL.c rfl (o_ldA TI40 rfl rfl htc rfl ?_)
      refine WL.c rfl (o_alB TI40 ?_)
      intro w6 hC6 hx6 hs6
      refine WL.c rfl (o_ash (show _ = Value.int _ _ from rfl) ?_)
      refine WL.u (o_stA TI40 rfl (show _ = Value.agg (dcell D[i] (V i)).toArray from rfl) rfl (by simp only [dcell, List.toArray, Array.toList, List.all_cons, List.all_nil, sl_one1 hty]; rfl) hC6 rfl ?_)
      intro w7 hC7 ho7 hs7
      have hxb := Ext.own hx6 (Nat.le_refl _) ho7
      clear hC6 hx6 hs6 ho7 hs7 htc
      replace hx := hx.tr hxb
      replace hD := hD.ext hxb
      replace hty := hty.ext hxb
      obtain ⟨c6, hc6⟩ : ∃ c, c = w.heap.size := ⟨_, rfl⟩
      rw [← hc6] at hC7 ⊢
      refine WL.nil ?_
      refine W.seq ?_
      refine W.seq ?_
      refine W.region ?_
      refine WL.c rfl (o_fa 0 TI40 rfl TI9 rfl rfl ?_)
      refine WL.c rfl (o_ld TI9 rfl rfl (cell_of hC7 rfl) ?_)
      refine WL.c rfl (o_call Try.call25 (lc rfl ln) ((name_spec D[i].name _ hli.1).mono ?_))
      rintro v23 w23 ⟨rfl, rfl⟩
      refine WL.c rfl (o_not' rfl ?_)
      refine WL.nil ?_
      refine W.cond rfl (fun c24 => ?_) (fun c24 => ?_)
      · try simp only [decide_eq_true_eq, decide_eq_false_iff_not, Bool.not_eq_true', Bool.not_eq_false', Bool.and_eq_true, Bool.or_eq_true, Bool.and_eq_false_iff, Bool.or_eq_false_iff] at c24
        have hnm : nameB D[i].name = false := by simpa using c24
        refine W.seq ?_
        refine W.region ?_
        refine WL.c rfl (o_mvh (show _ = Value.int _ _ from rfl) ?_)
        refine WL.c rfl (o_ash (show _ = Value.int _ _ from rfl) ?_)
        refine WL.c rfl (o_ash (show _ = Value.int _ _ from rfl) ?_)
        refine WL.c rfl (o_ash (show _ = Value.int _ _ from rfl) ?_)
        refine WL.nil ?_
        refine W.ret ?_
        refine ret3v rfl (show _ = Value.int _ _ from rfl) (show _ = Value.int _ _ from rfl) (show _ = Value.int _ _ from rfl) ?_
        rw [hres, hdr, chkA_cons, if_pos hnm]
        exact ⟨rfl, hx⟩
      · try simp only [decide_eq_true_eq, decide_eq_false_iff_not, Bool.not_eq_true', Bool.not_eq_false', Bool.and_eq_true, Bool.or_eq_true, Bool.and_eq_false_iff, Bool.or_eq_false_iff] at c24
        have hnm : nameB D[i].name = true := by simpa using c24
        refine W.skip ?_
        refine W.seq ?_
        refine W.region ?_
        refine WL.c rfl (o_fa 2 TI40 rfl TI38 rfl rfl ?_)
        refine WL.c rfl (o_ld TI38 rfl rfl (cell_of hC7 rfl) ?_)
        refine WL.c rfl (o_call Try.call26 (lc rfl ln) ((checked_spec D[i].ty (V i) _ hty hli.2.1 hli.2.2).mono ?_))
        rintro v29 w29 ⟨rfl, hx29⟩
        replace hx := hx.tr hx29
        replace hD := hD.ext hx29
        refine WL.c rfl (o_mvh (by first | exact (show _ = Value.tuple _ from rfl) | exact rfl) ?_)
        refine WL.c rfl (o_ext rfl rfl ?_)
        refine WL.c rfl (o_ext rfl rfl ?_)
        refine WL.c rfl (o_ash (show _ = Value.int _ _ from rfl) ?_)
        refine WL.c rfl (o_ash (show _ = Value.int _ _ from rfl) ?_)
        refine WL.nil ?_
        refine W.seq ?_
        refine W.region ?_
        refine WL.c rfl (o_mvh (show _ = Value.int _ _ from rfl) ?_)
        refine WL.c rfl (o_ne rfl rfl ?_)
        refine WL.nil ?_
        refine W.cond rfl (fun c33 => ?_) (fun c33 => ?_)
        · try simp only [decide_eq_true_eq, decide_eq_false_iff_not, Bool.not_eq_true', Bool.not_eq_false', Bool.and_eq_true, Bool.or_eq_true, Bool.and_eq_false_iff, Bool.or_eq_false_iff] at c33
          have hce : ¬ (chkT D[i].ty).2 = 0 := by have : (chkT D[i].ty).2 = (chkE [⟨0, 1, 0⟩] 0 D[i].ty).2 := rfl; omega
          refine W.seq ?_
          refine W.region ?_
          refine WL.c rfl (o_mvh (show _ = Value.int _ _ from rfl) ?_)
          refine WL.c rfl (o_mvh (show _ = Value.int _ _ from rfl) ?_)
          refine WL.c rfl (o_mvh (show _ = Value.int _ _ from rfl) ?_)
          refine WL.c rfl (o_ash (show _ = Value.int _ _ from rfl) ?_)
          refine WL.c rfl (o_ash (show _ = Value.int _ _ from rfl) ?_)
          refine WL.c rfl (o_ash (show _ = Value.int _ _ from rfl) ?_)
          refine WL.nil ?_
          refine W.ret ?_
          refine ret3v rfl (show _ = Value.int _ _ from rfl) (show _ = Value.int _ _ from rfl) (show _ = Value.int _ _ from rfl) ?_
          rw [hres, hdr, chkA_cons, if_neg (by simp [hnm]), if_neg hce]
          exact ⟨rfl, hx⟩
        · try simp only [decide_eq_true_eq, decide_eq_false_iff_not, Bool.not_eq_true', Bool.not_eq_false', Bool.and_eq_true, Bool.or_eq_true, Bool.and_eq_false_iff, Bool.or_eq_false_iff] at c33
          have hce : (chkT D[i].ty).2 = 0 := by have : (chkT D[i].ty).2 = (chkE [⟨0, 1, 0⟩] 0 D[i].ty).2 := rfl; omega
          refine W.skip ?_
          refine W.region ?_
          refine WL.c rfl (o_addi h16 rfl (by omega) ?_)
          refine WL.c rfl (o_mvh (show _ = Value.int _ _ from rfl) ?_)
          refine WL.nil ?_
          refine ⟨⟨i + 1, by omega, h14, h15, rfl, ?_, hD, hx⟩, ?_⟩
          · rw [hres, hdr, chkA_cons, if_neg (by simp [hnm]), if_pos hce]
          · show D.length - ((i : Int) + 1).toNat < _
            rw [hm16]; simp [intOf]; omega
    · try simp only [decide_eq_true_eq, decide_eq_false_iff_not, Bool.not_eq_true', Bool.not_eq_false', Bool.and_eq_true, Bool.or_eq_true, Bool.and_eq_false_iff, Bool.or_eq_false_iff] at c17
      have hil : i = D.length := by omega
      rw [hil, List.drop_length, chkA_nil] at hres
      refine W.exit ?_
      refine W.seq ?_
      refine W.region ?_
      refine WL.c rfl (o_ash (show _ = Value.int _ _ from rfl) ?_)
      refine WL.c rfl (o_ash (show _ = Value.int _ _ from rfl) ?_)
      refine WL.c rfl (o_ash (show _ = Value.int _ _ from rfl) ?_)
      refine WL.nil ?_
      refine W.ret ?_
      refine ret3v rfl (show _ = Value.int _ _ from rfl) (show _ = Value.int _ _ from rfl) (show _ = Value.int _ _ from rfl) ?_
      rw [hres]
      exact ⟨rfl, hx⟩
end Go.Proofs.Ytcljkkfpcomdcaa
