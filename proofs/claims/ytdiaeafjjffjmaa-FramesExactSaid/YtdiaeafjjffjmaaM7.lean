/-
  Walks. Written by program out of specs of mine.
-/
import Derived.Test.YtdiaeafjjffjmaaM6
import Derived.Test.YtdiaeafjjffjmaaXtra
set_option linter.unusedSimpArgs false
set_option linter.unusedVariables false
set_option maxRecDepth 100000
namespace Go.Proofs.Ytdiaeafjjffjmaa
open Go Go.Vc Go.RowKit Go.Proofs

theorem Good.push {s : SSt} {f : Fr} (h : Good s) (hl : s.L.length ≤ s.most) : Good ⟨s.most, (pushR s.most s.high s.L f).2.1, (pushR s.most s.high s.L f).2.2⟩ := by
  rw [pushR]
  split
  · exact ⟨h.most, h.high, h.whole⟩
  · split
    · rename_i h1 h2
      have := h.most; have := h.high
      refine ⟨h.most, by show max _ _ ≤ _; omega, fun g hg => ?_⟩
      rcases List.mem_append.1 hg with hg | hg
      · exact h.whole g hg
      · rw [List.mem_singleton.1 hg]; exact h2
    · exact ⟨h.most, h.high, h.whole⟩
theorem Good.set {s : SSt} {g : Fr} {j : Nat} (h : Good s) (hg : fwhole g = true) : Good ⟨s.most, s.high, s.L.set j g⟩ := ⟨h.most, h.high, fun x hx => by
  rcases List.mem_or_eq_of_mem_set hx with hx | rfl
  · exact h.whole x hx
  · exact hg⟩
theorem Good.same {s : SSt} (h : Good s) : Good ⟨s.most, s.high, s.L⟩ := ⟨h.most, h.high, h.whole⟩
theorem Good.setR {s : SSt} {f : Fr} (h : Good s) : Good ⟨s.most, s.high, (setR s.L f).2⟩ := by
  rw [Go.Proofs.Ytdiaeafjjffjmaa.setR]
  split
  · exact h.same
  · split
    · rename_i h1 h2; exact h.set h2
    · exact h.same
theorem Good.topW {s : SSt} (h : Good s) (hl : ¬ s.L.length = 0) : fwhole (topF s.L) = true := by
  apply h.whole
  rw [topF, List.getD_eq_getElem?_getD, List.getElem?_eq_getElem (by omega), Option.getD_some]
  exact List.getElem_mem _
theorem Good.goR {s : SSt} {f : Fr} (h : Good s) : Good ⟨s.most, s.high, (goR s.L f).2⟩ := by
  rw [Go.Proofs.Ytdiaeafjjffjmaa.goR]
  split
  · exact h.same
  · split
    · rename_i h1 h2
      refine h.set ?_
      have h3 := h.topW h1
      rw [fwhole, Bool.and_eq_true] at h3 ⊢
      exact ⟨h2, h3.2⟩
    · exact h.same
theorem Good.markR {s : SSt} {a : Int} (h : Good s) : Good ⟨s.most, s.high, (markR s.L a).2⟩ := by
  rw [Go.Proofs.Ytdiaeafjjffjmaa.markR]
  split
  · exact h.same
  · split
    · split
      · exact h.same
      · rename_i h1 h2 h4
        refine h.set ?_
        have h3 := h.topW h1
        rw [fwhole, Bool.and_eq_true] at h3 ⊢
        refine ⟨h3.1, ?_⟩
        have h5 := h3.2
        rw [tright, Bool.and_eq_true, decide_eq_true_eq] at h5 ⊢
        refine ⟨by simp only [List.length_append, List.length_singleton]; omega, ?_⟩
        rw [List.all_append, h5.2]
        simpa using h2
    · exact h.same
theorem Good.pop {s : SSt} (h : Good s) : Good ⟨s.most, s.high, s.L.take (s.L.length - 1)⟩ := ⟨h.most, h.high, fun f hf => h.whole f (List.mem_of_mem_take hf)⟩
theorem Tb.turnP {w w' : World} {H tp i : Nat} {o : Nat → Nat} {S R : Nat → Option SSt} {P Q : Nat → Value} {a b c d : Value} {nl nb : Nat} {VA VB VC VD : Nat → Value} {p high' : Nat} {s : SSt} {lv lv' : Value} {V V' : Nat → Value} {L' : List Fr} (h : Tb w H tp o S R P Q a b c d nl nb VA VB VC VD) (hi : i < 2) (hPi : P i = .pointer (some ⟨p, 0, none⟩)) (hp : Stk w 0 p s.most s.high s.L lv V) (hpi : ∀ k, SF p lv V s.L.length k → o k = 1 + i)
    (t : Turn w w' 0 p s.most s.high s.L lv V high' L' lv' V') (hg : Good ⟨s.most, high', L'⟩) : ∃ o', Tb w' H tp o' (setF S i (some ⟨s.most, high', L'⟩)) R P Q a b c d nl nb VA VB VC VD ∧ (∀ k, SF p lv' V' L'.length k → o' k = 1 + i) ∧ (∀ k, k < w.heap.size → o k ≠ 1 + i → o' k = o k) ∧ (∀ k, SF p lv V s.L.length k → ¬ SF p lv' V' L'.length k → o' k = 0) := by
  obtain ⟨o', e1, e2, e3⟩ : ∃ o' : Nat → Nat, (∀ k, SF p lv' V' L'.length k → o' k = 1 + i) ∧ (∀ k, SF p lv V s.L.length k → ¬ SF p lv' V' L'.length k → o' k = 0) ∧ (∀ k, ¬ SF p lv V s.L.length k → ¬ SF p lv' V' L'.length k → o' k = o k) := by
    classical
    refine ⟨fun k => if SF p lv' V' L'.length k then 1 + i else if SF p lv V s.L.length k then 0 else o k, fun k hk => if_pos hk, fun k hk hn => ?_, fun k h1 h2 => ?_⟩
    · show (if _ then _ else _) = _
      rw [if_neg hn, if_pos hk]
    · show (if _ then _ else _) = _
      rw [if_neg h2, if_neg h1]
  have e4 : ∀ k, k < w.heap.size → o k ≠ 1 + i → o' k = o k := fun k hk hn => e3 k (fun h1 => hn (hpi k h1)) (fun h1 => by
    rcases t.new k h1 with h2 | h2
    · exact hn (hpi k h2)
    · omega)
  have hot := h.otp
  have htl := h.tlt
  have hle := h.le
  have hsz := t.only.size
  have st : ∀ j, j ≠ 0 → j ≠ 1 + i → Stp (SF p lv V s.L.length) o o' j w w' := fun j h0 hj => ⟨t.only, fun k hk1 hk2 => ⟨fun hF => hj (by rw [← hk2, hpi k hF]), by rw [e4 k hk1 (by omega)]; exact hk2⟩⟩
  refine ⟨o', ⟨t.only.blk h.cell (fun hF => by have := hpi tp hF; omega), by rw [e4 tp htl (by omega)]; exact hot, Nat.le_trans hle hsz, fun k hk => ?_, fun k hk => ?_, fun j hj => ?_, fun j hj => (h.rs j hj).stp (st _ (by omega) (by omega)), fun j hj u hu => ?_, h.gr, h.bk.stp (F := SF p lv V s.L.length) (fun id h1 h2 h3 => st _ (by omega) (by omega))⟩, e1, e4, e2⟩
  · rw [e4 k (by omega) (by have := h.lo k hk; omega)]; exact h.lo k hk
  · rw [e3 k (fun h1 => by have := (hp.lt k h1).2; omega) (fun h1 => by have := (t.stk.lt k h1).2; omega)]; exact h.hi k (by omega)
  · by_cases e : j = i
    · subst e
      rw [setF_eq]
      exact .inr ⟨_, p, lv', V', rfl, hPi, t.stk, e1⟩
    · rw [setF_ne _ _ e]
      exact (h.ps j hj).stp (st _ (by omega) (by omega))
  · by_cases e : j = i
    · subst e; rw [setF_eq] at hu; cases hu; exact hg
    · rw [setF_ne _ _ e] at hu; exact h.gs j hj u hu
theorem Tb.turnR {w w' : World} {H tp i : Nat} {o : Nat → Nat} {S R : Nat → Option SSt} {P Q : Nat → Value} {a b c d : Value} {nl nb : Nat} {VA VB VC VD : Nat → Value} {p high' : Nat} {s : SSt} {lv lv' : Value} {V V' : Nat → Value} {L' : List Fr} (h : Tb w H tp o S R P Q a b c d nl nb VA VB VC VD) (hi : i < 2) (hPi : Q i = .pointer (some ⟨p, 0, none⟩)) (hp : RStk w 0 p s.most s.high s.L lv V) (hpi : ∀ k, SF p lv V s.L.length k → o k = 3 + i)
    (t : RTurn w w' 0 p s.most s.high s.L lv V high' L' lv' V') (hg : Good ⟨s.most, high', L'⟩) : ∃ o', Tb w' H tp o' S (setF R i (some ⟨s.most, high', L'⟩)) P Q a b c d nl nb VA VB VC VD ∧ (∀ k, SF p lv' V' L'.length k → o' k = 3 + i) ∧ (∀ k, k < w.heap.size → o k ≠ 3 + i → o' k = o k) ∧ (∀ k, SF p lv V s.L.length k → ¬ SF p lv' V' L'.length k → o' k = 0) := by
  obtain ⟨o', e1, e2, e3⟩ : ∃ o' : Nat → Nat, (∀ k, SF p lv' V' L'.length k → o' k = 3 + i) ∧ (∀ k, SF p lv V s.L.length k → ¬ SF p lv' V' L'.length k → o' k = 0) ∧ (∀ k, ¬ SF p lv V s.L.length k → ¬ SF p lv' V' L'.length k → o' k = o k) := by
    classical
    refine ⟨fun k => if SF p lv' V' L'.length k then 3 + i else if SF p lv V s.L.length k then 0 else o k, fun k hk => if_pos hk, fun k hk hn => ?_, fun k h1 h2 => ?_⟩
    · show (if _ then _ else _) = _
      rw [if_neg hn, if_pos hk]
    · show (if _ then _ else _) = _
      rw [if_neg h2, if_neg h1]
  have e4 : ∀ k, k < w.heap.size → o k ≠ 3 + i → o' k = o k := fun k hk hn => e3 k (fun h1 => hn (hpi k h1)) (fun h1 => by
    rcases t.new k h1 with h2 | h2
    · exact hn (hpi k h2)
    · omega)
  have hot := h.otp
  have htl := h.tlt
  have hle := h.le
  have hsz := t.only.size
  have st : ∀ j, j ≠ 0 → j ≠ 3 + i → Stp (SF p lv V s.L.length) o o' j w w' := fun j h0 hj => ⟨t.only, fun k hk1 hk2 => ⟨fun hF => hj (by rw [← hk2, hpi k hF]), by rw [e4 k hk1 (by omega)]; exact hk2⟩⟩
  refine ⟨o', ⟨t.only.blk h.cell (fun hF => by have := hpi tp hF; omega), by rw [e4 tp htl (by omega)]; exact hot, Nat.le_trans hle hsz, fun k hk => ?_, fun k hk => ?_, fun j hj => (h.ps j hj).stp (st _ (by omega) (by omega)), fun j hj => ?_, h.gs, fun j hj u hu => ?_, h.bk.stp (F := SF p lv V s.L.length) (fun id h1 h2 h3 => st _ (by omega) (by omega))⟩, e1, e4, e2⟩
  · rw [e4 k (by omega) (by have := h.lo k hk; omega)]; exact h.lo k hk
  · rw [e3 k (fun h1 => by have := (hp.lt k h1).2; omega) (fun h1 => by have := (t.stk.lt k h1).2; omega)]; exact h.hi k (by omega)
  · by_cases e : j = i
    · subst e
      rw [setF_eq]
      exact .inr ⟨_, p, lv', V', rfl, hPi, t.stk, e1⟩
    · rw [setF_ne _ _ e]
      exact (h.rs j hj).stp (st _ (by omega) (by omega))
  · by_cases e : j = i
    · subst e; rw [setF_eq] at hu; cases hu; exact hg
    · rw [setF_ne _ _ e] at hu; exact h.gr j hj u hu

theorem Tb.two {w w1 w2 : World} {H tp i : Nat} {o : Nat → Nat} {S : Nat → Option SSt} {P Q : Nat → Value} {a b c d : Value} {nl nb : Nat} {VA VB VC VD : Nat → Value} {p q high' : Nat} {s : SSt} {lv lv' lq lq' : Value} {V V' Vq Vq' : Nat → Value} {L' : List Fr} (h : Tb w H tp o S S P Q a b c d nl nb VA VB VC VD) (hi : i < 2) (hPi : P i = .pointer (some ⟨p, 0, none⟩)) (hp : Stk w 0 p s.most s.high s.L lv V) (hpi : ∀ k, SF p lv V s.L.length k → o k = 1 + i)
    (hQi : Q i = .pointer (some ⟨q, 0, none⟩)) (hq : RStk w 0 q s.most s.high s.L lq Vq) (hqi : ∀ k, SF q lq Vq s.L.length k → o k = 3 + i) (t1 : Turn w w1 0 p s.most s.high s.L lv V high' L' lv' V') (t2 : RTurn w1 w2 0 q s.most s.high s.L lq Vq high' L' lq' Vq') (hg : Good ⟨s.most, high', L'⟩) :
    ∃ o', Tb w2 H tp o' (setF S i (some ⟨s.most, high', L'⟩)) (setF S i (some ⟨s.most, high', L'⟩)) P Q a b c d nl nb VA VB VC VD ∧ (∀ k, k < w.heap.size → o k ≠ 1 + i → o k ≠ 3 + i → o' k = o k) ∧ (∀ k, SF p lv V s.L.length k → ¬ SF p lv' V' L'.length k → o' k = 0) := by
  obtain ⟨o1, h1, a1, a2, a3⟩ := h.turnP hi hPi hp hpi t1 hg
  have hsz := t1.only.size
  obtain ⟨o2, h2, b1, b2, b3⟩ := h1.turnR (s := s) hi hQi (hq.only t1.only (fun k hk hF => by have := hpi k hF; have := hqi k hk; omega)) (fun k hk => by rw [a2 k (hq.lt k hk).2 (by have := hqi k hk; omega)]; exact hqi k hk) t2 hg
  exact ⟨o2, h2, fun k hk hn hn2 => by rw [b2 k (by omega) (by rw [a2 k hk hn]; exact hn2)]; exact a2 k hk hn, fun k hk hn => by rw [b2 k (by have := (hp.lt k hk).2; omega) (by rw [a3 k hk hn]; omega)]; exact a3 k hk hn⟩
/-- a call of the program's, then the document's, then a block of our own written -/
def WdT (A B : World → World → Prop) (g : Nat) (wd : World) : Nat → World → Prop
  | 0, w => Ext wd w
  | 1, w => A wd w
  | 2, w => ∃ w1, A wd w1 ∧ B w1 w
  | _, w => ∃ w1 w2, A wd w1 ∧ B w1 w2 ∧ Only (fun k => k = g) w2 w
theorem WdT.ext {A B : World → World → Prop} {g : Nat} {wd : World} (hA : ∀ a b c, A a b → Ext b c → A a c) (hB : ∀ a b c, B a b → Ext b c → B a c) : ∀ t a b, WdT A B g wd t a → Ext a b → WdT A B g wd t b
  | 0, a, b, h, k => Only.tr h k
  | 1, a, b, h, k => hA _ _ _ h k
  | 2, a, b, ⟨w1, h1, h2⟩, k => ⟨w1, h1, hB _ _ _ h2 k⟩
  | _ + 3, a, b, ⟨w1, w2, h1, h2, h3⟩, k => ⟨w1, w2, h1, h2, h3.ext k⟩
def opc (kd : Int) (wh : Bool) (f : Fr) (fv : Value) (n : Int) (bw : Value) : List Value := .int .i64 kd :: .bool wh :: (fcells f fv ++ [.int .i64 n, bw])
theorem opc_at {kd : Int} {wh : Bool} {f : Fr} {fv : Value} {n : Int} {bw : Value} : ((opc kd wh f fv n bw).drop 2).take 7 = fcells f fv := rfl


theorem opc_cells {w : World} {b T : Nat} {kd : Int} {wh : Bool} {f : Fr} {fv : Value} {n : Int} {bw : Value} {fr : Nat × Nat} (h : w.heap[b]? = some (.cells (opc kd wh f fv n bw).toArray T fr)) : Cells w b 2 (fcells f fv) := Cells.of h 2 _ (fun i v hv => by
  have hi : i < (fcells f fv).length := (List.getElem?_eq_some_iff.1 hv).1
  rw [List.getElem?_toArray, Nat.add_comm]
  show (fcells f fv ++ [.int .i64 n, bw])[i]? = _
  rw [List.getElem?_append_left hi]; exact hv)
theorem setF_some {α : Type} {S : Nat → Option α} {i : Nat} {x : α} : ∀ j, (S j).isSome = true → (setF S i (some x) j).isSome = true := fun j hj => by
  by_cases e : j = i
  · subst e; rw [setF_eq]; rfl
  · rw [setF_ne _ _ e]; exact hj

set_option maxHeartbeats 4000000 in
theorem moves_spec (H tp : Nat) (o : Nat → Nat) (S : Nat → Option SSt) (P Q : Nat → Value) (a b c d : Value) (nl nb : Nat) (VA VB VC VD : Nat → Value) (w0 : World) (h : Tb w0 H tp o S S P Q a b c d nl nb VA VB VC VD) (i : Nat) (hi : i < 2) (s : SSt) (hs : S i = some s) (kd : Int) (wh : Bool) (f : Fr) (fv : Value) (n : Int) (bw : Value) (hF : ∀ w, Only (fun k => H ≤ k) w0 w → In w fv f.tab) (hfl : f.tab.length ≤ 1000000) (hnl : nl + 1 ≤ 1000000000000) : Ca Try.prog 41 #[.pointer (some ⟨tp, 0, none⟩), .int .i64 (i : Int), .agg (opc kd wh f fv n bw).toArray] w0 (fun v w' => v = .bool true ∧ (∃ S' nl', nl' ≤ nl + 1 ∧ TbX w' H tp S' nl' nb ∧ ∀ j, (S j).isSome = true → (S' j).isSome = true) ∧ Only (fun k => H ≤ k) w0 w') := by
  obtain ⟨p, lv, V, hPi, hp, hpi⟩ := h.getP hi hs
  obtain ⟨q, lq, Vq, hQi, hq, hqi⟩ := h.getR hi hs
  have hgs := h.gs i hi s hs
  have htab := topF_tab hp
  have hsl := hp.len
  have hx : Ext w0 w0 := Only.refl _ _
  have hle := h.le
  have hhi0 := h.hi
  refine Ca.of Try.func41 Try.ntmps41 rfl rfl ?_
  refine W.seq ?_
  refine W.region ?_
  refine WL.c rfl (o_boxB rfl ?_)
  intro w5 hC5 hx5 hs5
  replace hC5 : w5.heap[w0.heap.size]? = some (.cells (opc kd wh f fv n bw).toArray 58 (0, 0)) := hC5
  replace hx := hx5
  replace h := h.ext hx5
  replace hp := hp.ext hx5
  replace hq := hq.ext hx5
  refine WL.c rfl (o_ash (show _ = Value.bool _ from rfl) ?_)
  refine WL.nil ?_
  refine W.seq ?_
  refine W.region ?_
  refine WL.c rfl (o_mvh (by first | exact (show _ = Value.pointer _ from rfl) | exact rfl) ?_)
  refine WL.c rfl (o_mvh (show _ = Value.int _ _ from rfl) ?_)
  refine WL.c rfl (o_nil rfl ?_)
  refine WL.c rfl (o_fa 0 TI55 rfl TI47 rfl rfl ?_)
  refine WL.c rfl (o_ixA TI47 TI25 rfl rfl (by omega) ?_)
  refine WL.c rfl (o_ld TI25 rfl rfl ((h.cellP hi).trans (congrArg some hPi)) ?_)
  refine WL.c rfl (o_ash (by first | exact (show _ = Value.pointer _ from rfl) | exact rfl) ?_)
  refine WL.nil ?_
  refine W.seq ?_
  refine W.region ?_
  refine WL.c rfl (o_mvh (by first | exact (show _ = Value.pointer _ from rfl) | exact rfl) ?_)
  refine WL.c rfl (o_mvh (show _ = Value.int _ _ from rfl) ?_)
  refine WL.c rfl (o_nil rfl ?_)
  refine WL.c rfl (o_fa 2 TI55 rfl TI49 rfl rfl ?_)
  refine WL.c rfl (o_ixA TI49 TI48 rfl rfl (by omega) ?_)
  refine WL.c rfl (o_ld TI48 rfl rfl ((h.cellR hi).trans (congrArg some hQi)) ?_)
  refine WL.c rfl (o_ash (by first | exact (show _ = Value.pointer _ from rfl) | exact rfl) ?_)
  refine WL.nil ?_
  refine W.seq ?_
  refine W.region ?_
  refine WL.c rfl (o_fa 2 TI58 rfl TI39 rfl rfl ?_)
  refine WL.c rfl (o_ldA TI39 rfl rfl (opc_cells hC5) rfl ?_)
  refine WL.c rfl (o_call Try.call55 (lc rfl ln) ((lent_spec f fv _ (hF _ (hx.mono (fun _ _ h => h.elim))) (by omega)).mono ?_))
  rintro v33 w33 ⟨g, cap, rfl, hg, hown, hx33⟩
  have hg0 : w0.heap.size ≤ g := by have := hx.size; omega
  replace hx := hx.tr hx33
  replace h := h.ext hx33
  replace hp := hp.ext hx33
  replace hq := hq.ext hx33
  replace hC5 := Only.blk hx33 hC5 (fun h => h)
  refine WL.c rfl (o_alB TI39 ?_)
  intro wa9 hCa hxa hsa
  refine WL.u (o_stA TI39 rfl (show _ = Value.agg (fcells f (Value.slice (some ⟨g, 0, none⟩) f.tab.length cap)).toArray from rfl) rfl (fcells_one rfl) hCa rfl ?_)
  intro wb9 hB9 hob hsb
  have hxb := Ext.own hxa (Nat.le_refl _) hob
  have hgn : g < w33.heap.size := (hown.lt g rfl).2
  have hc9 : w5.heap.size ≤ w33.heap.size := hx33.size
  clear hCa hxa hsa hob hsb
  replace hx := hx.tr hxb
  replace h := h.ext hxb
  replace hp := hp.ext hxb
  replace hq := hq.ext hxb
  replace hC5 := Only.blk hxb hC5 (fun h => h)
  replace hown := own_ext hown hxb
  clear hxb
  have hhi := h.hi
  have hgo : o g = 0 := hhi0 g hg0
  have hpH : ∀ k, SF p lv V s.L.length k → H ≤ k := fun k hk => Nat.le_of_not_lt (fun h1 => by have h2 := hpi k hk; have h3 := h.lo k h1; omega)
  have hqH : ∀ k, SF q lq Vq s.L.length k → H ≤ k := fun k hk => Nat.le_of_not_lt (fun h1 => by have h2 := hqi k hk; have h3 := h.lo k h1; omega)
  refine WL.nil ?_
  refine W.seq ?_
  refine W.seq ?_
  refine W.region ?_
  refine WL.c rfl (o_fa 0 TI58 rfl TI3 rfl rfl ?_)
  refine WL.c rfl (o_ld TI3 rfl rfl (cell_of hC5 rfl) ?_)
  refine WL.nil ?_
  refine W.block ?_
  refine W.seq ?_
  refine W.region ?_
  refine WL.c rfl (o_eq rfl rfl ?_)
  refine WL.c rfl (o_ash (show _ = Value.bool _ from rfl) ?_)
  refine WL.nil ?_
  refine W.cond rfl (fun c36 => ?_) (fun c36 => ?_)
  · try simp only [decide_eq_true_eq, decide_eq_false_iff_not, Bool.not_eq_true', Bool.not_eq_false', Bool.and_eq_true, Bool.or_eq_true, Bool.and_eq_false_iff, Bool.or_eq_false_iff] at c36
    refine W.seq ?_
    obtain ⟨wd, hwd⟩ : ∃ wd, wd = wb9.drew := ⟨_, rfl⟩
    have hxd : Ext wb9 wd := hwd ▸ Only.drew wb9
    replace hx := hx.tr hxd
    replace h := h.ext hxd
    replace hp := hp.ext hxd
    replace hq := hq.ext hxd
    replace hC5 := Only.blk hxd hC5 (fun h => h)
    replace hown := own_ext hown hxd
    replace hB9 := Only.blk hxd hB9 (fun h => h)
    have hxH : Only (fun k => H ≤ k) w0 wd := hx.mono (fun _ _ h => h.elim)
    have nc5 : ¬ ((fun k => o k = 1 + i ∨ o k = 3 + i ∨ k = g) w0.heap.size) := fun hF => by have h1 := hhi0 w0.heap.size (Nat.le_refl _); have h2 : w0.heap.size < g := (by have := hx5.size; omega); simp only at hF; omega
    have nc9 : ¬ ((fun k => o k = 1 + i ∨ o k = 3 + i ∨ k = g) w33.heap.size) := fun hF => by have h1 := hhi0 w33.heap.size (by have := hx5.size; omega); simp only at hF; omega
    have hgd : g < wd.heap.size := (hown.lt g rfl).2
    have hA : ∀ a b c, (∃ lv' V', Turn a b 0 p s.most s.high s.L lv V ((pushR s.most s.high s.L f).2.1) ((pushR s.most s.high s.L f).2.2) lv' V') → Ext b c → (∃ lv' V', Turn a c 0 p s.most s.high s.L lv V ((pushR s.most s.high s.L f).2.1) ((pushR s.most s.high s.L f).2.2) lv' V') := fun a b c h k => by obtain ⟨x, y, h⟩ := h; exact ⟨x, y, h.post k⟩
    have hB : ∀ a b c, (∃ lq' Vq', RTurn a b 0 q s.most s.high s.L lq Vq ((pushR s.most s.high s.L f).2.1) ((pushR s.most s.high s.L f).2.2) lq' Vq') → Ext b c → (∃ lq' Vq', RTurn a c 0 q s.most s.high s.L lq Vq ((pushR s.most s.high s.L f).2.1) ((pushR s.most s.high s.L f).2.2) lq' Vq') := fun a b c h k => by obtain ⟨x, y, h⟩ := h; exact ⟨x, y, h.post k⟩
    refine W.drawC 15 [2, 7, 13] (fun _ => Only (fun k => o k = 1 + i ∨ o k = 3 + i ∨ k = g)) (WdT (fun a b => ∃ lv' V', Turn a b 0 p s.most s.high s.L lv V ((pushR s.most s.high s.L f).2.1) ((pushR s.most s.high s.L f).2.2) lv' V') (fun a b => ∃ lq' Vq', RTurn a b 0 q s.most s.high s.L lq Vq ((pushR s.most s.high s.L f).2.1) ((pushR s.most s.high s.L f).2.2) lq' Vq') g wd) [(5, fun v _ => v = (Value.pointer (some ⟨w0.heap.size, 0, none⟩))), (7, fun v _ => v = (Value.pointer (some ⟨p, 0, none⟩))), (8, fun v _ => v = (Value.pointer (some ⟨q, 0, none⟩))), (9, fun v _ => v = (Value.pointer (some ⟨w33.heap.size, 0, none⟩)))] rfl (by kernel_rfl) (by kernel_rfl) (fun _ _ _ h => h.mono (fun _ _ h => h.elim)) (fun _ _ _ h => h) (fun _ _ _ h k => h.trans k) (WdT.ext hA hB) (by rw [← hwd]; exact Only.refl No _) ⟨Mono.eq, Mono.eq, Mono.eq, Mono.eq, trivial⟩ ⟨rfl, rfl, rfl, rfl, trivial⟩ ?_
    refine WDS.p rfl (by decide) (fun e w hR hh => by obtain ⟨h7, -⟩ := hh; exact SG.n (o_mvh h7 ⟨rfl, Only.refl No _⟩)) ?_
    refine WDS.p rfl (by decide) (fun e w hR hh => by obtain ⟨h9, -⟩ := hh; rw [← hwd] at hR; have hc := hR.blk hB9 nc9; exact SG.n (o_ldA TI39 rfl h9 (show Cells w w33.heap.size 0 (fcells f (Value.slice (some ⟨g, 0, none⟩) f.tab.length cap)) from Cells.of hc 0 _ (by simp)) rfl ⟨rfl, Only.refl No _⟩)) ?_
    refine WDS.m 0 0 (fun v _ => v = _) (Mono.eq) (by kernel_rfl) rfl rfl (fun e w hR hW hh => by obtain ⟨h39, h38, -⟩ := hh; rw [← hwd] at hR; replace hW : Ext wd w := hW; have hIn : In w (Value.slice (some ⟨g, 0, none⟩) f.tab.length cap) f.tab := (by have h9 := Sl.own (own_take (own_ext hown hW) (show f.tab.length ≤ f.tab.length + 1 by omega)); have e : (ints (f.tab ++ [23130])).take (f.tab.length * 1) = ints f.tab := (by rw [ints, List.map_append, List.take_left' (by simp)]); rwa [e] at h9); exact SGX.n (OP.x (o_call Try.call16 (lc h38 (lc h39 ln)) ((push_spec 0 p s.most s.high s.L lv V f (Value.slice (some ⟨g, 0, none⟩) f.tab.length cap) w (hp.ext hW) hIn (by omega)).mono (fun v w' hh => by obtain ⟨h1, lv', V', ht⟩ := hh; exact ⟨h1, ht.only.mono (fun k _ hk => .inl (hpi k hk)), show ∃ lv' V', Turn wd w' 0 p s.most s.high s.L lv V ((pushR s.most s.high s.L f).2.1) ((pushR s.most s.high s.L f).2.2) lv' V' from ⟨lv', V', ht.pre hW⟩⟩))))) ?_
    refine WDS.p rfl (by decide) (fun e w hR hh => by obtain ⟨h40, -⟩ := hh; exact SG.n (o_call Try.call10 (lc h40 ln) ((num_spec _ _).mono (fun v w' ⟨h1, h2⟩ => ⟨h1, by rw [h2]; exact Only.refl No _⟩)))) ?_
    refine WDS.p rfl (by decide) (fun e w hR hh => by obtain ⟨h8, -⟩ := hh; exact SG.n (o_mvh h8 ⟨rfl, Only.refl No _⟩)) ?_
    refine WDS.p rfl (by decide) (fun e w hR hh => by obtain ⟨h5, -⟩ := hh; exact SG.n (o_fa 2 TI58 rfl TI39 rfl h5 ⟨rfl, Only.refl No _⟩)) ?_
    refine WDS.p rfl (by decide) (fun e w hR hh => by obtain ⟨h43, -⟩ := hh; rw [← hwd] at hR; have hc := hR.blk hC5 nc5; exact SG.n (o_ldA TI39 rfl h43 (opc_cells hc) rfl ⟨rfl, Only.refl No _⟩)) ?_
    refine WDS.m 1 0 (fun v _ => v = _) (Mono.eq) (by kernel_rfl) rfl rfl (fun e w hR hW hh => by obtain ⟨h44, h42, -⟩ := hh; rw [← hwd] at hR; replace hW : ∃ lv' V', Turn wd w 0 p s.most s.high s.L lv V ((pushR s.most s.high s.L f).2.1) ((pushR s.most s.high s.L f).2.2) lv' V' := hW; obtain ⟨lv', V', ht⟩ := hW; have hqw := hq.only ht.only (fun k hk hF => (by have := hpi k hF; have := hqi k hk; omega)); have hFw := hF w (hxH.trans (ht.only.mono (fun k _ hk => hpH k hk))); exact SGX.n (OP.x (o_call Try.call56 (lc h42 (lc h44 ln)) ((rpush_spec 0 q s.most s.high s.L lq Vq f fv w hqw hFw (by omega)).mono (fun v w' hh => by obtain ⟨h1, lq', Vq', hrt⟩ := hh; exact ⟨h1, hrt.only.mono (fun k _ hk => .inr (.inl (hqi k hk))), show ∃ w1, (∃ lv' V', Turn wd w1 0 p s.most s.high s.L lv V ((pushR s.most s.high s.L f).2.1) ((pushR s.most s.high s.L f).2.2) lv' V') ∧ (∃ lq' Vq', RTurn w1 w' 0 q s.most s.high s.L lq Vq ((pushR s.most s.high s.L f).2.1) ((pushR s.most s.high s.L f).2.2) lq' Vq') from ⟨w, ⟨lv', V', ht⟩, ⟨lq', Vq', hrt⟩⟩⟩))))) ?_
    refine WDS.p rfl (by decide) (fun e w hR hh => by obtain ⟨h45, h41, -⟩ := hh; exact SG.n (o_eq h41 h45 ⟨rfl, Only.refl No _⟩)) ?_
    refine WDS.p rfl (by decide) (fun e w hR hh => by obtain ⟨h46, -⟩ := hh; exact SG.n (o_mvh h46 ⟨rfl, Only.refl No _⟩)) ?_
    refine WDS.p rfl (by decide) (fun e w hR hh => by obtain ⟨h47, h9, -⟩ := hh; rw [← hwd] at hR; have hc := hR.blk hB9 nc9; exact SG.g h47 (by simp) (o_ldA TI39 rfl h9 (show Cells w w33.heap.size 0 (fcells f (Value.slice (some ⟨g, 0, none⟩) f.tab.length cap)) from Cells.of hc 0 _ (by simp)) rfl ⟨rfl, Only.refl No _⟩)) ?_
    refine WDS.p rfl (by decide) (fun e w hR hh => by obtain ⟨h47, h5, -⟩ := hh; exact SG.g h47 (by simp) (o_fa 2 TI58 rfl TI39 rfl h5 ⟨rfl, Only.refl No _⟩)) ?_
    refine WDS.p rfl (by decide) (fun e w hR hh => by obtain ⟨h49, h47, -⟩ := hh; rw [← hwd] at hR; have hc := hR.blk hC5 nc5; exact SG.g h47 (by simp) (o_ldA TI39 rfl h49 (opc_cells hc) rfl ⟨rfl, Only.refl No _⟩)) ?_
    refine WDS.m 2 0 (fun v _ => v = _) (Mono.eq) (by kernel_rfl) rfl rfl (fun e w hR hW hh => by obtain ⟨h50, h48, h47, -⟩ := hh; rw [← hwd] at hR; replace hW : ∃ w1, (∃ lv' V', Turn wd w1 0 p s.most s.high s.L lv V ((pushR s.most s.high s.L f).2.1) ((pushR s.most s.high s.L f).2.2) lv' V') ∧ (∃ lq' Vq', RTurn w1 w 0 q s.most s.high s.L lq Vq ((pushR s.most s.high s.L f).2.1) ((pushR s.most s.high s.L f).2.2) lq' Vq') := hW; obtain ⟨w1, ⟨lv', V', ht⟩, ⟨lq', Vq', hrt⟩⟩ := hW; have hFw := hF w ((hxH.trans (ht.only.mono (fun k _ hk => hpH k hk))).trans (hrt.only.mono (fun k _ hk => hqH k hk))); have howw := own_only (own_only hown ht.only (fun k hk hF => by have := hpi k hF; obtain rfl := ob hk; omega)) hrt.only (fun k hk hF => by have := hqi k hF; obtain rfl := ob hk; omega); exact SGX.g h47 (by simp) (OP.x (o_call Try.call57 (lc h48 (lc h50 ln)) ((over_spec f g cap fv w (own_mono howw (Nat.zero_le _)) hFw (by omega)).mono (fun v w' hh => ⟨hh.1, hh.2.mono (fun k _ hk => .inr (.inr hk)), show ∃ w1 w2, (∃ lv' V', Turn wd w1 0 p s.most s.high s.L lv V ((pushR s.most s.high s.L f).2.1) ((pushR s.most s.high s.L f).2.2) lv' V') ∧ (∃ lq' Vq', RTurn w1 w2 0 q s.most s.high s.L lq Vq ((pushR s.most s.high s.L f).2.1) ((pushR s.most s.high s.L f).2.2) lq' Vq') ∧ Only (fun k => k = g) w2 w' from ⟨w1, w, ⟨lv', V', ht⟩, ⟨lq', Vq', hrt⟩, hh.2⟩⟩))))) ?_
    refine WDS.p rfl (by decide) (fun e w hR hh => by obtain ⟨h51, h47, -⟩ := hh; exact SG.n (o_pickA h47 h51 ⟨rfl, Only.refl No _⟩)) ?_
    rintro e w hR hW ⟨h52, h51, h50, h49, h48, h47, h46, h45, h44, h43, h42, h41, h40, h39, h38, h5, h7, h8, h9, -⟩
    rw [← hwd] at hR
    replace hW : ∃ w1 w2, (∃ lv' V', Turn wd w1 0 p s.most s.high s.L lv V ((pushR s.most s.high s.L f).2.1) ((pushR s.most s.high s.L f).2.2) lv' V') ∧ (∃ lq' Vq', RTurn w1 w2 0 q s.most s.high s.L lq Vq ((pushR s.most s.high s.L f).2.1) ((pushR s.most s.high s.L f).2.2) lq' Vq') ∧ Only (fun k => k = g) w2 w := hW
    obtain ⟨w1, w2, ⟨lv', V', t1⟩, ⟨lq', Vq', t2⟩, ho3⟩ := hW
    refine WL.c rfl (o_ash h52 ?_)
    refine WL.nil ?_
    refine W.ret ?_
    refine ret1v rfl (show _ = Value.bool _ from rfl) ?_
    obtain ⟨o', hT', hk', -⟩ := h.two hi hPi hp hpi hQi hq hqi t1 t2 (hgs.push hsl)
    have hTf := hT'.loc ho3 (fun k hk => by subst hk; rw [hk' k hgd (by omega) (by omega)]; exact hgo)
    exact ⟨congrArg Value.bool (by simp), ⟨_, nl, Nat.le_succ _, ⟨o', P, Q, a, b, c, d, VA, VB, VC, VD, hTf⟩, setF_some⟩, ((hxH.trans (t1.only.mono (fun k _ hk => hpH k hk))).trans (t2.only.mono (fun k _ hk => hqH k hk))).trans (ho3.mono (fun k _ hk => by omega))⟩
  · try simp only [decide_eq_true_eq, decide_eq_false_iff_not, Bool.not_eq_true', Bool.not_eq_false', Bool.and_eq_true, Bool.or_eq_true, Bool.and_eq_false_iff, Bool.or_eq_false_iff] at c36
    refine W.seq ?_
    refine W.region ?_
    refine WL.c rfl (o_eq rfl rfl ?_)
    refine WL.c rfl (o_ash (show _ = Value.bool _ from rfl) ?_)
    refine WL.nil ?_
    refine W.cond rfl (fun c53 => ?_) (fun c53 => ?_)
    · try simp only [decide_eq_true_eq, decide_eq_false_iff_not, Bool.not_eq_true', Bool.not_eq_false', Bool.and_eq_true, Bool.or_eq_true, Bool.and_eq_false_iff, Bool.or_eq_false_iff] at c53
      refine W.seq ?_
      refine W.region ?_
      refine WL.c rfl (o_mvh (by first | exact (show _ = Value.pointer _ from rfl) | exact rfl) ?_)
      refine WL.c rfl (o_call Try.call14 (lc rfl ln) ((pop_spec 0 p s.most s.high s.L lv V _ hp).mono ?_))
      rintro v57 w57 ⟨tv, rfl, hcl, lv', V', t1, htv⟩
      have hq57 := hq.only t1.only (fun k hk hF => by have := hpi k hF; have := hqi k hk; omega)
      have htvo : ∀ k, tv.ownBlock = some k → o k = 1 + i ∧ k < wb9.heap.size := fun k hk => by have := hpi k (.inr (htv k hk).1); exact ⟨this, (hp.lt k (.inr (htv k hk).1)).2⟩
      have hxH : Only (fun k => H ≤ k) w0 w57 := (hx.mono (fun _ _ h => h.elim)).trans (t1.only.mono (fun k _ hk => hpH k hk))
      have hs57 := t1.only.size
      have hlen1 : (s.L.take (s.L.length - 1)).length = s.L.length - 1 := by rw [List.length_take]; omega
      have hxw : Ext w57 w57 := Only.refl _ _
      refine WL.c rfl (o_mvh (by first | exact (show _ = Value.tuple _ from rfl) | exact rfl) ?_)
      refine WL.c rfl (o_ext rfl rfl ?_)
      refine WL.c rfl (o_ext rfl rfl ?_)
      refine WL.c rfl (o_alB TI39 ?_)
      intro wa10 hCa hxa hsa
      refine WL.u (o_stA TI39 rfl (show _ = Value.agg (fcells (topF s.L) tv).toArray from rfl) rfl (fcells_one (by obtain ⟨_, _, rfl, _⟩ := hcl; rfl)) hCa rfl ?_)
      intro wb10 hB10 hob hsb
      have hxb := Ext.own hxa (Nat.le_refl _) hob
      clear hCa hxa hsa hob hsb
      replace hcl := hcl.only hxb (fun _ _ h => h)
      replace hq57 := hq57.ext hxb
      replace hxw := hxw.tr hxb
      refine WL.c rfl (o_ash (show _ = Value.int _ _ from rfl) ?_)
      refine WL.nil ?_
      refine W.seq ?_
      refine W.region ?_
      refine WL.c rfl (o_mvh (by first | exact (show _ = Value.pointer _ from rfl) | exact rfl) ?_)
      refine WL.c rfl (o_call Try.call58 (lc rfl ln) ((rpop_spec 0 q s.most s.high s.L lq Vq _ hq57).mono ?_))
      rintro v62 w62 ⟨uv, rfl, hown2, lq', Vq', t2, -⟩
      have hxH2 : Only (fun k => H ≤ k) w0 w62 := (hxH.trans (hxw.mono (fun _ _ h => h.elim))).trans (t2.only.mono (fun k _ hk => hqH k hk))
      replace hcl := hcl.only t2.only (fun k hk hF => by have := htvo k hk; have := hqi k hF; omega)
      replace hB10 := t2.only.blk hB10 (fun hF => by have h1 := hqi _ hF; have h2 := hhi0 w57.heap.size (by have := hx.size; omega); omega)
      obtain ⟨o', hT', hk', hz'⟩ := h.two hi hPi hp hpi hQi hq hqi t1 (t2.pre hxw) hgs.pop
      have ho'10 : o' w57.heap.size = 0 ∨ True := .inr trivial
      refine WL.c rfl (o_mvh (by first | exact (show _ = Value.tuple _ from rfl) | exact rfl) ?_)
      refine WL.c rfl (o_ext rfl rfl ?_)
      refine WL.c rfl (o_ext rfl rfl ?_)
      refine WL.c rfl (o_alB TI39 ?_)
      intro wa12 hCa hxa hsa
      refine WL.u (o_stA TI39 rfl (show _ = Value.agg (fcells (topF s.L) uv).toArray from rfl) rfl (fcells_one (own_one hown2)) hCa rfl ?_)
      intro wb12 hB12 hob hsb
      have hxb := Ext.own hxa (Nat.le_refl _) hob
      clear hCa hxa hsa hob hsb
      replace hcl := hcl.only hxb (fun _ _ h => h)
      replace hown2 := own_ext hown2 hxb
      replace hB10 := hxb.blk hB10 (fun h => h)
      replace hT' := hT'.ext hxb
      replace hxH2 := hxH2.trans (hxb.mono (fun _ _ h => h.elim))
      refine WL.c rfl (o_ash (show _ = Value.int _ _ from rfl) ?_)
      refine WL.nil ?_
      refine W.seq ?_
      refine W.region ?_
      refine WL.c rfl (o_ldA TI39 rfl rfl (show Cells _ w57.heap.size 0 (fcells (topF s.L) tv) from Cells.of hB10 0 _ (by simp)) rfl ?_)
      refine WL.c rfl (o_ldA TI39 rfl rfl (show Cells _ w62.heap.size 0 (fcells (topF s.L) uv) from Cells.of hB12 0 _ (by simp)) rfl ?_)
      refine WL.c rfl (o_call Try.call15 (lc rfl (lc rfl ln)) ((same_spec (topF s.L) tv uv _ hcl.In (Sl.own hown2) (by omega)).mono ?_))
      rintro v67 w67 ⟨rfl, hx67⟩
      replace hcl := hcl.only hx67 (fun _ _ h => h)
      replace hB10 := hx67.blk hB10 (fun h => h)
      replace hT' := hT'.ext hx67
      replace hxH2 := hxH2.trans (hx67.mono (fun _ _ h => h.elim))
      refine WL.c rfl (o_mvh (show _ = Value.bool _ from rfl) ?_)
      refine WL.g rfl (rfl) rfl (o_mvh (show _ = Value.int _ _ from rfl) ?_)
      refine WL.g rfl (rfl) rfl (o_call Try.call10 (lc rfl ln) ((num_spec _ _).mono ?_))
      rintro v70 w70 ⟨rfl, hw70⟩
      replace hw70 := hw70.symm
      subst hw70
      refine WL.g rfl (rfl) rfl (o_mvh (show _ = Value.int _ _ from rfl) ?_)
      refine WL.g rfl (rfl) rfl (o_eq rfl rfl ?_)
      refine WL.c rfl (o_pickA rfl rfl ?_)
      refine WL.c rfl (o_ash (show _ = Value.bool _ from rfl) ?_)
      refine WL.nil ?_
      refine W.seq ?_
      have hlt9 : w57.heap.size < w67.heap.size := (Array.getElem?_eq_some_iff.1 hB10).1
      have htv9 : ∀ k, tv.ownBlock = some k → k < w67.heap.size := fun k hk => by obtain ⟨_, _, rfl, hrow⟩ := hcl; exact (hrow.lt k (by cases ‹Option Addr› <;> exact hk)).2
      have l1 := hT'.labV (id := 11) (v := tv) (fun k hk => ⟨hpH k (.inr (htv k hk).1), htv9 k hk, hz' k (.inr (htv k hk).1) (by rw [hlen1]; exact (htv k hk).2)⟩)
      have l1i : ∀ k, tv.ownBlock = some k → labV o' tv 11 k = 11 := fun k hk => labV_eq hk
      generalize labV o' tv 11 = o2 at *
      refine W.tail 5 rfl (by kernel_rfl) ?_
      refine WS.c rfl ((SO.o rfl (o_mvh (by first | exact (show _ = Value.pointer _ from rfl) | exact rfl) ⟨rfl, rfl⟩))) ?_
      refine WS.c rfl ((SO.r (r_nil rfl))) ?_
      refine WS.c rfl ((SO.o rfl (o_fa 4 TI55 rfl TI53 rfl rfl ⟨rfl, rfl⟩))) ?_
      refine WS.c rfl ((SO.o rfl (o_fa 6 TI39 rfl TI37 rfl rfl ⟨rfl, rfl⟩))) ?_
      refine WS.c rfl ((SO.o rfl (o_ld TI37 rfl rfl (cell_of hB10 rfl) ⟨rfl, rfl⟩))) ?_
      refine WS.nil ?_
      have hd := Only.drew w67
      replace l1 := l1.ext hd
      replace hcl := hcl.only hd (fun _ _ h => h)
      replace hB10 := hd.blk hB10 (fun h => h)
      replace hxH2 := hxH2.trans (hd.mono (fun _ _ h => h.elim))
      clear hd
      generalize w67.drew = wz at *
      refine WL.c rfl (o_call Try.call59 (lc rfl (lc rfl ln)) ((btable_spec H tp o2 _ _ P Q a b c d nl nb VA VB VC VD _ l1 tv (ints (topF s.L).tab) 11 (by omega) (Lst.clip hcl) l1i (by rw [List.length_map]; omega) (by omega)).mono ?_))
      rintro v79 w79 ⟨⟨o3, a3, b3, VA3, VB3, l3, -⟩, ho79⟩
      replace hxH2 := hxH2.trans (ho79.mono (fun k _ hk => foot_of l1 (by omega) k hk))
      refine WL.nil ?_
      refine W.seq ?_
      refine W.region ?_
      refine WL.c rfl (o_mvh (show _ = Value.bool _ from rfl) ?_)
      refine WL.c rfl (o_ash (show _ = Value.bool _ from rfl) ?_)
      refine WL.nil ?_
      refine W.ret ?_
      refine ret1v rfl (show _ = Value.bool _ from rfl) ?_
      exact ⟨congrArg Value.bool (by simp), ⟨_, nl + 1, Nat.le_refl _, ⟨o3, P, Q, a3, b3, c, d, VA3, VB3, VC, VD, l3⟩, setF_some⟩, hxH2⟩
    · try simp only [decide_eq_true_eq, decide_eq_false_iff_not, Bool.not_eq_true', Bool.not_eq_false', Bool.and_eq_true, Bool.or_eq_true, Bool.and_eq_false_iff, Bool.or_eq_false_iff] at c53
      refine W.seq ?_
      refine W.region ?_
      refine WL.c rfl (o_eq rfl rfl ?_)
      refine WL.c rfl (o_ash (show _ = Value.bool _ from rfl) ?_)
      refine WL.nil ?_
      refine W.cond rfl (fun c81 => ?_) (fun c81 => ?_)
      · try simp only [decide_eq_true_eq, decide_eq_false_iff_not, Bool.not_eq_true', Bool.not_eq_false', Bool.and_eq_true, Bool.or_eq_true, Bool.and_eq_false_iff, Bool.or_eq_false_iff] at c81
        refine W.seq ?_
        obtain ⟨wd, hwd⟩ : ∃ wd, wd = wb9.drew := ⟨_, rfl⟩
        have hxd : Ext wb9 wd := hwd ▸ Only.drew wb9
        replace hx := hx.tr hxd
        replace h := h.ext hxd
        replace hp := hp.ext hxd
        replace hq := hq.ext hxd
        replace hC5 := Only.blk hxd hC5 (fun h => h)
        replace hown := own_ext hown hxd
        replace hB9 := Only.blk hxd hB9 (fun h => h)
        have hxH : Only (fun k => H ≤ k) w0 wd := hx.mono (fun _ _ h => h.elim)
        have nc5 : ¬ ((fun k => o k = 1 + i ∨ o k = 3 + i ∨ k = g) w0.heap.size) := fun hF => by have h1 := hhi0 w0.heap.size (Nat.le_refl _); have h2 : w0.heap.size < g := (by have := hx5.size; omega); simp only at hF; omega
        have nc9 : ¬ ((fun k => o k = 1 + i ∨ o k = 3 + i ∨ k = g) w33.heap.size) := fun hF => by have h1 := hhi0 w33.heap.size (by have := hx5.size; omega); simp only at hF; omega
        have hgd : g < wd.heap.size := (hown.lt g rfl).2
        have hA : ∀ a b c, (∃ lv' V', Turn a b 0 p s.most s.high s.L lv V (s.high) ((setR s.L f).2) lv' V') → Ext b c → (∃ lv' V', Turn a c 0 p s.most s.high s.L lv V (s.high) ((setR s.L f).2) lv' V') := fun a b c h k => by obtain ⟨x, y, h⟩ := h; exact ⟨x, y, h.post k⟩
        have hB : ∀ a b c, (∃ lq' Vq', RTurn a b 0 q s.most s.high s.L lq Vq (s.high) ((setR s.L f).2) lq' Vq') → Ext b c → (∃ lq' Vq', RTurn a c 0 q s.most s.high s.L lq Vq (s.high) ((setR s.L f).2) lq' Vq') := fun a b c h k => by obtain ⟨x, y, h⟩ := h; exact ⟨x, y, h.post k⟩
        refine W.drawC 15 [2, 7, 13] (fun _ => Only (fun k => o k = 1 + i ∨ o k = 3 + i ∨ k = g)) (WdT (fun a b => ∃ lv' V', Turn a b 0 p s.most s.high s.L lv V (s.high) ((setR s.L f).2) lv' V') (fun a b => ∃ lq' Vq', RTurn a b 0 q s.most s.high s.L lq Vq (s.high) ((setR s.L f).2) lq' Vq') g wd) [(5, fun v _ => v = (Value.pointer (some ⟨w0.heap.size, 0, none⟩))), (7, fun v _ => v = (Value.pointer (some ⟨p, 0, none⟩))), (8, fun v _ => v = (Value.pointer (some ⟨q, 0, none⟩))), (9, fun v _ => v = (Value.pointer (some ⟨w33.heap.size, 0, none⟩)))] rfl (by kernel_rfl) (by kernel_rfl) (fun _ _ _ h => h.mono (fun _ _ h => h.elim)) (fun _ _ _ h => h) (fun _ _ _ h k => h.trans k) (WdT.ext hA hB) (by rw [← hwd]; exact Only.refl No _) ⟨Mono.eq, Mono.eq, Mono.eq, Mono.eq, trivial⟩ ⟨rfl, rfl, rfl, rfl, trivial⟩ ?_
        refine WDS.p rfl (by decide) (fun e w hR hh => by obtain ⟨h7, -⟩ := hh; exact SG.n (o_mvh h7 ⟨rfl, Only.refl No _⟩)) ?_
        refine WDS.p rfl (by decide) (fun e w hR hh => by obtain ⟨h9, -⟩ := hh; rw [← hwd] at hR; have hc := hR.blk hB9 nc9; exact SG.n (o_ldA TI39 rfl h9 (show Cells w w33.heap.size 0 (fcells f (Value.slice (some ⟨g, 0, none⟩) f.tab.length cap)) from Cells.of hc 0 _ (by simp)) rfl ⟨rfl, Only.refl No _⟩)) ?_
        refine WDS.m 0 0 (fun v _ => v = _) (Mono.eq) (by kernel_rfl) rfl rfl (fun e w hR hW hh => by obtain ⟨h84, h83, -⟩ := hh; rw [← hwd] at hR; replace hW : Ext wd w := hW; have hIn : In w (Value.slice (some ⟨g, 0, none⟩) f.tab.length cap) f.tab := (by have h9 := Sl.own (own_take (own_ext hown hW) (show f.tab.length ≤ f.tab.length + 1 by omega)); have e : (ints (f.tab ++ [23130])).take (f.tab.length * 1) = ints f.tab := (by rw [ints, List.map_append, List.take_left' (by simp)]); rwa [e] at h9); exact SGX.n (OP.x (o_call Try.call20 (lc h83 (lc h84 ln)) ((set_spec 0 p s.most s.high s.L lv V f (Value.slice (some ⟨g, 0, none⟩) f.tab.length cap) w (hp.ext hW) hIn (by omega)).mono (fun v w' hh => by obtain ⟨h1, lv', V', ht⟩ := hh; exact ⟨h1, ht.only.mono (fun k _ hk => .inl (hpi k hk)), show ∃ lv' V', Turn wd w' 0 p s.most s.high s.L lv V (s.high) ((setR s.L f).2) lv' V' from ⟨lv', V', ht.pre hW⟩⟩))))) ?_
        refine WDS.p rfl (by decide) (fun e w hR hh => by obtain ⟨h85, -⟩ := hh; exact SG.n (o_call Try.call10 (lc h85 ln) ((num_spec _ _).mono (fun v w' ⟨h1, h2⟩ => ⟨h1, by rw [h2]; exact Only.refl No _⟩)))) ?_
        refine WDS.p rfl (by decide) (fun e w hR hh => by obtain ⟨h8, -⟩ := hh; exact SG.n (o_mvh h8 ⟨rfl, Only.refl No _⟩)) ?_
        refine WDS.p rfl (by decide) (fun e w hR hh => by obtain ⟨h5, -⟩ := hh; exact SG.n (o_fa 2 TI58 rfl TI39 rfl h5 ⟨rfl, Only.refl No _⟩)) ?_
        refine WDS.p rfl (by decide) (fun e w hR hh => by obtain ⟨h88, -⟩ := hh; rw [← hwd] at hR; have hc := hR.blk hC5 nc5; exact SG.n (o_ldA TI39 rfl h88 (opc_cells hc) rfl ⟨rfl, Only.refl No _⟩)) ?_
        refine WDS.m 1 0 (fun v _ => v = _) (Mono.eq) (by kernel_rfl) rfl rfl (fun e w hR hW hh => by obtain ⟨h89, h87, -⟩ := hh; rw [← hwd] at hR; replace hW : ∃ lv' V', Turn wd w 0 p s.most s.high s.L lv V (s.high) ((setR s.L f).2) lv' V' := hW; obtain ⟨lv', V', ht⟩ := hW; have hqw := hq.only ht.only (fun k hk hF => (by have := hpi k hF; have := hqi k hk; omega)); have hFw := hF w (hxH.trans (ht.only.mono (fun k _ hk => hpH k hk))); exact SGX.n (OP.x (o_call Try.call60 (lc h87 (lc h89 ln)) ((rset_spec 0 q s.most s.high s.L lq Vq f fv w hqw hFw (by omega)).mono (fun v w' hh => by obtain ⟨h1, lq', Vq', hrt⟩ := hh; exact ⟨h1, hrt.only.mono (fun k _ hk => .inr (.inl (hqi k hk))), show ∃ w1, (∃ lv' V', Turn wd w1 0 p s.most s.high s.L lv V (s.high) ((setR s.L f).2) lv' V') ∧ (∃ lq' Vq', RTurn w1 w' 0 q s.most s.high s.L lq Vq (s.high) ((setR s.L f).2) lq' Vq') from ⟨w, ⟨lv', V', ht⟩, ⟨lq', Vq', hrt⟩⟩⟩))))) ?_
        refine WDS.p rfl (by decide) (fun e w hR hh => by obtain ⟨h90, h86, -⟩ := hh; exact SG.n (o_eq h86 h90 ⟨rfl, Only.refl No _⟩)) ?_
        refine WDS.p rfl (by decide) (fun e w hR hh => by obtain ⟨h91, -⟩ := hh; exact SG.n (o_mvh h91 ⟨rfl, Only.refl No _⟩)) ?_
        refine WDS.p rfl (by decide) (fun e w hR hh => by obtain ⟨h92, h9, -⟩ := hh; rw [← hwd] at hR; have hc := hR.blk hB9 nc9; exact SG.g h92 (by simp) (o_ldA TI39 rfl h9 (show Cells w w33.heap.size 0 (fcells f (Value.slice (some ⟨g, 0, none⟩) f.tab.length cap)) from Cells.of hc 0 _ (by simp)) rfl ⟨rfl, Only.refl No _⟩)) ?_
        refine WDS.p rfl (by decide) (fun e w hR hh => by obtain ⟨h92, h5, -⟩ := hh; exact SG.g h92 (by simp) (o_fa 2 TI58 rfl TI39 rfl h5 ⟨rfl, Only.refl No _⟩)) ?_
        refine WDS.p rfl (by decide) (fun e w hR hh => by obtain ⟨h94, h92, -⟩ := hh; rw [← hwd] at hR; have hc := hR.blk hC5 nc5; exact SG.g h92 (by simp) (o_ldA TI39 rfl h94 (opc_cells hc) rfl ⟨rfl, Only.refl No _⟩)) ?_
        refine WDS.m 2 0 (fun v _ => v = _) (Mono.eq) (by kernel_rfl) rfl rfl (fun e w hR hW hh => by obtain ⟨h95, h93, h92, -⟩ := hh; rw [← hwd] at hR; replace hW : ∃ w1, (∃ lv' V', Turn wd w1 0 p s.most s.high s.L lv V (s.high) ((setR s.L f).2) lv' V') ∧ (∃ lq' Vq', RTurn w1 w 0 q s.most s.high s.L lq Vq (s.high) ((setR s.L f).2) lq' Vq') := hW; obtain ⟨w1, ⟨lv', V', ht⟩, ⟨lq', Vq', hrt⟩⟩ := hW; have hFw := hF w ((hxH.trans (ht.only.mono (fun k _ hk => hpH k hk))).trans (hrt.only.mono (fun k _ hk => hqH k hk))); have howw := own_only (own_only hown ht.only (fun k hk hF => by have := hpi k hF; obtain rfl := ob hk; omega)) hrt.only (fun k hk hF => by have := hqi k hF; obtain rfl := ob hk; omega); exact SGX.g h92 (by simp) (OP.x (o_call Try.call57 (lc h93 (lc h95 ln)) ((over_spec f g cap fv w (own_mono howw (Nat.zero_le _)) hFw (by omega)).mono (fun v w' hh => ⟨hh.1, hh.2.mono (fun k _ hk => .inr (.inr hk)), show ∃ w1 w2, (∃ lv' V', Turn wd w1 0 p s.most s.high s.L lv V (s.high) ((setR s.L f).2) lv' V') ∧ (∃ lq' Vq', RTurn w1 w2 0 q s.most s.high s.L lq Vq (s.high) ((setR s.L f).2) lq' Vq') ∧ Only (fun k => k = g) w2 w' from ⟨w1, w, ⟨lv', V', ht⟩, ⟨lq', Vq', hrt⟩, hh.2⟩⟩))))) ?_
        refine WDS.p rfl (by decide) (fun e w hR hh => by obtain ⟨h96, h92, -⟩ := hh; exact SG.n (o_pickA h92 h96 ⟨rfl, Only.refl No _⟩)) ?_
        rintro e w hR hW ⟨h97, h96, h95, h94, h93, h92, h91, h90, h89, h88, h87, h86, h85, h84, h83, h5, h7, h8, h9, -⟩
        rw [← hwd] at hR
        replace hW : ∃ w1 w2, (∃ lv' V', Turn wd w1 0 p s.most s.high s.L lv V (s.high) ((setR s.L f).2) lv' V') ∧ (∃ lq' Vq', RTurn w1 w2 0 q s.most s.high s.L lq Vq (s.high) ((setR s.L f).2) lq' Vq') ∧ Only (fun k => k = g) w2 w := hW
        obtain ⟨w1, w2, ⟨lv', V', t1⟩, ⟨lq', Vq', t2⟩, ho3⟩ := hW
        refine WL.c rfl (o_ash h97 ?_)
        refine WL.nil ?_
        refine W.ret ?_
        refine ret1v rfl (show _ = Value.bool _ from rfl) ?_
        obtain ⟨o', hT', hk', -⟩ := h.two hi hPi hp hpi hQi hq hqi t1 t2 hgs.setR
        have hTf := hT'.loc ho3 (fun k hk => by subst hk; rw [hk' k hgd (by omega) (by omega)]; exact hgo)
        exact ⟨congrArg Value.bool (by simp), ⟨_, nl, Nat.le_succ _, ⟨o', P, Q, a, b, c, d, VA, VB, VC, VD, hTf⟩, setF_some⟩, ((hxH.trans (t1.only.mono (fun k _ hk => hpH k hk))).trans (t2.only.mono (fun k _ hk => hqH k hk))).trans (ho3.mono (fun k _ hk => by omega))⟩
      · try simp only [decide_eq_true_eq, decide_eq_false_iff_not, Bool.not_eq_true', Bool.not_eq_false', Bool.and_eq_true, Bool.or_eq_true, Bool.and_eq_false_iff, Bool.or_eq_false_iff] at c81
        refine W.seq ?_
        refine W.region ?_
        refine WL.c rfl (o_eq rfl rfl ?_)
        refine WL.c rfl (o_ash (show _ = Value.bool _ from rfl) ?_)
        refine WL.nil ?_
        refine W.cond rfl (fun c98 => ?_) (fun c98 => ?_)
        · try simp only [decide_eq_true_eq, decide_eq_false_iff_not, Bool.not_eq_true', Bool.not_eq_false', Bool.and_eq_true, Bool.or_eq_true, Bool.and_eq_false_iff, Bool.or_eq_false_iff] at c98
          refine W.seq ?_
          obtain ⟨wd, hwd⟩ : ∃ wd, wd = wb9.drew := ⟨_, rfl⟩
          have hxd : Ext wb9 wd := hwd ▸ Only.drew wb9
          replace hx := hx.tr hxd
          replace h := h.ext hxd
          replace hp := hp.ext hxd
          replace hq := hq.ext hxd
          replace hC5 := Only.blk hxd hC5 (fun h => h)
          replace hown := own_ext hown hxd
          replace hB9 := Only.blk hxd hB9 (fun h => h)
          have hxH : Only (fun k => H ≤ k) w0 wd := hx.mono (fun _ _ h => h.elim)
          have nc5 : ¬ ((fun k => o k = 1 + i ∨ o k = 3 + i ∨ k = g) w0.heap.size) := fun hF => by have h1 := hhi0 w0.heap.size (Nat.le_refl _); have h2 : w0.heap.size < g := (by have := hx5.size; omega); simp only at hF; omega
          have nc9 : ¬ ((fun k => o k = 1 + i ∨ o k = 3 + i ∨ k = g) w33.heap.size) := fun hF => by have h1 := hhi0 w33.heap.size (by have := hx5.size; omega); simp only at hF; omega
          have hgd : g < wd.heap.size := (hown.lt g rfl).2
          have hA : ∀ a b c, (∃ lv' V', Turn a b 0 p s.most s.high s.L lv V (s.high) ((goR s.L f).2) lv' V') → Ext b c → (∃ lv' V', Turn a c 0 p s.most s.high s.L lv V (s.high) ((goR s.L f).2) lv' V') := fun a b c h k => by obtain ⟨x, y, h⟩ := h; exact ⟨x, y, h.post k⟩
          have hB : ∀ a b c, (∃ lq' Vq', RTurn a b 0 q s.most s.high s.L lq Vq (s.high) ((goR s.L f).2) lq' Vq') → Ext b c → (∃ lq' Vq', RTurn a c 0 q s.most s.high s.L lq Vq (s.high) ((goR s.L f).2) lq' Vq') := fun a b c h k => by obtain ⟨x, y, h⟩ := h; exact ⟨x, y, h.post k⟩
          refine W.drawC 15 [2, 7, 13] (fun _ => Only (fun k => o k = 1 + i ∨ o k = 3 + i ∨ k = g)) (WdT (fun a b => ∃ lv' V', Turn a b 0 p s.most s.high s.L lv V (s.high) ((goR s.L f).2) lv' V') (fun a b => ∃ lq' Vq', RTurn a b 0 q s.most s.high s.L lq Vq (s.high) ((goR s.L f).2) lq' Vq') g wd) [(5, fun v _ => v = (Value.pointer (some ⟨w0.heap.size, 0, none⟩))), (7, fun v _ => v = (Value.pointer (some ⟨p, 0, none⟩))), (8, fun v _ => v = (Value.pointer (some ⟨q, 0, none⟩))), (9, fun v _ => v = (Value.pointer (some ⟨w33.heap.size, 0, none⟩)))] rfl (by kernel_rfl) (by kernel_rfl) (fun _ _ _ h => h.mono (fun _ _ h => h.elim)) (fun _ _ _ h => h) (fun _ _ _ h k => h.trans k) (WdT.ext hA hB) (by rw [← hwd]; exact Only.refl No _) ⟨Mono.eq, Mono.eq, Mono.eq, Mono.eq, trivial⟩ ⟨rfl, rfl, rfl, rfl, trivial⟩ ?_
          refine WDS.p rfl (by decide) (fun e w hR hh => by obtain ⟨h7, -⟩ := hh; exact SG.n (o_mvh h7 ⟨rfl, Only.refl No _⟩)) ?_
          refine WDS.p rfl (by decide) (fun e w hR hh => by obtain ⟨h9, -⟩ := hh; rw [← hwd] at hR; have hc := hR.blk hB9 nc9; exact SG.n (o_ldA TI39 rfl h9 (show Cells w w33.heap.size 0 (fcells f (Value.slice (some ⟨g, 0, none⟩) f.tab.length cap)) from Cells.of hc 0 _ (by simp)) rfl ⟨rfl, Only.refl No _⟩)) ?_
          refine WDS.m 0 0 (fun v _ => v = _) (Mono.eq) (by kernel_rfl) rfl rfl (fun e w hR hW hh => by obtain ⟨h101, h100, -⟩ := hh; rw [← hwd] at hR; replace hW : Ext wd w := hW; have hIn : In w (Value.slice (some ⟨g, 0, none⟩) f.tab.length cap) f.tab := (by have h9 := Sl.own (own_take (own_ext hown hW) (show f.tab.length ≤ f.tab.length + 1 by omega)); have e : (ints (f.tab ++ [23130])).take (f.tab.length * 1) = ints f.tab := (by rw [ints, List.map_append, List.take_left' (by simp)]); rwa [e] at h9); exact SGX.n (OP.x (o_call Try.call23 (lc h100 (lc h101 ln)) ((go_spec 0 p s.most s.high s.L lv V f (Value.slice (some ⟨g, 0, none⟩) f.tab.length cap) w (hp.ext hW)).mono (fun v w' hh => by obtain ⟨h1, lv', V', ht⟩ := hh; exact ⟨h1, ht.only.mono (fun k _ hk => .inl (hpi k hk)), show ∃ lv' V', Turn wd w' 0 p s.most s.high s.L lv V (s.high) ((goR s.L f).2) lv' V' from ⟨lv', V', ht.pre hW⟩⟩))))) ?_
          refine WDS.p rfl (by decide) (fun e w hR hh => by obtain ⟨h102, -⟩ := hh; exact SG.n (o_call Try.call10 (lc h102 ln) ((num_spec _ _).mono (fun v w' ⟨h1, h2⟩ => ⟨h1, by rw [h2]; exact Only.refl No _⟩)))) ?_
          refine WDS.p rfl (by decide) (fun e w hR hh => by obtain ⟨h8, -⟩ := hh; exact SG.n (o_mvh h8 ⟨rfl, Only.refl No _⟩)) ?_
          refine WDS.p rfl (by decide) (fun e w hR hh => by obtain ⟨h5, -⟩ := hh; exact SG.n (o_fa 2 TI58 rfl TI39 rfl h5 ⟨rfl, Only.refl No _⟩)) ?_
          refine WDS.p rfl (by decide) (fun e w hR hh => by obtain ⟨h105, -⟩ := hh; rw [← hwd] at hR; have hc := hR.blk hC5 nc5; exact SG.n (o_ldA TI39 rfl h105 (opc_cells hc) rfl ⟨rfl, Only.refl No _⟩)) ?_
          refine WDS.m 1 0 (fun v _ => v = _) (Mono.eq) (by kernel_rfl) rfl rfl (fun e w hR hW hh => by obtain ⟨h106, h104, -⟩ := hh; rw [← hwd] at hR; replace hW : ∃ lv' V', Turn wd w 0 p s.most s.high s.L lv V (s.high) ((goR s.L f).2) lv' V' := hW; obtain ⟨lv', V', ht⟩ := hW; have hqw := hq.only ht.only (fun k hk hF => (by have := hpi k hF; have := hqi k hk; omega)); have hFw := hF w (hxH.trans (ht.only.mono (fun k _ hk => hpH k hk))); exact SGX.n (OP.x (o_call Try.call61 (lc h104 (lc h106 ln)) ((rgo_spec 0 q s.most s.high s.L lq Vq f fv w hqw).mono (fun v w' hh => by obtain ⟨h1, lq', Vq', hrt⟩ := hh; exact ⟨h1, hrt.only.mono (fun k _ hk => .inr (.inl (hqi k hk))), show ∃ w1, (∃ lv' V', Turn wd w1 0 p s.most s.high s.L lv V (s.high) ((goR s.L f).2) lv' V') ∧ (∃ lq' Vq', RTurn w1 w' 0 q s.most s.high s.L lq Vq (s.high) ((goR s.L f).2) lq' Vq') from ⟨w, ⟨lv', V', ht⟩, ⟨lq', Vq', hrt⟩⟩⟩))))) ?_
          refine WDS.p rfl (by decide) (fun e w hR hh => by obtain ⟨h107, h103, -⟩ := hh; exact SG.n (o_eq h103 h107 ⟨rfl, Only.refl No _⟩)) ?_
          refine WDS.p rfl (by decide) (fun e w hR hh => by obtain ⟨h108, -⟩ := hh; exact SG.n (o_mvh h108 ⟨rfl, Only.refl No _⟩)) ?_
          refine WDS.p rfl (by decide) (fun e w hR hh => by obtain ⟨h109, h9, -⟩ := hh; rw [← hwd] at hR; have hc := hR.blk hB9 nc9; exact SG.g h109 (by simp) (o_ldA TI39 rfl h9 (show Cells w w33.heap.size 0 (fcells f (Value.slice (some ⟨g, 0, none⟩) f.tab.length cap)) from Cells.of hc 0 _ (by simp)) rfl ⟨rfl, Only.refl No _⟩)) ?_
          refine WDS.p rfl (by decide) (fun e w hR hh => by obtain ⟨h109, h5, -⟩ := hh; exact SG.g h109 (by simp) (o_fa 2 TI58 rfl TI39 rfl h5 ⟨rfl, Only.refl No _⟩)) ?_
          refine WDS.p rfl (by decide) (fun e w hR hh => by obtain ⟨h111, h109, -⟩ := hh; rw [← hwd] at hR; have hc := hR.blk hC5 nc5; exact SG.g h109 (by simp) (o_ldA TI39 rfl h111 (opc_cells hc) rfl ⟨rfl, Only.refl No _⟩)) ?_
          refine WDS.m 2 0 (fun v _ => v = _) (Mono.eq) (by kernel_rfl) rfl rfl (fun e w hR hW hh => by obtain ⟨h112, h110, h109, -⟩ := hh; rw [← hwd] at hR; replace hW : ∃ w1, (∃ lv' V', Turn wd w1 0 p s.most s.high s.L lv V (s.high) ((goR s.L f).2) lv' V') ∧ (∃ lq' Vq', RTurn w1 w 0 q s.most s.high s.L lq Vq (s.high) ((goR s.L f).2) lq' Vq') := hW; obtain ⟨w1, ⟨lv', V', ht⟩, ⟨lq', Vq', hrt⟩⟩ := hW; have hFw := hF w ((hxH.trans (ht.only.mono (fun k _ hk => hpH k hk))).trans (hrt.only.mono (fun k _ hk => hqH k hk))); have howw := own_only (own_only hown ht.only (fun k hk hF => by have := hpi k hF; obtain rfl := ob hk; omega)) hrt.only (fun k hk hF => by have := hqi k hF; obtain rfl := ob hk; omega); exact SGX.g h109 (by simp) (OP.x (o_call Try.call57 (lc h110 (lc h112 ln)) ((over_spec f g cap fv w (own_mono howw (Nat.zero_le _)) hFw (by omega)).mono (fun v w' hh => ⟨hh.1, hh.2.mono (fun k _ hk => .inr (.inr hk)), show ∃ w1 w2, (∃ lv' V', Turn wd w1 0 p s.most s.high s.L lv V (s.high) ((goR s.L f).2) lv' V') ∧ (∃ lq' Vq', RTurn w1 w2 0 q s.most s.high s.L lq Vq (s.high) ((goR s.L f).2) lq' Vq') ∧ Only (fun k => k = g) w2 w' from ⟨w1, w, ⟨lv', V', ht⟩, ⟨lq', Vq', hrt⟩, hh.2⟩⟩))))) ?_
          refine WDS.p rfl (by decide) (fun e w hR hh => by obtain ⟨h113, h109, -⟩ := hh; exact SG.n (o_pickA h109 h113 ⟨rfl, Only.refl No _⟩)) ?_
          rintro e w hR hW ⟨h114, h113, h112, h111, h110, h109, h108, h107, h106, h105, h104, h103, h102, h101, h100, h5, h7, h8, h9, -⟩
          rw [← hwd] at hR
          replace hW : ∃ w1 w2, (∃ lv' V', Turn wd w1 0 p s.most s.high s.L lv V (s.high) ((goR s.L f).2) lv' V') ∧ (∃ lq' Vq', RTurn w1 w2 0 q s.most s.high s.L lq Vq (s.high) ((goR s.L f).2) lq' Vq') ∧ Only (fun k => k = g) w2 w := hW
          obtain ⟨w1, w2, ⟨lv', V', t1⟩, ⟨lq', Vq', t2⟩, ho3⟩ := hW
          refine WL.c rfl (o_ash h114 ?_)
          refine WL.nil ?_
          refine W.ret ?_
          refine ret1v rfl (show _ = Value.bool _ from rfl) ?_
          obtain ⟨o', hT', hk', -⟩ := h.two hi hPi hp hpi hQi hq hqi t1 t2 hgs.goR
          have hTf := hT'.loc ho3 (fun k hk => by subst hk; rw [hk' k hgd (by omega) (by omega)]; exact hgo)
          exact ⟨congrArg Value.bool (by simp), ⟨_, nl, Nat.le_succ _, ⟨o', P, Q, a, b, c, d, VA, VB, VC, VD, hTf⟩, setF_some⟩, ((hxH.trans (t1.only.mono (fun k _ hk => hpH k hk))).trans (t2.only.mono (fun k _ hk => hqH k hk))).trans (ho3.mono (fun k _ hk => by omega))⟩
        · try simp only [decide_eq_true_eq, decide_eq_false_iff_not, Bool.not_eq_true', Bool.not_eq_false', Bool.and_eq_true, Bool.or_eq_true, Bool.and_eq_false_iff, Bool.or_eq_false_iff] at c98
          refine W.seq ?_
          refine W.region ?_
          refine WL.c rfl (o_eq rfl rfl ?_)
          refine WL.c rfl (o_ash (show _ = Value.bool _ from rfl) ?_)
          refine WL.nil ?_
          refine W.cond rfl (fun c115 => ?_) (fun c115 => ?_)
          · try simp only [decide_eq_true_eq, decide_eq_false_iff_not, Bool.not_eq_true', Bool.not_eq_false', Bool.and_eq_true, Bool.or_eq_true, Bool.and_eq_false_iff, Bool.or_eq_false_iff] at c115
            refine W.seq ?_
            obtain ⟨wd, hwd⟩ : ∃ wd, wd = wb9.drew := ⟨_, rfl⟩
            have hxd : Ext wb9 wd := hwd ▸ Only.drew wb9
            replace hx := hx.tr hxd
            replace h := h.ext hxd
            replace hp := hp.ext hxd
            replace hq := hq.ext hxd
            replace hC5 := Only.blk hxd hC5 (fun h => h)
            replace hown := own_ext hown hxd
            replace hB9 := Only.blk hxd hB9 (fun h => h)
            have hxH : Only (fun k => H ≤ k) w0 wd := hx.mono (fun _ _ h => h.elim)
            have nc5 : ¬ ((fun k => o k = 1 + i ∨ o k = 3 + i ∨ k = g) w0.heap.size) := fun hF => by have h1 := hhi0 w0.heap.size (Nat.le_refl _); have h2 : w0.heap.size < g := (by have := hx5.size; omega); simp only at hF; omega
            have nc9 : ¬ ((fun k => o k = 1 + i ∨ o k = 3 + i ∨ k = g) w33.heap.size) := fun hF => by have h1 := hhi0 w33.heap.size (by have := hx5.size; omega); simp only at hF; omega
            have hgd : g < wd.heap.size := (hown.lt g rfl).2
            have hA : ∀ a b c, (∃ lv' V', Turn a b 0 p s.most s.high s.L lv V (s.high) ((markR s.L n).2) lv' V') → Ext b c → (∃ lv' V', Turn a c 0 p s.most s.high s.L lv V (s.high) ((markR s.L n).2) lv' V') := fun a b c h k => by obtain ⟨x, y, h⟩ := h; exact ⟨x, y, h.post k⟩
            have hB : ∀ a b c, (∃ lq' Vq', RTurn a b 0 q s.most s.high s.L lq Vq (s.high) ((markR s.L n).2) lq' Vq') → Ext b c → (∃ lq' Vq', RTurn a c 0 q s.most s.high s.L lq Vq (s.high) ((markR s.L n).2) lq' Vq') := fun a b c h k => by obtain ⟨x, y, h⟩ := h; exact ⟨x, y, h.post k⟩
            refine W.drawC 10 [3, 8] (fun _ => Only (fun k => o k = 1 + i ∨ o k = 3 + i ∨ k = g)) (WdT (fun a b => ∃ lv' V', Turn a b 0 p s.most s.high s.L lv V (s.high) ((markR s.L n).2) lv' V') (fun a b => ∃ lq' Vq', RTurn a b 0 q s.most s.high s.L lq Vq (s.high) ((markR s.L n).2) lq' Vq') g wd) [(5, fun v _ => v = (Value.pointer (some ⟨w0.heap.size, 0, none⟩))), (7, fun v _ => v = (Value.pointer (some ⟨p, 0, none⟩))), (8, fun v _ => v = (Value.pointer (some ⟨q, 0, none⟩)))] rfl (by kernel_rfl) (by kernel_rfl) (fun _ _ _ h => h.mono (fun _ _ h => h.elim)) (fun _ _ _ h => h) (fun _ _ _ h k => h.trans k) (WdT.ext hA hB) (by rw [← hwd]; exact Only.refl No _) ⟨Mono.eq, Mono.eq, Mono.eq, trivial⟩ ⟨rfl, rfl, rfl, trivial⟩ ?_
            refine WDS.p rfl (by decide) (fun e w hR hh => by obtain ⟨h7, -⟩ := hh; exact SG.n (o_mvh h7 ⟨rfl, Only.refl No _⟩)) ?_
            refine WDS.p rfl (by decide) (fun e w hR hh => by obtain ⟨h5, -⟩ := hh; exact SG.n (o_fa 9 TI58 rfl TI3 rfl h5 ⟨rfl, Only.refl No _⟩)) ?_
            refine WDS.p rfl (by decide) (fun e w hR hh => by obtain ⟨h118, -⟩ := hh; rw [← hwd] at hR; have hc := hR.blk hC5 nc5; exact SG.n (o_ld TI3 rfl h118 (cell_of hc rfl) ⟨rfl, Only.refl No _⟩)) ?_
            refine WDS.m 0 0 (fun v _ => v = _) (Mono.eq) (by kernel_rfl) rfl rfl (fun e w hR hW hh => by obtain ⟨h119, h117, -⟩ := hh; rw [← hwd] at hR; replace hW : Ext wd w := hW; exact SGX.n (OP.x (o_call Try.call25 (lc h117 (lc h119 ln)) ((mark_spec 0 p s.most s.high s.L lv V n w (hp.ext hW)).mono (fun v w' hh => by obtain ⟨h1, lv', V', ht⟩ := hh; exact ⟨h1, ht.only.mono (fun k _ hk => .inl (hpi k hk)), show ∃ lv' V', Turn wd w' 0 p s.most s.high s.L lv V (s.high) ((markR s.L n).2) lv' V' from ⟨lv', V', ht.pre hW⟩⟩))))) ?_
            refine WDS.p rfl (by decide) (fun e w hR hh => by obtain ⟨h120, -⟩ := hh; exact SG.n (o_call Try.call10 (lc h120 ln) ((num_spec _ _).mono (fun v w' ⟨h1, h2⟩ => ⟨h1, by rw [h2]; exact Only.refl No _⟩)))) ?_
            refine WDS.p rfl (by decide) (fun e w hR hh => by obtain ⟨h8, -⟩ := hh; exact SG.n (o_mvh h8 ⟨rfl, Only.refl No _⟩)) ?_
            refine WDS.p rfl (by decide) (fun e w hR hh => by obtain ⟨h5, -⟩ := hh; exact SG.n (o_fa 9 TI58 rfl TI3 rfl h5 ⟨rfl, Only.refl No _⟩)) ?_
            refine WDS.p rfl (by decide) (fun e w hR hh => by obtain ⟨h123, -⟩ := hh; rw [← hwd] at hR; have hc := hR.blk hC5 nc5; exact SG.n (o_ld TI3 rfl h123 (cell_of hc rfl) ⟨rfl, Only.refl No _⟩)) ?_
            refine WDS.m 1 0 (fun v _ => v = _) (Mono.eq) (by kernel_rfl) rfl rfl (fun e w hR hW hh => by obtain ⟨h124, h122, -⟩ := hh; rw [← hwd] at hR; replace hW : ∃ lv' V', Turn wd w 0 p s.most s.high s.L lv V (s.high) ((markR s.L n).2) lv' V' := hW; obtain ⟨lv', V', ht⟩ := hW; have hqw := hq.only ht.only (fun k hk hF => (by have := hpi k hF; have := hqi k hk; omega)); have hFw := hF w (hxH.trans (ht.only.mono (fun k _ hk => hpH k hk))); exact SGX.n (OP.x (o_call Try.call62 (lc h122 (lc h124 ln)) ((rmark_spec 0 q s.most s.high s.L lq Vq n w hqw).mono (fun v w' hh => by obtain ⟨h1, lq', Vq', hrt⟩ := hh; exact ⟨h1, hrt.only.mono (fun k _ hk => .inr (.inl (hqi k hk))), show ∃ w1, (∃ lv' V', Turn wd w1 0 p s.most s.high s.L lv V (s.high) ((markR s.L n).2) lv' V') ∧ (∃ lq' Vq', RTurn w1 w' 0 q s.most s.high s.L lq Vq (s.high) ((markR s.L n).2) lq' Vq') from ⟨w, ⟨lv', V', ht⟩, ⟨lq', Vq', hrt⟩⟩⟩))))) ?_
            refine WDS.p rfl (by decide) (fun e w hR hh => by obtain ⟨h125, h121, -⟩ := hh; exact SG.n (o_eq h121 h125 ⟨rfl, Only.refl No _⟩)) ?_
            rintro e w hR hW ⟨h126, h125, h124, h123, h122, h121, h120, h119, h118, h117, h5, h7, h8, -⟩
            rw [← hwd] at hR
            replace hW : ∃ w1, (∃ lv' V', Turn wd w1 0 p s.most s.high s.L lv V (s.high) ((markR s.L n).2) lv' V') ∧ (∃ lq' Vq', RTurn w1 w 0 q s.most s.high s.L lq Vq (s.high) ((markR s.L n).2) lq' Vq') := hW
            obtain ⟨w1, ⟨lv', V', t1⟩, ⟨lq', Vq', t2⟩⟩ := hW
            have ho3 : Only (fun k => k = g) w w := Only.refl _ _
            refine WL.c rfl (o_ash h126 ?_)
            refine WL.nil ?_
            refine W.ret ?_
            refine ret1v rfl (show _ = Value.bool _ from rfl) ?_
            obtain ⟨o', hT', hk', -⟩ := h.two hi hPi hp hpi hQi hq hqi t1 t2 hgs.markR
            have hTf := hT'.loc ho3 (fun k hk => by subst hk; rw [hk' k hgd (by omega) (by omega)]; exact hgo)
            exact ⟨congrArg Value.bool (by simp), ⟨_, nl, Nat.le_succ _, ⟨o', P, Q, a, b, c, d, VA, VB, VC, VD, hTf⟩, setF_some⟩, ((hxH.trans (t1.only.mono (fun k _ hk => hpH k hk))).trans (t2.only.mono (fun k _ hk => hqH k hk))).trans (ho3.mono (fun k _ hk => by omega))⟩
          · try simp only [decide_eq_true_eq, decide_eq_false_iff_not, Bool.not_eq_true', Bool.not_eq_false', Bool.and_eq_true, Bool.or_eq_true, Bool.and_eq_false_iff, Bool.or_eq_false_iff] at c115
            refine W.skip ?_
            refine W.seq ?_
            refine W.region ?_
            refine WL.c rfl (o_mvh (by first | exact (show _ = Value.pointer _ from rfl) | exact rfl) ?_)
            refine WL.c rfl (o_fa 9 TI58 rfl TI3 rfl rfl ?_)
            refine WL.c rfl (o_ld TI3 rfl rfl (cell_of hC5 rfl) ?_)
            refine WL.c rfl (o_call Try.call26 (lc rfl (lc rfl ln)) ((slot_spec 0 p s.most s.high s.L lv V n _ hp).mono ?_))
            rintro v131 w131 ⟨rfl, hx131⟩
            replace hx := hx.tr hx131
            replace h := h.ext hx131
            replace hp := hp.ext hx131
            replace hq := hq.ext hx131
            replace hC5 := Only.blk hx131 hC5 (fun h => h)
            refine WL.c rfl (o_mvh (by first | exact (show _ = Value.tuple _ from rfl) | exact rfl) ?_)
            refine WL.c rfl (o_ext rfl rfl ?_)
            refine WL.c rfl (o_ext rfl rfl ?_)
            refine WL.c rfl (o_ash (show _ = Value.int _ _ from rfl) ?_)
            refine WL.c rfl (o_ash (show _ = Value.int _ _ from rfl) ?_)
            refine WL.nil ?_
            refine W.seq ?_
            refine W.region ?_
            refine WL.c rfl (o_mvh (by first | exact (show _ = Value.pointer _ from rfl) | exact rfl) ?_)
            refine WL.c rfl (o_fa 9 TI58 rfl TI3 rfl rfl ?_)
            refine WL.c rfl (o_ld TI3 rfl rfl (cell_of hC5 rfl) ?_)
            refine WL.c rfl (o_call Try.call63 (lc rfl (lc rfl ln)) ((rslot_spec 0 q s.most s.high s.L lq Vq n _ hq).mono ?_))
            rintro v138 w138 ⟨rfl, hx138⟩
            replace hx := hx.tr hx138
            replace h := h.ext hx138
            replace hp := hp.ext hx138
            replace hq := hq.ext hx138
            replace hC5 := Only.blk hx138 hC5 (fun h => h)
            refine WL.c rfl (o_mvh (by first | exact (show _ = Value.tuple _ from rfl) | exact rfl) ?_)
            refine WL.c rfl (o_ext rfl rfl ?_)
            refine WL.c rfl (o_ext rfl rfl ?_)
            refine WL.c rfl (o_ash (show _ = Value.int _ _ from rfl) ?_)
            refine WL.c rfl (o_ash (show _ = Value.int _ _ from rfl) ?_)
            refine WL.nil ?_
            refine W.seq ?_
            refine W.region ?_
            refine WL.c rfl (o_mvh (show _ = Value.int _ _ from rfl) ?_)
            refine WL.c rfl (o_mvh (show _ = Value.int _ _ from rfl) ?_)
            refine WL.c rfl (o_eq rfl rfl ?_)
            refine WL.c rfl (o_mvh (show _ = Value.bool _ from rfl) ?_)
            refine WL.g rfl (by simp) rfl (o_mvh (show _ = Value.int _ _ from rfl) ?_)
            refine WL.g rfl (by simp) rfl (o_call Try.call10 (lc rfl ln) ((num_spec _ _).mono ?_))
            rintro v146 w146 ⟨rfl, hw146⟩
            replace hw146 := hw146.symm
            subst hw146
            refine WL.g rfl (by simp) rfl (o_mvh (show _ = Value.int _ _ from rfl) ?_)
            refine WL.g rfl (by simp) rfl (o_eq rfl rfl ?_)
            refine WL.c rfl (o_pickA rfl rfl ?_)
            refine WL.c rfl (o_ash (show _ = Value.bool _ from rfl) ?_)
            refine WL.nil ?_
            refine W.ret ?_
            refine ret1v rfl (show _ = Value.bool _ from rfl) ?_
            exact ⟨congrArg Value.bool (by simp), ⟨S, nl, Nat.le_succ _, ⟨o, P, Q, a, b, c, d, VA, VB, VC, VD, h⟩, fun _ hj => hj⟩, hx.mono (fun _ _ h => h.elim)⟩

theorem TbO.x {w : World} {H tp : Nat} {S : Nat → Option SSt} {nl nb : Nat} {o : Nat → Nat} {B : Nat} (h : TbO w H tp S nl nb o B) : TbX w H tp S nl nb := by
  obtain ⟨o', P, Q, a, b, c, d, VA, VB, VC, VD, h, -⟩ := h
  exact ⟨o', P, Q, a, b, c, d, VA, VB, VC, VD, h⟩
theorem SF_new {p k : Nat} {V : Nat → Value} (h : SF p (.slice none 0 0) V ([] : List Fr).length k) : k = p := by
  rcases h with h | h | ⟨j, hj, -⟩
  · exact h
  · cases h
  · cases hj
theorem cutF_len (f : Fr) : (cutF f).tab.length ≤ 300 := by show (f.tab.take 300).length ≤ 300; rw [List.length_take]; omega
theorem cutF_nil {f : Fr} (h : f.tab = []) : (cutF f).tab = [] := by simp [cutF, h]
theorem bool_i (wh : Bool) : (if wh then 1 else 0 : Nat) < 2 := by cases wh <;> decide

set_option maxHeartbeats 4000000 in
theorem plays_spec (H tp : Nat) (o : Nat → Nat) (S : Nat → Option SSt) (P Q : Nat → Value) (a b c d : Value) (nl nb : Nat) (VA VB VC VD : Nat → Value) (w0 : World) (h : Tb w0 H tp o S S P Q a b c d nl nb VA VB VC VD) (kd : Int) (wh : Bool) (f : Fr) (fv : Value) (n : Int) (bw : Value) (xs : List UInt8) (hF : In w0 fv f.tab) (hFb : ∀ b, fv.ownBlock = some b → H ≤ b → f.tab = []) (hX : By w0 bw xs) (hXb : ∀ b, bw.ownBlock = some b → H ≤ b → xs = []) (hXl : xs.length ≤ maxLen) (hsome : kd ≠ 1 → ∀ i, i < 2 → (S i).isSome = true) (hnl : nl + 3 ≤ 1000000000000) (hnb : nb + 2 ≤ 1000000000000) : Ca Try.prog 17 #[.pointer (some ⟨tp, 0, none⟩), .agg (opc kd wh f fv n bw).toArray] w0 (fun v w' => v = .bool true ∧ (∃ S' nl' nb', nl' ≤ nl + 3 ∧ nb' ≤ nb + 2 ∧ TbX w' H tp S' nl' nb' ∧ (∀ j, (S j).isSome = true → (S' j).isSome = true) ∧ (kd = 1 → inb n 1 1048576 = true → (S' (if wh then 1 else 0 : Nat)).isSome = true)) ∧ Only (fun k => H ≤ k) w0 w') := by
  rw [maxLen_eq] at hXl
  have hx : Ext w0 w0 := Only.refl _ _
  have hle := h.le
  have hhi0 := h.hi
  obtain ⟨i, hiw⟩ : ∃ i, i = (if wh then 1 else 0 : Nat) := ⟨_, rfl⟩
  have hi : i < 2 := by rw [hiw]; exact bool_i wh
  rw [← hiw]
  refine Ca.of Try.func17 Try.ntmps17 rfl rfl ?_
  refine W.seq ?_
  refine W.region ?_
  refine WL.c rfl (o_boxB rfl ?_)
  intro w3 hC3 hx3 hs3
  replace hC3 : w3.heap[w0.heap.size]? = some (.cells (opc kd wh f fv n bw).toArray 58 (0, 0)) := hC3
  replace hx := hx3
  replace h := h.ext hx3
  refine WL.c rfl (o_ash (show _ = Value.bool _ from rfl) ?_)
  refine WL.nil ?_
  refine W.seq ?_
  refine W.region ?_
  refine WL.c rfl (o_ash (show _ = Value.int _ _ from rfl) ?_)
  refine WL.nil ?_
  refine W.seq ?_
  refine W.seq ?_
  refine W.region ?_
  refine WL.c rfl (o_fa 1 TI58 rfl TI4 rfl rfl ?_)
  refine WL.c rfl (o_ld TI4 rfl rfl (cell_of hC3 rfl) ?_)
  refine WL.nil ?_
  refine W.cut (fun e1 w1 => w1 = w3 ∧ e1 0 = .pointer (some ⟨tp, 0, none⟩) ∧ e1 3 = Value.pointer (some ⟨w0.heap.size, 0, none⟩) ∧ e1 5 = .int .i64 (i : Int)) ?_ ?_
  · -- both ways
    refine W.cond rfl (fun c11 => ?_) (fun c11 => ?_)
    · try simp only [decide_eq_true_eq, decide_eq_false_iff_not, Bool.not_eq_true', Bool.not_eq_false', Bool.and_eq_true, Bool.or_eq_true, Bool.and_eq_false_iff, Bool.or_eq_false_iff] at c11
      refine W.region ?_
      refine WL.c rfl (o_ash (show _ = Value.int _ _ from rfl) ?_)
      refine WL.nil ?_
      exact ⟨rfl, rfl, rfl, by rw [hiw, c11]; rfl⟩
    · try simp only [decide_eq_true_eq, decide_eq_false_iff_not, Bool.not_eq_true', Bool.not_eq_false', Bool.and_eq_true, Bool.or_eq_true, Bool.and_eq_false_iff, Bool.or_eq_false_iff] at c11
      refine W.skip ?_
      exact ⟨rfl, rfl, rfl, by rw [hiw, c11]; rfl⟩
  rintro e w ⟨hw, h0, h3, h5⟩
  replace hw := hw.symm
  subst hw
  refine W.seq ?_
  refine W.region ?_
  refine WL.c rfl (o_fa 2 TI58 rfl TI39 rfl h3 ?_)
  refine WL.c rfl (o_ldA TI39 rfl rfl (opc_cells hC3) rfl ?_)
  refine WL.c rfl (o_call Try.call38 (lc rfl ln) ((cut_spec f fv _ (Sl.ext hF hx)).mono ?_))
  rintro v14 w14 ⟨u, rfl, hub, hFu, hx14⟩
  replace hx := hx.tr hx14
  replace h := h.ext hx14
  replace hC3 := Only.blk hx14 hC3 (fun h => h)
  have hxH : Only (fun k => H ≤ k) w0 w14 := hx.mono (fun _ _ h => h.elim)
  have hlt3 : w0.heap.size < w14.heap.size := (Array.getElem?_eq_some_iff.1 hC3).1
  obtain ⟨c3, hc3⟩ : ∃ c3, c3 = w0.heap.size := ⟨_, rfl⟩
  have hc30 : o c3 = 0 := hhi0 c3 (by omega)
  rw [← hc3] at hC3
  have hFuk : ∀ w, Only (fun k => H ≤ k) w14 w → In w u (cutF f).tab := fun w ho => Sl.keep hFu ho (fun b hb hF => by rw [cutF_nil (hFb b (by rw [← hub]; exact hb) hF)]; rfl)
  have hcl := cutF_len f
  refine WL.c rfl (o_fa 2 TI58 rfl TI39 rfl h3 ?_)
  refine WL.u (o_stAo TI39 rfl (show _ = Value.agg (fcells (cutF f) u).toArray from rfl) rfl (fcells_one (by obtain ⟨_, _, rfl⟩ := hFu.isSlice; rfl)) (show w14.heap[w0.heap.size]? = some (.cells (opc kd wh f fv n bw).toArray 58 (0, 0)) by rw [← hc3]; exact hC3) (show 2 + 7 ≤ 11 by decide) ?_)
  intro w15 hB15 ho15 hs15
  replace hC3 : w15.heap[c3]? = some (.cells (opc kd wh (cutF f) u n bw).toArray 58 (0, 0)) := by rw [hc3]; exact hB15
  rw [← hc3] at ho15
  replace h := h.loc ho15 (fun k hk => by subst hk; exact hc30)
  have ho15H : Only (fun k => H ≤ k) w14 w15 := ho15.mono (fun k _ hk => by omega)
  replace hxH := hxH.trans ho15H
  replace hFuk : ∀ w, Only (fun k => H ≤ k) w15 w → In w u (cutF f).tab := fun w ho => hFuk w (ho15H.trans ho)
  rw [← hc3] at h3
  have hXw : By w15 bw xs := Sl.keep hX hxH (fun b hb hF => by rw [hXb b hb hF]; rfl)
  clear hB15
  refine WL.nil ?_
  refine W.seq ?_
  refine W.seq ?_
  refine W.region ?_
  refine WL.c rfl (o_fa 0 TI58 rfl TI3 rfl h3 ?_)
  refine WL.c rfl (o_ld TI3 rfl rfl (cell_of hC3 rfl) ?_)
  refine WL.nil ?_
  refine W.block ?_
  refine W.seq ?_
  refine W.region ?_
  refine WL.c rfl (o_eq rfl rfl ?_)
  refine WL.c rfl (o_ash (show _ = Value.bool _ from rfl) ?_)
  refine WL.nil ?_
  refine W.cond rfl (fun c18 => ?_) (fun c18 => ?_)
  · try simp only [decide_eq_true_eq, decide_eq_false_iff_not, Bool.not_eq_true', Bool.not_eq_false', Bool.and_eq_true, Bool.or_eq_true, Bool.and_eq_false_iff, Bool.or_eq_false_iff] at c18
    refine W.seq ?_
    have htpH := htp_of h
    have hxH0 := hxH
    rcases hin : inb n 1 1048576 with _ | _
    · skip
      refine W.region ?_
      refine WL.c rfl (o_fa 9 TI58 rfl TI3 rfl h3 ?_)
      refine WL.c rfl (o_ld TI3 rfl rfl (cell_of hC3 rfl) ?_)
      refine WL.c rfl (o_call Try.call27 (lc rfl ln) ((new_spec n _).mono ?_))
      rintro v23 w23 ⟨hok, hbad, hx23⟩
      obtain rfl := hbad hin
      replace h := h.ext hx23
      replace hC3 := hx23.blk hC3 (fun h => h)
      replace hxH := hxH.trans (hx23.mono (fun _ _ h => h.elim))
      refine WL.c rfl (o_mvh (by first | exact (show _ = Value.tuple _ from rfl) | exact rfl) ?_)
      refine WL.c rfl (o_ext rfl rfl ?_)
      refine WL.c rfl (o_ext rfl rfl ?_)
      refine WL.c rfl (o_ash (by first | exact (show _ = Value.pointer _ from rfl) | exact rfl) ?_)
      refine WL.c rfl (o_ash (show _ = Value.int _ _ from rfl) ?_)
      refine WL.nil ?_
      refine W.seq ?_
      refine W.region ?_
      refine WL.c rfl (o_fa 9 TI58 rfl TI3 rfl h3 ?_)
      refine WL.c rfl (o_ld TI3 rfl rfl (cell_of hC3 rfl) ?_)
      refine WL.c rfl (o_call Try.call39 (lc rfl ln) ((rnew_spec n _).mono ?_))
      rintro v29 w29 ⟨hok9, hbad9, hx29⟩
      obtain rfl := hbad9 hin
      replace h := h.ext hx29
      replace hC3 := hx29.blk hC3 (fun h => h)
      replace hxH := hxH.trans (hx29.mono (fun _ _ h => h.elim))
      refine WL.c rfl (o_mvh (by first | exact (show _ = Value.tuple _ from rfl) | exact rfl) ?_)
      refine WL.c rfl (o_ext rfl rfl ?_)
      refine WL.c rfl (o_ext rfl rfl ?_)
      refine WL.c rfl (o_ash (by first | exact (show _ = Value.pointer _ from rfl) | exact rfl) ?_)
      refine WL.c rfl (o_ash (show _ = Value.int _ _ from rfl) ?_)
      refine WL.nil ?_
      refine W.seq ?_
      refine W.region ?_
      refine WL.c rfl (o_mvh (show _ = Value.int _ _ from rfl) ?_)
      refine WL.c rfl (o_call Try.call10 (lc rfl ln) ((num_spec _ _).mono ?_))
      rintro v33 w33 ⟨rfl, hw33⟩
      replace hw33 := hw33.symm
      subst hw33
      refine WL.c rfl (o_mvh (show _ = Value.int _ _ from rfl) ?_)
      refine WL.c rfl (o_eq rfl rfl ?_)
      refine WL.c rfl (o_mvh (show _ = Value.bool _ from rfl) ?_)
      refine WL.g rfl (by simp) rfl (o_mvh h0 ?_)
      refine WL.g rfl (by simp) rfl (o_mvh h5 ?_)
      refine WL.g rfl (by simp) rfl (o_mvh (by first | exact (show _ = Value.pointer _ from rfl) | exact rfl) ?_)
      refine WL.g rfl (by simp) rfl (o_mvh (by first | exact (show _ = Value.pointer _ from rfl) | exact rfl) ?_)
      refine WL.g rfl (by simp) rfl (o_call Try.call40 (lc rfl (lc rfl (lc rfl (lc rfl ln)))) ((beginsN_spec tp (i : Int) _).mono ?_))
      rintro v41 w41 ⟨rfl, rfl⟩
      refine WL.c rfl (o_pickA rfl rfl ?_)
      refine WL.c rfl (o_ash (show _ = Value.bool _ from rfl) ?_)
      refine WL.nil ?_
      refine W.ret ?_
      refine ret1v rfl (show _ = Value.bool _ from rfl) ?_
      exact ⟨congrArg Value.bool (by simp), ⟨S, nl, nb, Nat.le_add_right _ _, Nat.le_add_right _ _, ⟨o, P, Q, a, b, c, d, VA, VB, VC, VD, h⟩, fun _ hj => hj, fun _ h1 => by cases h1⟩, hxH⟩
    · skip
      refine W.region ?_
      refine WL.c rfl (o_fa 9 TI58 rfl TI3 rfl h3 ?_)
      refine WL.c rfl (o_ld TI3 rfl rfl (cell_of hC3 rfl) ?_)
      refine WL.c rfl (o_call Try.call27 (lc rfl ln) ((new_spec n _).mono ?_))
      rintro v23 w23 ⟨hok, hbad, hx23⟩
      obtain ⟨rfl, hst⟩ := hok hin
      replace h := h.ext hx23
      replace hC3 := hx23.blk hC3 (fun h => h)
      replace hxH := hxH.trans (hx23.mono (fun _ _ h => h.elim))
      have hstl : w15.heap.size < w23.heap.size := (hst.lt _ (.inl rfl)).2
      refine WL.c rfl (o_mvh (by first | exact (show _ = Value.tuple _ from rfl) | exact rfl) ?_)
      refine WL.c rfl (o_ext rfl rfl ?_)
      refine WL.c rfl (o_ext rfl rfl ?_)
      refine WL.c rfl (o_ash (by first | exact (show _ = Value.pointer _ from rfl) | exact rfl) ?_)
      refine WL.c rfl (o_ash (show _ = Value.int _ _ from rfl) ?_)
      refine WL.nil ?_
      refine W.seq ?_
      refine W.region ?_
      refine WL.c rfl (o_fa 9 TI58 rfl TI3 rfl h3 ?_)
      refine WL.c rfl (o_ld TI3 rfl rfl (cell_of hC3 rfl) ?_)
      refine WL.c rfl (o_call Try.call39 (lc rfl ln) ((rnew_spec n _).mono ?_))
      rintro v29 w29 ⟨hok9, hbad9, hx29⟩
      obtain ⟨rfl, hsq⟩ := hok9 hin
      replace h := h.ext hx29
      replace hC3 := hx29.blk hC3 (fun h => h)
      replace hxH := hxH.trans (hx29.mono (fun _ _ h => h.elim))
      replace hst := hst.ext hx29
      have hhi := hhi0
      have hs015 := hxH0.size
      refine WL.c rfl (o_mvh (by first | exact (show _ = Value.tuple _ from rfl) | exact rfl) ?_)
      refine WL.c rfl (o_ext rfl rfl ?_)
      refine WL.c rfl (o_ext rfl rfl ?_)
      refine WL.c rfl (o_ash (by first | exact (show _ = Value.pointer _ from rfl) | exact rfl) ?_)
      refine WL.c rfl (o_ash (show _ = Value.int _ _ from rfl) ?_)
      refine WL.nil ?_
      refine W.seq ?_
      refine W.region ?_
      refine WL.c rfl (o_mvh (show _ = Value.int _ _ from rfl) ?_)
      refine WL.c rfl (o_call Try.call10 (lc rfl ln) ((num_spec _ _).mono ?_))
      rintro v33 w33 ⟨rfl, hw33⟩
      replace hw33 := hw33.symm
      subst hw33
      refine WL.c rfl (o_mvh (show _ = Value.int _ _ from rfl) ?_)
      refine WL.c rfl (o_eq rfl rfl ?_)
      refine WL.c rfl (o_mvh (show _ = Value.bool _ from rfl) ?_)
      refine WL.g rfl (by simp) rfl (o_mvh h0 ?_)
      refine WL.g rfl (by simp) rfl (o_mvh h5 ?_)
      refine WL.g rfl (by simp) rfl (o_mvh (by first | exact (show _ = Value.pointer _ from rfl) | exact rfl) ?_)
      refine WL.g rfl (by simp) rfl (o_mvh (by first | exact (show _ = Value.pointer _ from rfl) | exact rfl) ?_)
      refine WL.g rfl (by simp) rfl (o_call Try.call40 (lc rfl (lc rfl (lc rfl (lc rfl ln)))) ((begins_spec (s := ⟨n.toNat, 0, []⟩) h hi (hst.mono (Nat.zero_le _)) (hsq.mono (Nat.zero_le _)) (fun k hk => by obtain rfl := SF_new hk; exact ⟨hhi0 _ hs015, by omega⟩) (fun k hk => by obtain rfl := SF_new hk; exact ⟨hhi0 _ (by omega), by omega⟩) (fun k hk hk2 => by obtain rfl := SF_new hk; have := SF_new hk2; omega) ⟨by simp [inb] at hin; show n.toNat ≤ _; omega, Nat.zero_le _, fun f hf => (by cases hf)⟩ (B := 0) (fun _ _ => Nat.zero_le _) (fun _ _ => Nat.zero_le _)).mono ?_))
      rintro v41 w41 ⟨rfl, hX41, ho41⟩
      refine WL.c rfl (o_pickA rfl rfl ?_)
      refine WL.c rfl (o_ash (show _ = Value.bool _ from rfl) ?_)
      refine WL.nil ?_
      refine W.ret ?_
      refine ret1v rfl (show _ = Value.bool _ from rfl) ?_
      exact ⟨congrArg Value.bool (by simp), ⟨_, nl, nb, Nat.le_add_right _ _, Nat.le_add_right _ _, hX41.x, setF_some, fun _ _ => by rw [setF_eq]; rfl⟩, hxH.trans (ho41.mono (fun k _ hk => by rw [hk]; exact htpH))⟩
  · try simp only [decide_eq_true_eq, decide_eq_false_iff_not, Bool.not_eq_true', Bool.not_eq_false', Bool.and_eq_true, Bool.or_eq_true, Bool.and_eq_false_iff, Bool.or_eq_false_iff] at c18
    refine W.seq ?_
    refine W.seq ?_
    refine W.region ?_
    refine WL.c rfl (o_eq rfl rfl ?_)
    refine WL.c rfl (o_ash (show _ = Value.bool _ from rfl) ?_)
    refine WL.nil ?_
    refine W.cut (fun e1 w1 => w1 = w15 ∧ e1 0 = .pointer (some ⟨tp, 0, none⟩) ∧ e1 3 = Value.pointer (some ⟨c3, 0, none⟩) ∧ e1 5 = .int .i64 (i : Int) ∧ e1 17 = .int .i64 kd ∧ e1 43 = .bool (decide (kd = 2 ∨ kd = 3 ∨ kd = 5 ∨ kd = 6 ∨ kd = 7 ∨ kd = 8))) ?_ ?_
    · -- both ways
      refine W.cond rfl (fun c43 => ?_) (fun c43 => ?_)
      · try simp only [decide_eq_true_eq, decide_eq_false_iff_not, Bool.not_eq_true', Bool.not_eq_false', Bool.and_eq_true, Bool.or_eq_true, Bool.and_eq_false_iff, Bool.or_eq_false_iff] at c43
        refine W.skip ?_
        exact ⟨rfl, h0, h3, h5, rfl, congrArg Value.bool (by rw [Bool.eq_iff_iff, decide_eq_true_iff, decide_eq_true_iff]; omega)⟩
      · try simp only [decide_eq_true_eq, decide_eq_false_iff_not, Bool.not_eq_true', Bool.not_eq_false', Bool.and_eq_true, Bool.or_eq_true, Bool.and_eq_false_iff, Bool.or_eq_false_iff] at c43
        refine W.seq ?_
        refine W.region ?_
        refine WL.c rfl (o_eq rfl rfl ?_)
        refine WL.c rfl (o_ash (show _ = Value.bool _ from rfl) ?_)
        refine WL.nil ?_
        refine W.cond rfl (fun c43 => ?_) (fun c43 => ?_)
        · try simp only [decide_eq_true_eq, decide_eq_false_iff_not, Bool.not_eq_true', Bool.not_eq_false', Bool.and_eq_true, Bool.or_eq_true, Bool.and_eq_false_iff, Bool.or_eq_false_iff] at c43
          refine W.skip ?_
          exact ⟨rfl, h0, h3, h5, rfl, congrArg Value.bool (by rw [Bool.eq_iff_iff, decide_eq_true_iff, decide_eq_true_iff]; omega)⟩
        · try simp only [decide_eq_true_eq, decide_eq_false_iff_not, Bool.not_eq_true', Bool.not_eq_false', Bool.and_eq_true, Bool.or_eq_true, Bool.and_eq_false_iff, Bool.or_eq_false_iff] at c43
          refine W.seq ?_
          refine W.region ?_
          refine WL.c rfl (o_eq rfl rfl ?_)
          refine WL.c rfl (o_ash (show _ = Value.bool _ from rfl) ?_)
          refine WL.nil ?_
          refine W.cond rfl (fun c43 => ?_) (fun c43 => ?_)
          · try simp only [decide_eq_true_eq, decide_eq_false_iff_not, Bool.not_eq_true', Bool.not_eq_false', Bool.and_eq_true, Bool.or_eq_true, Bool.and_eq_false_iff, Bool.or_eq_false_iff] at c43
            refine W.skip ?_
            exact ⟨rfl, h0, h3, h5, rfl, congrArg Value.bool (by rw [Bool.eq_iff_iff, decide_eq_true_iff, decide_eq_true_iff]; omega)⟩
          · try simp only [decide_eq_true_eq, decide_eq_false_iff_not, Bool.not_eq_true', Bool.not_eq_false', Bool.and_eq_true, Bool.or_eq_true, Bool.and_eq_false_iff, Bool.or_eq_false_iff] at c43
            refine W.seq ?_
            refine W.region ?_
            refine WL.c rfl (o_eq rfl rfl ?_)
            refine WL.c rfl (o_ash (show _ = Value.bool _ from rfl) ?_)
            refine WL.nil ?_
            refine W.cond rfl (fun c43 => ?_) (fun c43 => ?_)
            · try simp only [decide_eq_true_eq, decide_eq_false_iff_not, Bool.not_eq_true', Bool.not_eq_false', Bool.and_eq_true, Bool.or_eq_true, Bool.and_eq_false_iff, Bool.or_eq_false_iff] at c43
              refine W.skip ?_
              exact ⟨rfl, h0, h3, h5, rfl, congrArg Value.bool (by rw [Bool.eq_iff_iff, decide_eq_true_iff, decide_eq_true_iff]; omega)⟩
            · try simp only [decide_eq_true_eq, decide_eq_false_iff_not, Bool.not_eq_true', Bool.not_eq_false', Bool.and_eq_true, Bool.or_eq_true, Bool.and_eq_false_iff, Bool.or_eq_false_iff] at c43
              refine W.seq ?_
              refine W.region ?_
              refine WL.c rfl (o_eq rfl rfl ?_)
              refine WL.c rfl (o_ash (show _ = Value.bool _ from rfl) ?_)
              refine WL.nil ?_
              refine W.cond rfl (fun c43 => ?_) (fun c43 => ?_)
              · try simp only [decide_eq_true_eq, decide_eq_false_iff_not, Bool.not_eq_true', Bool.not_eq_false', Bool.and_eq_true, Bool.or_eq_true, Bool.and_eq_false_iff, Bool.or_eq_false_iff] at c43
                refine W.skip ?_
                exact ⟨rfl, h0, h3, h5, rfl, congrArg Value.bool (by rw [Bool.eq_iff_iff, decide_eq_true_iff, decide_eq_true_iff]; omega)⟩
              · try simp only [decide_eq_true_eq, decide_eq_false_iff_not, Bool.not_eq_true', Bool.not_eq_false', Bool.and_eq_true, Bool.or_eq_true, Bool.and_eq_false_iff, Bool.or_eq_false_iff] at c43
                refine W.region ?_
                refine WL.c rfl (o_eq rfl rfl ?_)
                refine WL.c rfl (o_ash (show _ = Value.bool _ from rfl) ?_)
                refine WL.nil ?_
                exact ⟨rfl, h0, h3, h5, rfl, congrArg Value.bool (by rw [Bool.eq_iff_iff, decide_eq_true_iff, decide_eq_true_iff]; omega)⟩
    rintro e w ⟨hw, h0, h3, h5, h17, h43⟩
    replace hw := hw.symm
    subst hw
    refine W.cond h43 (fun c43 => ?_) (fun c43 => ?_)
    · try simp only [decide_eq_true_eq, decide_eq_false_iff_not, Bool.not_eq_true', Bool.not_eq_false', Bool.and_eq_true, Bool.or_eq_true, Bool.and_eq_false_iff, Bool.or_eq_false_iff] at c43
      refine W.seq ?_
      obtain ⟨s, hs⟩ : ∃ s, S i = some s := Option.isSome_iff_exists.1 (hsome (by omega) i hi)
      obtain ⟨wd, hwd⟩ : ∃ wd, wd = w15.drew := ⟨_, rfl⟩
      have hxd : Ext w15 wd := hwd ▸ Only.drew w15
      replace h := h.ext hxd
      replace hC3 := hxd.blk hC3 (fun h => h)
      replace hxH := hxH.trans (hxd.mono (fun _ _ h => h.elim))
      replace hFuk : ∀ w, Only (fun k => H ≤ k) wd w → In w u (cutF f).tab := fun w ho => hFuk w ((hxd.mono (fun _ _ h => h.elim)).trans ho)
      refine W.drawM 3 rfl rfl rfl (Ext) [(0, fun v _ => v = _), (5, fun v _ => v = _), (3, fun v _ => v = _)] rfl (by kernel_rfl) (Only.refl No) (fun _ _ _ h k => h.trans k) ⟨Mono.eq, Mono.eq, Mono.eq, trivial⟩ ⟨h0, h5, h3, trivial⟩ ?_
      refine WD.p rfl (fun e w hR hh => by obtain ⟨h0, -⟩ := hh; exact SG.n (o_mvh h0 ⟨rfl, Only.refl No _⟩)) ?_
      refine WD.p rfl (fun e w hR hh => by obtain ⟨h5, -⟩ := hh; exact SG.n (o_mvh h5 ⟨rfl, Only.refl No _⟩)) ?_
      refine WD.p rfl (fun e w hR hh => by obtain ⟨h3, -⟩ := hh; rw [← hwd] at hR; have hc := hR.blk hC3 (fun h => h); exact SG.n (o_ldA TI58 rfl h3 (show Cells w c3 0 (opc kd wh (cutF f) u n bw) from Cells.of hc 0 _ (by simp)) rfl ⟨rfl, Only.refl No _⟩)) ?_
      rintro e w hR ⟨h52, h51, h50, h0, h5, h3, -⟩
      rw [← hwd] at hR
      replace h := h.ext hR
      replace hC3 := hR.blk hC3 (fun h => h)
      replace hxH := hxH.trans (hR.mono (fun _ _ h => h.elim))
      replace hFuk : ∀ w2, Only (fun k => H ≤ k) w w2 → In w2 u (cutF f).tab := fun w ho => hFuk w ((hR.mono (fun _ _ h => h.elim)).trans ho)
      refine SG.n (o_call Try.call41 (lc h50 (lc h51 (lc h52 ln))) ((moves_spec H tp o S P Q a b c d nl nb VA VB VC VD _ h i hi s hs kd wh (cutF f) u n bw hFuk (by omega) (by omega)).mono ?_))
      rintro v53 w53 ⟨rfl, ⟨S', nl', hnl', ⟨o', P', Q', a', b', c', d', VA', VB', VC', VD', h'⟩, hS'⟩, ho53⟩
      obtain ⟨s', hs'⟩ := Option.isSome_iff_exists.1 (hS' i (by rw [hs]; rfl))
      obtain ⟨p, lv, V, hPi, hp, -⟩ := h'.getP hi hs'
      obtain ⟨q, lq, Vq, hQi, hq, -⟩ := h'.getR hi hs'
      refine Rest.draw (fun a b => b = a) [(0, fun v _ => v = _), (5, fun v _ => v = _), (53, fun v _ => v = _)] (by kernel_rfl) (fun _ => rfl) (fun _ _ _ h k => k.trans h) ⟨Mono.eq, Mono.eq, Mono.eq, trivial⟩ ⟨h0, h5, rfl, trivial⟩ ?_
      refine WD.p rfl (fun e w hR hh => by obtain ⟨h53, -⟩ := hh; exact SG.n (o_mvh h53 ⟨rfl, rfl⟩)) ?_
      refine WD.p rfl (fun e w hR hh => by obtain ⟨h54, h0, -⟩ := hh; exact SG.g h54 (rfl) (o_mvh h0 ⟨rfl, rfl⟩)) ?_
      refine WD.p rfl (fun e w hR hh => by obtain ⟨h54, h5, -⟩ := hh; exact SG.g h54 (rfl) (o_mvh h5 ⟨rfl, rfl⟩)) ?_
      refine WD.p rfl (fun e w hR hh => by obtain ⟨h55, h54, -⟩ := hh; exact SG.g h54 (rfl) (o_nil h55 ⟨rfl, rfl⟩)) ?_
      refine WD.p rfl (fun e w hR hh => by obtain ⟨h57, h54, -⟩ := hh; exact SG.g h54 (rfl) (o_fa 0 TI55 rfl TI47 rfl h57 ⟨rfl, rfl⟩)) ?_
      refine WD.p rfl (fun e w hR hh => by obtain ⟨h58, h56, h54, -⟩ := hh; exact SG.g h54 (rfl) (o_ixA TI47 TI25 h58 h56 (by omega) ⟨rfl, rfl⟩)) ?_
      refine WD.p rfl (fun e w hR hh => by obtain ⟨h59, h54, -⟩ := hh; subst hR; exact SG.g h54 (rfl) (o_ld TI25 rfl h59 ((h'.cellP hi).trans (congrArg some hPi)) ⟨rfl, rfl⟩)) ?_
      refine WD.p rfl (fun e w hR hh => by obtain ⟨h60, h54, -⟩ := hh; subst hR; exact SG.g h54 (rfl) (o_call Try.call11 (lc h60 ln) ((len_spec 0 p s'.most s'.high s'.L lv V w hp).mono (fun v w' hh => hh)))) ?_
      refine WD.p rfl (fun e w hR hh => by obtain ⟨h54, h0, -⟩ := hh; exact SG.g h54 (rfl) (o_mvh h0 ⟨rfl, rfl⟩)) ?_
      refine WD.p rfl (fun e w hR hh => by obtain ⟨h54, h5, -⟩ := hh; exact SG.g h54 (rfl) (o_mvh h5 ⟨rfl, rfl⟩)) ?_
      refine WD.p rfl (fun e w hR hh => by obtain ⟨h62, h54, -⟩ := hh; exact SG.g h54 (rfl) (o_nil h62 ⟨rfl, rfl⟩)) ?_
      refine WD.p rfl (fun e w hR hh => by obtain ⟨h64, h54, -⟩ := hh; exact SG.g h54 (rfl) (o_fa 2 TI55 rfl TI49 rfl h64 ⟨rfl, rfl⟩)) ?_
      refine WD.p rfl (fun e w hR hh => by obtain ⟨h65, h63, h54, -⟩ := hh; exact SG.g h54 (rfl) (o_ixA TI49 TI48 h65 h63 (by omega) ⟨rfl, rfl⟩)) ?_
      refine WD.p rfl (fun e w hR hh => by obtain ⟨h66, h54, -⟩ := hh; subst hR; exact SG.g h54 (rfl) (o_ld TI48 rfl h66 ((h'.cellR hi).trans (congrArg some hQi)) ⟨rfl, rfl⟩)) ?_
      refine WD.p rfl (fun e w hR hh => by obtain ⟨h67, h54, -⟩ := hh; subst hR; exact SG.g h54 (rfl) (o_call Try.call42 (lc h67 ln) ((rlen_spec 0 q s'.most s'.high s'.L lq Vq w hq).mono (fun v w' hh => hh)))) ?_
      refine WD.p rfl (fun e w hR hh => by obtain ⟨h68, h61, h54, -⟩ := hh; exact SG.g h54 (rfl) (o_eq h61 h68 ⟨rfl, rfl⟩)) ?_
      refine WD.p rfl (fun e w hR hh => by obtain ⟨h69, h54, -⟩ := hh; exact SG.n (o_pickA h54 h69 ⟨rfl, rfl⟩)) ?_
      refine WD.p rfl (fun e w hR hh => by obtain ⟨h70, -⟩ := hh; exact SG.n (o_mvh h70 ⟨rfl, rfl⟩)) ?_
      refine WD.p rfl (fun e w hR hh => by obtain ⟨h71, h0, -⟩ := hh; exact SG.g h71 (by simp) (o_mvh h0 ⟨rfl, rfl⟩)) ?_
      refine WD.p rfl (fun e w hR hh => by obtain ⟨h71, h5, -⟩ := hh; exact SG.g h71 (by simp) (o_mvh h5 ⟨rfl, rfl⟩)) ?_
      refine WD.p rfl (fun e w hR hh => by obtain ⟨h72, h71, -⟩ := hh; exact SG.g h71 (by simp) (o_nil h72 ⟨rfl, rfl⟩)) ?_
      refine WD.p rfl (fun e w hR hh => by obtain ⟨h74, h71, -⟩ := hh; exact SG.g h71 (by simp) (o_fa 0 TI55 rfl TI47 rfl h74 ⟨rfl, rfl⟩)) ?_
      refine WD.p rfl (fun e w hR hh => by obtain ⟨h75, h73, h71, -⟩ := hh; exact SG.g h71 (by simp) (o_ixA TI47 TI25 h75 h73 (by omega) ⟨rfl, rfl⟩)) ?_
      refine WD.p rfl (fun e w hR hh => by obtain ⟨h76, h71, -⟩ := hh; subst hR; exact SG.g h71 (by simp) (o_ld TI25 rfl h76 ((h'.cellP hi).trans (congrArg some hPi)) ⟨rfl, rfl⟩)) ?_
      refine WD.p rfl (fun e w hR hh => by obtain ⟨h77, h71, -⟩ := hh; subst hR; exact SG.g h71 (by simp) (o_call Try.call12 (lc h77 ln) ((high_spec 0 p s'.most s'.high s'.L lv V w hp).mono (fun v w' hh => hh)))) ?_
      refine WD.p rfl (fun e w hR hh => by obtain ⟨h71, h0, -⟩ := hh; exact SG.g h71 (by simp) (o_mvh h0 ⟨rfl, rfl⟩)) ?_
      refine WD.p rfl (fun e w hR hh => by obtain ⟨h71, h5, -⟩ := hh; exact SG.g h71 (by simp) (o_mvh h5 ⟨rfl, rfl⟩)) ?_
      refine WD.p rfl (fun e w hR hh => by obtain ⟨h79, h71, -⟩ := hh; exact SG.g h71 (by simp) (o_nil h79 ⟨rfl, rfl⟩)) ?_
      refine WD.p rfl (fun e w hR hh => by obtain ⟨h81, h71, -⟩ := hh; exact SG.g h71 (by simp) (o_fa 2 TI55 rfl TI49 rfl h81 ⟨rfl, rfl⟩)) ?_
      refine WD.p rfl (fun e w hR hh => by obtain ⟨h82, h80, h71, -⟩ := hh; exact SG.g h71 (by simp) (o_ixA TI49 TI48 h82 h80 (by omega) ⟨rfl, rfl⟩)) ?_
      refine WD.p rfl (fun e w hR hh => by obtain ⟨h83, h71, -⟩ := hh; subst hR; exact SG.g h71 (by simp) (o_ld TI48 rfl h83 ((h'.cellR hi).trans (congrArg some hQi)) ⟨rfl, rfl⟩)) ?_
      refine WD.p rfl (fun e w hR hh => by obtain ⟨h84, h71, -⟩ := hh; subst hR; exact SG.g h71 (by simp) (o_call Try.call43 (lc h84 ln) ((rhigh_spec 0 q s'.most s'.high s'.L lq Vq w hq).mono (fun v w' hh => hh)))) ?_
      refine WD.p rfl (fun e w hR hh => by obtain ⟨h85, h78, h71, -⟩ := hh; exact SG.g h71 (by simp) (o_eq h78 h85 ⟨rfl, rfl⟩)) ?_
      refine WD.p rfl (fun e w hR hh => by obtain ⟨h86, h71, -⟩ := hh; exact SG.n (o_pickA h71 h86 ⟨rfl, rfl⟩)) ?_
      refine WD.p rfl (fun e w hR hh => by obtain ⟨h87, -⟩ := hh; exact SG.n (o_ash h87 ⟨rfl, rfl⟩)) ?_
      rintro e w hR ⟨h4, h87, h86, h85, h84, h83, h82, h81, h80, h79, h78, h77, h76, h75, h74, h73, h72, h71, h70, h69, h68, h67, h66, h65, h64, h63, h62, h61, h60, h59, h58, h57, h56, h55, h54, h0, h5, h53, -⟩
      subst hR
      refine W.ret ?_
      refine ret1v rfl h4 ?_
      exact ⟨congrArg Value.bool (by simp), ⟨S', nl', nb, by omega, by omega, ⟨o', P', Q', a', b', c', d', VA', VB', VC', VD', h'⟩, hS', fun h1 => by omega⟩, hxH.trans ho53⟩
    · try simp only [decide_eq_true_eq, decide_eq_false_iff_not, Bool.not_eq_true', Bool.not_eq_false', Bool.and_eq_true, Bool.or_eq_true, Bool.and_eq_false_iff, Bool.or_eq_false_iff] at c43
      refine W.seq ?_
      refine W.region ?_
      refine WL.c rfl (o_eq h17 rfl ?_)
      refine WL.c rfl (o_ash (show _ = Value.bool _ from rfl) ?_)
      refine WL.nil ?_
      refine W.cond rfl (fun c88 => ?_) (fun c88 => ?_)
      · try simp only [decide_eq_true_eq, decide_eq_false_iff_not, Bool.not_eq_true', Bool.not_eq_false', Bool.and_eq_true, Bool.or_eq_true, Bool.and_eq_false_iff, Bool.or_eq_false_iff] at c88
        refine W.seq ?_
        obtain ⟨s, hs⟩ : ∃ s, S i = some s := Option.isSome_iff_exists.1 (hsome (by omega) i hi)
        refine W.region ?_
        refine WL.c rfl (o_mvh h0 ?_)
        refine WL.c rfl (o_mvh h5 ?_)
        refine WL.c rfl (o_call Try.call44 (lc rfl (lc rfl ln)) ((tells_spec H tp o S P Q a b c d nl nb VA VB VC VD _ h i hi s hs (by omega)).mono ?_))
        rintro v92 w92 ⟨rfl, hX92, ho92⟩
        refine WL.c rfl (o_ash (show _ = Value.bool _ from rfl) ?_)
        refine WL.nil ?_
        refine W.ret ?_
        refine ret1v rfl (show _ = Value.bool _ from rfl) ?_
        exact ⟨rfl, ⟨S, nl + 3, nb, by omega, by omega, hX92, fun _ hj => hj, fun h1 => by omega⟩, hxH.trans ho92⟩
      · try simp only [decide_eq_true_eq, decide_eq_false_iff_not, Bool.not_eq_true', Bool.not_eq_false', Bool.and_eq_true, Bool.or_eq_true, Bool.and_eq_false_iff, Bool.or_eq_false_iff] at c88
        refine W.seq ?_
        refine W.seq ?_
        refine W.region ?_
        refine WL.c rfl (o_eq h17 rfl ?_)
        refine WL.c rfl (o_ash (show _ = Value.bool _ from rfl) ?_)
        refine WL.nil ?_
        refine W.cut (fun e1 w1 => w1 = w15 ∧ e1 0 = .pointer (some ⟨tp, 0, none⟩) ∧ e1 3 = Value.pointer (some ⟨c3, 0, none⟩) ∧ e1 5 = .int .i64 (i : Int) ∧ e1 17 = .int .i64 kd ∧ e1 93 = .bool (decide (kd = 9 ∨ kd = 11))) ?_ ?_
        · -- both ways
          refine W.cond rfl (fun c93 => ?_) (fun c93 => ?_)
          · try simp only [decide_eq_true_eq, decide_eq_false_iff_not, Bool.not_eq_true', Bool.not_eq_false', Bool.and_eq_true, Bool.or_eq_true, Bool.and_eq_false_iff, Bool.or_eq_false_iff] at c93
            refine W.skip ?_
            exact ⟨rfl, h0, h3, h5, h17, congrArg Value.bool (by rw [Bool.eq_iff_iff, decide_eq_true_iff, decide_eq_true_iff]; omega)⟩
          · try simp only [decide_eq_true_eq, decide_eq_false_iff_not, Bool.not_eq_true', Bool.not_eq_false', Bool.and_eq_true, Bool.or_eq_true, Bool.and_eq_false_iff, Bool.or_eq_false_iff] at c93
            refine W.region ?_
            refine WL.c rfl (o_eq h17 rfl ?_)
            refine WL.c rfl (o_ash (show _ = Value.bool _ from rfl) ?_)
            refine WL.nil ?_
            exact ⟨rfl, h0, h3, h5, h17, congrArg Value.bool (by rw [Bool.eq_iff_iff, decide_eq_true_iff, decide_eq_true_iff]; omega)⟩
        rintro e w ⟨hw, h0, h3, h5, h17, h93⟩
        replace hw := hw.symm
        subst hw
        refine W.cond h93 (fun c93 => ?_) (fun c93 => ?_)
        · try simp only [decide_eq_true_eq, decide_eq_false_iff_not, Bool.not_eq_true', Bool.not_eq_false', Bool.and_eq_true, Bool.or_eq_true, Bool.and_eq_false_iff, Bool.or_eq_false_iff] at c93
          refine W.seq ?_
          obtain ⟨s, hs⟩ : ∃ s, S i = some s := Option.isSome_iff_exists.1 (hsome (by omega) i hi)
          refine W.region ?_
          refine WL.c rfl (o_mvh h0 ?_)
          refine WL.c rfl (o_mvh h5 ?_)
          refine WL.c rfl (o_fa 0 TI58 rfl TI3 rfl h3 ?_)
          refine WL.c rfl (o_ld TI3 rfl rfl (cell_of hC3 rfl) ?_)
          refine WL.c rfl (o_eq rfl rfl ?_)
          refine WL.c rfl (o_call Try.call45 (lc rfl (lc rfl (lc rfl ln))) ((saves_spec H tp o S P Q a b c d nl nb VA VB VC VD _ h i hi s hs _ (by omega)).mono ?_))
          rintro v101 w101 ⟨rfl, ⟨S', hX101, hS'⟩, ho101⟩
          refine WL.c rfl (o_ash (show _ = Value.bool _ from rfl) ?_)
          refine WL.nil ?_
          refine W.ret ?_
          refine ret1v rfl (show _ = Value.bool _ from rfl) ?_
          exact ⟨rfl, ⟨S', nl, nb + 2, by omega, by omega, hX101, hS', fun h1 => by omega⟩, hxH.trans ho101⟩
        · try simp only [decide_eq_true_eq, decide_eq_false_iff_not, Bool.not_eq_true', Bool.not_eq_false', Bool.and_eq_true, Bool.or_eq_true, Bool.and_eq_false_iff, Bool.or_eq_false_iff] at c93
          refine W.seq ?_
          refine W.region ?_
          refine WL.c rfl (o_eq h17 rfl ?_)
          refine WL.c rfl (o_ash (show _ = Value.bool _ from rfl) ?_)
          refine WL.nil ?_
          refine W.cond rfl (fun c102 => ?_) (fun c102 => ?_)
          · try simp only [decide_eq_true_eq, decide_eq_false_iff_not, Bool.not_eq_true', Bool.not_eq_false', Bool.and_eq_true, Bool.or_eq_true, Bool.and_eq_false_iff, Bool.or_eq_false_iff] at c102
            refine W.seq ?_
            refine W.seq ?_
            refine W.region ?_
            refine WL.c rfl (o_fa 10 TI58 rfl TI23 rfl h3 ?_)
            refine WL.c rfl (o_ld TI23 rfl rfl (cell_of hC3 rfl) ?_)
            refine WL.c rfl (o_lenR TI23 rfl hXw ?_)
            refine WL.c rfl (o_gt rfl rfl ?_)
            refine WL.nil ?_
            refine W.cond rfl (fun c107 => ?_) (fun c107 => ?_)
            · try simp only [decide_eq_true_eq, decide_eq_false_iff_not, Bool.not_eq_true', Bool.not_eq_false', Bool.and_eq_true, Bool.or_eq_true, Bool.and_eq_false_iff, Bool.or_eq_false_iff] at c107
              refine W.region ?_
              refine WL.c rfl (o_fa 10 TI58 rfl TI23 rfl h3 ?_)
              refine WL.c rfl (o_ld TI23 rfl rfl (cell_of hC3 rfl) ?_)
              refine WL.c rfl (o_sl (l := 0) (h := 3000) TI23 TI5 rfl hXw Lo.n (Hi.s rfl) (by omega) (by omega) ?_)
              intro v110 hb110 hX110
              replace hb110 : v110.ownBlock = bw.ownBlock := hb110
              refine WL.c rfl (o_fa 10 TI58 rfl TI23 rfl h3 ?_)
              refine WL.u (o_stB TI23 rfl (show _ = v110 from rfl) (by obtain ⟨_, _, rfl⟩ := hX110.isSlice; rfl) hC3 (show 10 < 11 by decide) ?_)
              intro w111 hB111 ho111 hs111
              replace hC3 : w111.heap[c3]? = some (.cells (opc kd wh (cutF f) u n v110).toArray 58 (0, 0)) := hB111
              replace h := h.loc ho111 (fun k hk => by subst hk; exact hc30)
              replace hxH := hxH.trans (ho111.mono (fun k _ hk => by omega))
              obtain ⟨ys, hYw, hyl⟩ : ∃ ys : List UInt8, By w111 v110 ys ∧ ys.length ≤ 3000 := ⟨xs.take 3000, by
                have hl : (xs.take 3000).length = 3000 := by rw [List.length_take]; omega
                have h9 : By w15 v110 (xs.take 3000) := by
                  show Sl w15 1 v110 _ _
                  rw [hl, List.map_take]
                  simpa using hX110
                exact Sl.keep h9 ho111 (fun b hb hF => by rw [hXb b (by rw [← hb110]; exact hb) (by omega)]; rfl), by rw [List.length_take]; omega⟩
              refine WL.nil ?_
              refine W.seq ?_
              refine W.region ?_
              refine WL.c rfl (o_mvh h0 ?_)
              refine WL.c rfl (o_mvh h5 ?_)
              refine WL.c rfl (o_fa 10 TI58 rfl TI23 rfl h3 ?_)
              refine WL.c rfl (o_ld TI23 rfl rfl (cell_of hC3 rfl) ?_)
              refine WL.c rfl (o_call Try.call46 (lc rfl (lc rfl (lc rfl ln))) ((loads_spec H tp o S P Q a b c d nl nb VA VB VC VD _ h i hi v110 ys hYw (by omega)).mono ?_))
              rintro v116 w116 ⟨rfl, ⟨S', hX116, hS'⟩, ho116⟩
              refine WL.c rfl (o_ash (show _ = Value.bool _ from rfl) ?_)
              refine WL.nil ?_
              refine W.ret ?_
              refine ret1v rfl (show _ = Value.bool _ from rfl) ?_
              exact ⟨rfl, ⟨S', nl, nb, by omega, by omega, hX116.x, hS', fun h1 => by omega⟩, hxH.trans (ho116.mono (fun k _ hk => by rw [hk]; exact htp_of h))⟩
            · try simp only [decide_eq_true_eq, decide_eq_false_iff_not, Bool.not_eq_true', Bool.not_eq_false', Bool.and_eq_true, Bool.or_eq_true, Bool.and_eq_false_iff, Bool.or_eq_false_iff] at c107
              obtain ⟨v110, hv110⟩ : ∃ v, v = bw := ⟨_, rfl⟩
              obtain ⟨ys, hYw, hyl⟩ : ∃ ys : List UInt8, By w15 v110 ys ∧ ys.length ≤ 3000 := ⟨xs, by rw [hv110]; exact hXw, by omega⟩
              rw [← hv110] at hC3
              refine W.skip ?_
              refine W.seq ?_
              refine W.region ?_
              refine WL.c rfl (o_mvh h0 ?_)
              refine WL.c rfl (o_mvh h5 ?_)
              refine WL.c rfl (o_fa 10 TI58 rfl TI23 rfl h3 ?_)
              refine WL.c rfl (o_ld TI23 rfl rfl (cell_of hC3 rfl) ?_)
              refine WL.c rfl (o_call Try.call46 (lc rfl (lc rfl (lc rfl ln))) ((loads_spec H tp o S P Q a b c d nl nb VA VB VC VD _ h i hi v110 ys hYw (by omega)).mono ?_))
              rintro v116 w116 ⟨rfl, ⟨S', hX116, hS'⟩, ho116⟩
              refine WL.c rfl (o_ash (show _ = Value.bool _ from rfl) ?_)
              refine WL.nil ?_
              refine W.ret ?_
              refine ret1v rfl (show _ = Value.bool _ from rfl) ?_
              exact ⟨rfl, ⟨S', nl, nb, by omega, by omega, hX116.x, hS', fun h1 => by omega⟩, hxH.trans (ho116.mono (fun k _ hk => by rw [hk]; exact htp_of h))⟩
          · try simp only [decide_eq_true_eq, decide_eq_false_iff_not, Bool.not_eq_true', Bool.not_eq_false', Bool.and_eq_true, Bool.or_eq_true, Bool.and_eq_false_iff, Bool.or_eq_false_iff] at c102
            refine W.skip ?_
            refine W.seq ?_
            refine W.region ?_
            refine WL.c rfl (o_ash (show _ = Value.bool _ from rfl) ?_)
            refine WL.nil ?_
            refine W.ret ?_
            refine ret1v rfl (show _ = Value.bool _ from rfl) ?_
            exact ⟨rfl, ⟨S, nl, nb, by omega, by omega, ⟨o, P, Q, a, b, c, d, VA, VB, VC, VD, h⟩, fun _ hj => hj, fun h1 => by omega⟩, hxH⟩

structure OpD where
  kd : Int
  wh : Bool
  f : Fr
  fv : Value
  n : Int
  bw : Value
  xs : List UInt8
def opV (o : OpD) : List Value := opc o.kd o.wh o.f o.fv o.n o.bw
structure OpOk (w : World) (o : OpD) : Prop where
  f : In w o.fv o.f.tab
  b : By w o.bw o.xs
  l : o.xs.length ≤ maxLen
theorem eleven_cells {cs : List Value} (h : cs.length = 11) : ∃ a b c d e f g i j k l, cs = [a, b, c, d, e, f, g, i, j, k, l] := by
  match cs, h with
  | [a, b, c, d, e, f, g, i, j, k, l], _ => exact ⟨a, b, c, d, e, f, g, i, j, k, l, rfl⟩
theorem open_op {H : Type} {enc : TypeId × Value → H} {W : World} {held : Bool} {n : Nat} {cs : List Value} {y : DataW H × List MemPlace} (h : DataW.trod enc Try.prog W 0 (fun _ => true) held n 58 cs = some y) (hz : Small Try.prog 58 y.1) : ∃ o : OpD, cs = opV o ∧ OpOk W o := by
  have hl := open_struct_len (s := 11) Try.underlying58 (by kernel_rfl) h
  obtain ⟨a, b, c, d, e, f, g, i, j, k, l, rfl⟩ := eleven_cells hl
  obtain ⟨n0, y0, h0, -⟩ := open_field 0 0 1 Try.underlying58 rfl rfl rfl (by kernel_rfl) h hz
  obtain ⟨n1, y1, h1, -⟩ := open_field 1 1 1 Try.underlying58 rfl rfl rfl (by kernel_rfl) h hz
  obtain ⟨n2, y2, h2, z2⟩ := open_field 2 2 7 Try.underlying58 rfl rfl rfl (by kernel_rfl) h hz
  obtain ⟨n3, y3, h3, -⟩ := open_field 3 9 1 Try.underlying58 rfl rfl rfl (by kernel_rfl) h hz
  obtain ⟨n4, y4, h4, z4⟩ := open_field 4 10 1 Try.underlying58 rfl rfl rfl (by kernel_rfl) h hz
  obtain ⟨kd, hk, -, -⟩ := DataW.trod_int Try.underlying3 h0
  obtain ⟨t, ht, -⟩ := DataW.trod_bool Try.underlying4 h1
  obtain ⟨⟨fr, fv⟩, hf, hF⟩ := open_frame h2 z2
  obtain ⟨m, hm, -, -⟩ := DataW.trod_int Try.underlying3 h3
  obtain ⟨xs, hx, hS⟩ := open_bytes Try.underlying23 Try.underlying5 (by kernel_rfl) (by kernel_rfl) h4 z4
  simp only [List.drop_zero, List.drop_succ_cons, List.take_succ_cons, List.take_zero, List.cons.injEq, and_true] at hk ht hm hf
  refine ⟨⟨kd, t, fr, fv, m, l, xs⟩, ?_, ⟨hF, hS, by show xs.length ≤ _; rw [maxLen_eq]; omega⟩⟩
  rw [hk, ht, hm]
  show _ = Value.int .i64 kd :: Value.bool t :: (frV (fr, fv) ++ [Value.int .i64 m, l])
  rw [← hf]; rfl
theorem opV_len (o : OpD) : (opV o).length = 11 := rfl
theorem flat_at11 : ∀ (os : List OpD) (k : Nat) (h : k < os.length), ((os.flatMap opV).drop (k * 11)).take 11 = opV os[k]
  | o :: os, 0, h => by rw [Nat.zero_mul, List.drop_zero, List.flatMap_cons]; exact List.take_left' (opV_len o)
  | o :: os, k + 1, h => by
    have ih := flat_at11 os k (by simpa using h)
    have h1 : (k + 1) * 11 - (opV o).length = k * 11 := by rw [opV_len]; omega
    rw [List.flatMap_cons, List.drop_append, List.drop_eq_nil_of_le (by rw [opV_len]; omega), List.nil_append, h1, ih]
    rfl
theorem Sl.op {w : World} {v : Value} {os : List OpD} (h : Sl w 11 v os.length (os.flatMap opV)) {k : Nat} (hk : k < os.length) : ∃ b o c, v = .slice (some ⟨b, o, none⟩) os.length c ∧ Cells w b (o + k * 11) (opV os[k]) := by
  rcases h.val with ⟨hz, h0⟩ | ⟨b, o, c, rfl, hnc, hc⟩
  · omega
  · exact ⟨b, o, c, rfl, by rw [← flat_at11 os k hk]; exact hc.sub _ _⟩
theorem Tb.zero {w : World} {H tp : Nat} (hB : w.heap[tp]? = some (.cells #[.pointer none, .pointer none, .pointer none, .pointer none, .slice none 0 0, .slice none 0 0, .slice none 0 0, .slice none 0 0] 55 (0, 0))) (hH : H ≤ tp) : TbX w H tp (fun _ => none) 0 0 := by
  have hl : tp < w.heap.size := (Array.getElem?_eq_some_iff.1 hB).1
  have rw_ : ∀ id el, RowI w (fun k => if k = tp then 9 else 0) id el (.slice none 0 0) 0 [] := fun id el => ⟨World.ownsRow_nil _ 0 _ _, fun k hk => by cases hk⟩
  refine ⟨fun k => if k = tp then 9 else 0, fun _ => .pointer none, fun _ => .pointer none, .slice none 0 0, .slice none 0 0, .slice none 0 0, .slice none 0 0, fun _ => undef, fun _ => undef, fun _ => undef, fun _ => undef, hB, if_pos rfl, by omega, fun k hk => if_neg (by omega), fun k hk => if_neg (by omega), fun i hi => .inl ⟨rfl, rfl⟩, fun i hi => .inl ⟨rfl, rfl⟩, fun i hi s hs => (by cases hs), fun i hi s hs => (by cases hs), ?_⟩
  exact ⟨rw_ _ _, rw_ _ _, rw_ _ _, rw_ _ _, fun j hj => absurd hj (Nat.not_lt_zero _), fun j hj => absurd hj (Nat.not_lt_zero _), fun j hj => absurd hj (Nat.not_lt_zero _), fun j hj => absurd hj (Nat.not_lt_zero _)⟩

set_option maxHeartbeats 2000000 in
theorem exact_walk (w0 : World) (v : Value) (os : List OpD) (hol : os.length ≤ maxLen) (hS : Sl w0 11 v os.length (os.flatMap opV)) (hos : ∀ o ∈ os, OpOk w0 o) : Ca Try.prog 4 #[v] w0 (fun r w' => r = .bool true ∧ Ext w0 w') := by
  rw [maxLen_eq] at hol
  refine Ca.of Try.func4 Try.ntmps4 rfl rfl ?_
  refine W.seq ?_
  refine W.region ?_
  refine WL.c rfl (o_ash (show _ = Value.bool _ from rfl) ?_)
  refine WL.nil ?_
  refine W.seq ?_
  refine W.seq ?_
  refine W.region ?_
  refine WL.c rfl (o_call Try.call6 ln ((awake_spec _).mono ?_))
  rintro v8 w8 ⟨rfl, hx8⟩
  have hx : Only (fun k => w0.heap.size ≤ k) w0 w8 := hx8.mono (fun _ _ h => h.elim)
  have hs8 := hx.size
  refine WL.c rfl (o_not' rfl ?_)
  refine WL.nil ?_
  refine W.condF' rfl (rfl) ?_
  refine W.skip ?_
  refine W.seq ?_
  refine W.region ?_
  refine WL.c rfl (o_bld TI55 (Sizes.cons TI47 (Sizes.cons TI49 (Sizes.cons TI53 Sizes.nil))) rfl rfl ?_)
  refine WL.c rfl (o_boxB rfl ?_)
  intro w3 hC3 hx3 hs3
  obtain ⟨tp, htp⟩ : ∃ tp, tp = w8.heap.size := ⟨_, rfl⟩
  rw [← htp] at hC3 ⊢
  have hT0 := Tb.zero (H := w0.heap.size) (tp := tp) hC3 (by omega)
  replace hx := hx.trans (hx3.mono (fun _ _ h => h.elim))
  refine WL.c rfl (o_ash (by first | exact (show _ = Value.pointer _ from rfl) | exact rfl) ?_)
  refine WL.nil ?_
  refine W.seq ?_
  refine W.seq ?_
  refine W.region ?_
  refine WL.c rfl (o_ash (show _ = Value.int _ _ from rfl) ?_)
  refine WL.nil ?_
  refine W.block ?_
  refine W.loop (fun e w => ∃ (k nl nb : Nat) (S : Nat → Option SSt), k ≤ 2 ∧ nl ≤ 3 * k ∧ nb ≤ 2 * k ∧ e 0 = v ∧ e 3 = .pointer (some ⟨tp, 0, none⟩) ∧ e 4 = .int .i64 (k : Int) ∧ TbX w w0.heap.size tp S nl nb ∧ (∀ i, i < k → (S i).isSome = true) ∧ Only (fun k => w0.heap.size ≤ k) w0 w) (fun e w => 2 - (intOf (e 4)).toNat) ?_ ?_
  · exact ⟨0, 0, 0, _, by omega, by omega, by omega, rfl, rfl, rfl, hT0, fun i hi => absurd hi (Nat.not_lt_zero _), hx⟩
  rintro e w ⟨k, nl, nb, S, hk, hnl, hnb, h0, h3, h4, hT, hsome, hx⟩
  have hm4 := h4
  refine W.seq ?_
  refine W.seq ?_
  refine W.region ?_
  refine WL.c rfl (o_mvh h4 ?_)
  refine WL.c rfl (o_lt rfl rfl ?_)
  refine WL.nil ?_
  refine W.cond rfl (fun c13 => ?_) (fun c13 => ?_)
  · try simp only [decide_eq_true_eq, decide_eq_false_iff_not, Bool.not_eq_true', Bool.not_eq_false', Bool.and_eq_true, Bool.or_eq_true, Bool.and_eq_false_iff, Bool.or_eq_false_iff] at c13
    refine W.skip ?_
    refine W.seq ?_
    refine W.block ?_
    refine W.seq ?_
    have hk2 : k < 2 := by omega
    obtain ⟨o, P, Q, a, b, c, d, VA, VB, VC, VD, h⟩ := hT
    refine W.region ?_
    refine WL.c rfl (o_mvh h3 ?_)
    refine WL.c rfl (o_mvh h4 ?_)
    refine WL.c rfl (o_eq rfl rfl ?_)
    refine WL.c rfl (o_mvh h4 ?_)
    refine WL.c rfl (o_addi rfl rfl (by omega) ?_)
    refine WL.c rfl (o_bld TI58 (Sizes.cons TI3 (Sizes.cons TI4 (Sizes.cons TI39 (Sizes.cons TI3 (Sizes.cons TI23 Sizes.nil))))) rfl rfl ?_)
    refine WL.c rfl (o_call Try.call17 (lc rfl (lc rfl ln)) ((plays_spec w0.heap.size tp o S P Q a b c d nl nb VA VB VC VD _ h 1 (decide ((k : Int) = 1)) Fr.nil (.slice none 0 0) (5 + (k : Int)) (.slice none 0 0) [] (Sl.nil _ _) (fun b hb => by cases hb) (Sl.nil _ _) (fun b hb => by cases hb) (Nat.zero_le _) (fun h1 => absurd rfl h1) (by omega) (by omega)).mono ?_))
    rintro v22 w22 ⟨rfl, ⟨S', nl', nb', hnl', hnb', hX22, hS', hnew⟩, ho22⟩
    replace hx := hx.trans ho22
    have hwi : (if (decide ((k : Int) = 1)) then 1 else 0 : Nat) = k := by
      obtain rfl | rfl : k = 0 ∨ k = 1 := by omega
      · rfl
      · rfl
    have hk' : (S' k).isSome = true := by
      have := hnew rfl (by obtain rfl | rfl : k = 0 ∨ k = 1 := by omega
                           · rfl
                           · rfl)
      rw [hwi] at this; exact this
    have hsome' : ∀ i, i < k + 1 → (S' i).isSome = true := fun i hi => by
      by_cases e : i = k
      · rw [e]; exact hk'
      · exact hS' i (hsome i (by omega))
    refine WL.c rfl (o_ash (show _ = Value.bool _ from rfl) ?_)
    refine WL.nil ?_
    refine W.seq ?_
    obtain ⟨s, hs⟩ := Option.isSome_iff_exists.1 hk'
    obtain ⟨o', P', Q', a', b', c', d', VA', VB', VC', VD', h'⟩ := id hX22
    obtain ⟨p, lv, V, hPi, hp, -⟩ := h'.getP hk2 hs
    refine W.region ?_
    refine WL.c rfl (o_mvh (show _ = Value.bool _ from rfl) ?_)
    refine WL.c rfl (o_not' rfl ?_)
    refine WL.c rfl (o_mvh (show _ = Value.bool _ from rfl) ?_)
    refine WL.g rfl (rfl) rfl (o_mvh h3 ?_)
    refine WL.g rfl (rfl) rfl (o_mvh h4 ?_)
    refine WL.g rfl (rfl) rfl (o_nil rfl ?_)
    refine WL.g rfl (rfl) rfl (o_fa 0 TI55 rfl TI47 rfl rfl ?_)
    refine WL.g rfl (rfl) rfl (o_ixA TI47 TI25 rfl rfl (by omega) ?_)
    refine WL.g rfl (rfl) rfl (o_ld TI25 rfl rfl ((h'.cellP hk2).trans (congrArg some hPi)) ?_)
    refine WL.g rfl (rfl) rfl (o_eqN (p := some ⟨p, 0, none⟩) TI25 rfl rfl ?_)
    refine WL.c rfl (o_pickO rfl rfl ?_)
    refine WL.nil ?_
    refine W.condF' rfl (rfl) ?_
    refine W.skip ?_
    refine W.region ?_
    refine WL.c rfl (o_mvh h4 ?_)
    refine WL.c rfl (o_addi rfl rfl (by omega) ?_)
    refine WL.c rfl (o_ash (show _ = Value.int _ _ from rfl) ?_)
    refine WL.nil ?_
    refine ⟨⟨k + 1, nl', nb', S', by omega, by omega, by omega, h0, h3, rfl, hX22, hsome', hx⟩, ?_⟩
    show 2 - ((k : Int) + 1).toNat < _
    rw [hm4]; simp only [intOf]; omega
  · try simp only [decide_eq_true_eq, decide_eq_false_iff_not, Bool.not_eq_true', Bool.not_eq_false', Bool.and_eq_true, Bool.or_eq_true, Bool.and_eq_false_iff, Bool.or_eq_false_iff] at c13
    refine W.exit ?_
    refine W.seq ?_
    refine W.seq ?_
    refine W.region ?_
    refine WL.c rfl (o_ash (show _ = Value.int _ _ from rfl) ?_)
    refine WL.nil ?_
    refine W.block ?_
    refine W.loop (fun e w => ∃ (k nl nb : Nat) (S : Nat → Option SSt), k ≤ os.length ∧ k ≤ 150 ∧ nl ≤ 6 + 3 * k ∧ nb ≤ 4 + 2 * k ∧ e 0 = v ∧ e 3 = .pointer (some ⟨tp, 0, none⟩) ∧ e 6 = .int .i64 (k : Int) ∧ TbX w w0.heap.size tp S nl nb ∧ (∀ i, i < 2 → (S i).isSome = true) ∧ Only (fun k => w0.heap.size ≤ k) w0 w) (fun e w => 150 - (intOf (e 6)).toNat) ?_ ?_
    · exact ⟨0, nl, nb, S, by omega, by omega, by omega, by omega, h0, h3, rfl, hT, fun i hi => hsome i (by omega), hx⟩
    rintro e w ⟨k, nl, nb, S, hk, hk150, hnl, hnb, h0, h3, h6, hT, hsome, hx⟩
    have hm6 := h6
    have hSw := Sl.keep hS hx (fun b hb hF => Sl.low hS b hb hF)
    refine W.seq ?_
    refine W.seq ?_
    rcases Nat.lt_or_ge k os.length with hk1 | hk1
    · skip
      refine W.region ?_
      refine WL.c rfl (o_mvh h6 ?_)
      refine WL.c rfl (o_mvh h0 ?_)
      refine WL.c rfl (o_lenR TI45 rfl hSw ?_)
      refine WL.c rfl (o_lt rfl rfl ?_)
      refine WL.c rfl (o_mvh (show _ = Value.bool _ from rfl) ?_)
      refine WL.g rfl (by simp; omega) rfl (o_mvh h6 ?_)
      refine WL.g rfl (by simp; omega) rfl (o_lt rfl rfl ?_)
      refine WL.c rfl (o_pickA rfl rfl ?_)
      refine WL.nil ?_
      refine W.cond rfl (fun c41 => ?_) (fun c41 => ?_)
      · try simp only [decide_eq_true_eq, decide_eq_false_iff_not, Bool.not_eq_true', Bool.not_eq_false', Bool.and_eq_true, Bool.or_eq_true, Bool.and_eq_false_iff, Bool.or_eq_false_iff] at c41
        refine W.skip ?_
        refine W.seq ?_
        refine W.block ?_
        refine W.seq ?_
        obtain ⟨ba, oa, ca, hva, hca⟩ := Sl.op hSw hk1
        have hok := hos os[k] (List.getElem_mem hk1)
        generalize os[k] = q at *
        obtain ⟨o, P, Q, a, b, c, d, VA, VB, VC, VD, h⟩ := hT
        refine W.region ?_
        refine WL.c rfl (o_mvh h3 ?_)
        refine WL.c rfl (o_mvh h0 ?_)
        refine WL.c rfl (o_mvh h6 ?_)
        refine WL.c rfl (o_ixB (i := k) TI45 TI58 (show _ = Value.slice (some ⟨ba, oa, none⟩) os.length ca from hva) rfl (by omega) ?_)
        refine WL.c rfl (o_ldA TI58 rfl rfl (show Cells _ ba (oa + k * 11) (opc q.kd q.wh q.f q.fv q.n q.bw) from hca) rfl ?_)
        refine WL.c rfl (o_call Try.call17 (lc rfl (lc rfl ln)) ((plays_spec w0.heap.size tp o S P Q a b c d nl nb VA VB VC VD _ h q.kd q.wh q.f q.fv q.n q.bw q.xs (Sl.keep hok.f hx (fun b hb hF => Sl.low hok.f b hb hF)) (fun b hb hF => by have := Sl.low hok.f b hb hF; simpa [ints] using this) (Sl.keep hok.b hx (fun b hb hF => Sl.low hok.b b hb hF)) (fun b hb hF => by have := Sl.low hok.b b hb hF; simpa using this) hok.l (fun _ => hsome) (by omega) (by omega)).mono ?_))
        rintro v49 w49 ⟨rfl, ⟨S', nl', nb', hnl', hnb', hX49, hS', -⟩, ho49⟩
        replace hx := hx.trans ho49
        refine WL.c rfl (o_ash (show _ = Value.bool _ from rfl) ?_)
        refine WL.nil ?_
        refine W.seq ?_
        obtain ⟨o', P', Q', a', b', c', d', VA', VB', VC', VD', h'⟩ := hX49
        refine W.region ?_
        refine WL.c rfl (o_mvh (show _ = Value.bool _ from rfl) ?_)
        refine WL.c rfl (o_not' rfl ?_)
        refine WL.c rfl (o_mvh (show _ = Value.bool _ from rfl) ?_)
        refine WL.g rfl (rfl) rfl (o_mvh h3 ?_)
        refine WL.g rfl (rfl) rfl (o_nil rfl ?_)
        refine WL.g rfl (rfl) rfl (o_fa 4 TI55 rfl TI53 rfl rfl ?_)
        refine WL.g rfl (rfl) rfl (o_call Try.call18 (lc rfl ln) ((holds_spec w0.heap.size tp o' S' S' P' Q' a' b' c' d' nl' nb' VA' VB' VC' VD' _ h' (by omega) (by omega)).mono ?_))
        rintro v56 w56 ⟨rfl, hx56⟩
        replace hx := hx.trans (hx56.mono (fun _ _ h => h.elim))
        have hX49 : TbX w56 w0.heap.size tp S' nl' nb' := ⟨o', P', Q', a', b', c', d', VA', VB', VC', VD', h'.ext hx56⟩
        refine WL.g rfl (rfl) rfl (o_not' rfl ?_)
        refine WL.c rfl (o_pickO rfl rfl ?_)
        refine WL.nil ?_
        refine W.condF' rfl (rfl) ?_
        refine W.skip ?_
        refine W.region ?_
        refine WL.c rfl (o_mvh h6 ?_)
        refine WL.c rfl (o_addi rfl rfl (by omega) ?_)
        refine WL.c rfl (o_ash (show _ = Value.int _ _ from rfl) ?_)
        refine WL.nil ?_
        refine ⟨⟨k + 1, nl', nb', S', by omega, by omega, by omega, by omega, h0, h3, rfl, hX49, fun i hi => hS' i (hsome i hi), hx⟩, ?_⟩
        show 150 - ((k : Int) + 1).toNat < _
        rw [hm6]; simp only [intOf]; omega
      · try simp only [decide_eq_true_eq, decide_eq_false_iff_not, Bool.not_eq_true', Bool.not_eq_false', Bool.and_eq_true, Bool.or_eq_true, Bool.and_eq_false_iff, Bool.or_eq_false_iff] at c41
        refine W.exit ?_
        refine W.seq ?_
        refine W.region ?_
        refine WL.c rfl (o_ash (show _ = Value.bool _ from rfl) ?_)
        refine WL.nil ?_
        refine W.ret ?_
        refine ret1v rfl (show _ = Value.bool _ from rfl) ?_
        exact ⟨rfl, hx.mono (fun k hk h => by omega)⟩
    · skip
      refine W.region ?_
      refine WL.c rfl (o_mvh h6 ?_)
      refine WL.c rfl (o_mvh h0 ?_)
      refine WL.c rfl (o_lenR TI45 rfl hSw ?_)
      refine WL.c rfl (o_lt rfl rfl ?_)
      refine WL.c rfl (o_mvh (show _ = Value.bool _ from rfl) ?_)
      refine WL.s rfl (by simp; omega) rfl ?_
      refine WL.s rfl (by simp; omega) rfl ?_
      refine WL.c rfl (o_pickF rfl (by simp; omega) ?_)
      refine WL.nil ?_
      refine W.cond rfl (fun c41 => ?_) (fun c41 => ?_)
      · try simp only [decide_eq_true_eq, decide_eq_false_iff_not, Bool.not_eq_true', Bool.not_eq_false', Bool.and_eq_true, Bool.or_eq_true, Bool.and_eq_false_iff, Bool.or_eq_false_iff] at c41
        cases c41
      · try simp only [decide_eq_true_eq, decide_eq_false_iff_not, Bool.not_eq_true', Bool.not_eq_false', Bool.and_eq_true, Bool.or_eq_true, Bool.and_eq_false_iff, Bool.or_eq_false_iff] at c41
        refine W.exit ?_
        refine W.seq ?_
        refine W.region ?_
        refine WL.c rfl (o_ash (show _ = Value.bool _ from rfl) ?_)
        refine WL.nil ?_
        refine W.ret ?_
        refine ret1v rfl (show _ = Value.bool _ from rfl) ?_
        exact ⟨rfl, hx.mono (fun k hk h => by omega)⟩
end Go.Proofs.Ytdiaeafjjffjmaa
