/-
  Walks. Written by program out of specs of mine.
-/
import Derived.Test.YtcljkkfpcomdcaaM
set_option linter.unusedSimpArgs false
set_option linter.unusedVariables false
set_option maxRecDepth 100000
namespace Go.Proofs.Ytcljkkfpcomdcaa
open Go Go.Vc Go.RowKit Go.Proofs

/-- one element less -/
def shr : Value → Value
  | .slice a n c => .slice a (n - 1) c
  | v => v
theorem shr_s {a : Option Addr} {n c : Nat} : shr (.slice a (n + 1) c) = .slice a n c := rfl
theorem shr_blk (v : Value) : (shr v).ownBlock = v.ownBlock := by
  cases v with
  | slice a n c => cases a <;> rfl
  | _ => rfl
theorem own_shr {w : World} {base : Nat} {el : TypeId} {s n : Nat} {v : Value} {xs ys : List Value} (h : w.ownsRow base el s v (n + 1) (xs ++ ys)) (hl : xs.length = n * s) : w.ownsRow base el s (shr v) n xs := by
  obtain ⟨g, cap, rfl, hb⟩ := own_some h (by omega)
  have := own_take h (m := n) (by omega)
  rw [List.take_left' hl] at this
  exact this
def exK : Ex := ⟨-77, 0, [], [], 0, 0, 0⟩
def markD : List Value := [st [109, 97, 114, 107], .int .i64 (-78), .slice none 0 0]
def drowsK (D : List Df) (V : Nat → Value) (k : Nat) : List Value := (List.range k).flatMap fun j => dcell (D.getD j df0) (V j)
theorem drowsK_all (D : List Df) (V : Nat → Value) : drowsK D V D.length = drows D V := rfl
theorem drowsK_succ (D : List Df) (V : Nat → Value) {k : Nat} (v : Value) : drowsK D (fun j => if j = k then v else V j) (k + 1) = drowsK D V k ++ dcell (D.getD k df0) v := by
  rw [drowsK, List.range_succ, List.flatMap_append, List.flatMap_singleton, if_pos rfl]
  congr 1
  refine dfm_congr fun j hj => ?_
  have hj := List.mem_range.1 hj
  rw [if_neg (by omega)]
theorem drows_len (D : List Df) (V : Nat → Value) : (drows D V).length = D.length * 3 := by
  rw [drows]
  have : ∀ l : List Nat, (l.flatMap fun j => dcell (D.getD j df0) (V j)).length = l.length * 3 := by
    intro l
    induction l with
    | nil => rfl
    | cons a l ih => rw [List.flatMap_cons, List.length_append, ih, dcell_len, List.length_cons]; omega
  rw [this, List.length_range]
theorem drowsK_congr (D : List Df) {V V' : Nat → Value} {k : Nat} (h : ∀ j, j < k → V j = V' j) : drowsK D V k = drowsK D V' k := dfm_congr fun j hj => by rw [h j (List.mem_range.1 hj)]
/-- sizes that a machine can hold -/
structure DOk (D : List Df) : Prop where
  len : D.length * 48 ≤ 140737488351232
  ty : ∀ d ∈ D, d.ty.length * 72 ≤ 140737488351232
  nm : ∀ d ∈ D, d.name.length ≤ 9223372036854775807
  ex : ∀ d ∈ D, ∀ x ∈ d.ty, x.name.length ≤ 9223372036854775807 ∧ x.label.length ≤ 9223372036854775807
theorem DOk.lim {D : List Df} (h : DOk D) : DLim D := fun d hd => ⟨h.nm d hd, by have := h.ty d hd; omega, h.ex d hd⟩
abbrev lenM (D : List Df) (j : Nat) : Nat := (tyD D j).length + 1
abbrev rowM (D : List Df) (j : Nat) : List Value := exs (tyD D j) ++ exV exK
/-- definitions in rows of our own, a mark behind each -/
structure Lent (w : World) (H : Nat) (D : List Df) (gv : Value) (W : Nat → Value) : Prop where
  row : w.ownsRow H 40 3 gv (D.length + 1) (drows D (fun j => shr (W j)) ++ markD)
  tys : Many w H 30 7 D.length W (lenM D) (rowM D)
theorem Lent.defs {w : World} {H : Nat} {D : List Df} {gv : Value} {W : Nat → Value} (h : Lent w H D gv W) : Defs w H D (shr gv) (fun j => shr (W j)) :=
  ⟨own_shr h.row (drows_len _ _), ⟨fun j hj => own_shr (h.tys.row j hj) (exs_len _), fun i j hi hj hij k hk => by rw [shr_blk] at hk ⊢; exact h.tys.off i j hi hj hij k hk⟩⟩
theorem Lent.only {w w' : World} {H : Nat} {D : List Df} {gv : Value} {W : Nat → Value} {F : Nat → Prop} (h : Lent w H D gv W) (ho : Only F w w') (hn : ∀ k, DF gv W D.length k → ¬ F k) : Lent w' H D gv W :=
  ⟨own_only h.row ho (fun k hk => hn k (.inl hk)), h.tys.only ho (fun j hj k hk => hn k (.inr ⟨j, hj, hk⟩))⟩
theorem Lent.ext {w w' : World} {H : Nat} {D : List Df} {gv : Value} {W : Nat → Value} (h : Lent w H D gv W) (ho : Ext w w') : Lent w' H D gv W := h.only ho (fun _ _ h => h)
theorem Lent.lt {w : World} {H : Nat} {D : List Df} {gv : Value} {W : Nat → Value} (h : Lent w H D gv W) : ∀ k, DF gv W D.length k → H ≤ k ∧ k < w.heap.size := fun k hk => by
  rcases hk with hk | ⟨j, hj, hk⟩
  · exact h.row.lt k hk
  · exact h.tys.lt hj hk
theorem one_exs (L : List Ex) : ∀ a ∈ exs L, a.oneCell' = true := by
  intro a ha
  obtain ⟨x, -, hx⟩ := List.mem_flatMap.1 ha
  have : ∀ a ∈ exV x, a.oneCell' = true := by simp [exV, Value.oneCell', st]
  exact this a hx
theorem lent_snoc {w : World} {H : Nat} {D : List Df} {k m : Nat} {W : Nat → Value} {v : Value} (h : Many w H 30 7 k W (lenM D) (rowM D)) (hr : w.ownsRow m 30 7 v (lenM D k) (rowM D k)) (hm : H ≤ m) (hlt : ∀ j, j < k → ∀ b, (W j).ownBlock = some b → b < m) : Many w H 30 7 (k + 1) (fun j => if j = k then v else W j) (lenM D) (rowM D) := Many.snocG h hr hm hlt rfl rfl

set_option maxHeartbeats 2000000 in
theorem lent_spec (D : List Df) (dv : Value) (V : Nat → Value) (w0 : World) (hD0 : DefR w0 D dv V) (hlim : DOk D) : Ca Try.prog 13 #[.agg #[dv]] w0 (fun r w' => ∃ gv U, r = .agg #[shr gv] ∧ Lent w' w0.heap.size D gv U ∧ Ext w0 w') := by
  obtain ⟨BB, hBB⟩ : ∃ B, B = w0.heap.size := ⟨_, rfl⟩
  rw [← hBB]
  have hlen := hlim.len
  refine Ca.of Try.func13 Try.ntmps13 rfl rfl ?_
  refine W.seq ?_
  refine W.region ?_
  refine WL.c rfl (o_boxB rfl ?_)
  intro w1 hC1 hx1 hs1
  have hx := hx1
  replace hC1 : w1.heap[w0.heap.size]? = some (.cells #[dv] 28 (0, 0)) := hC1
  obtain ⟨c1, hc1⟩ : ∃ c, c = w0.heap.size := ⟨_, rfl⟩
  rw [← hc1] at hC1 ⊢
  refine WL.c rfl (o_alB TI28 ?_)
  intro w2 hC2 hx2 hs2
  replace hx := hx.tr hx2
  replace hC1 := hx2.blk hC1 (fun h => h)
  replace hC2 : w2.heap[w1.heap.size]? = some (.cells #[.slice none 0 0] 28 (0, 0)) := hC2
  obtain ⟨c2, hc2⟩ : ∃ c, c = w1.heap.size := ⟨_, rfl⟩
  rw [← hc2] at hC2 ⊢
  refine WL.nil ?_
  refine W.seq ?_
  refine W.region ?_
  refine WL.c rfl (o_alB TI28 ?_)
  intro w3 hC3 hx3 hs3
  replace hx := hx.tr hx3
  replace hC1 := hx3.blk hC1 (fun h => h)
  replace hC2 := hx3.blk hC2 (fun h => h)
  replace hC3 : w3.heap[w2.heap.size]? = some (.cells #[.slice none 0 0] 28 (0, 0)) := hC3
  obtain ⟨c3, hc3⟩ : ∃ c, c = w2.heap.size := ⟨_, rfl⟩
  rw [← hc3] at hC3 ⊢
  have hB1 : BB ≤ c1 := by omega
  have hB2 : BB ≤ c2 := by omega
  have hB3 : BB ≤ c3 := by omega
  have hc12 : ¬ c1 = c2 := by omega
  have hc13 : ¬ c1 = c3 := by omega
  have hc23 : ¬ c2 = c3 := by omega
  refine WL.nil ?_
  refine W.seq ?_
  refine W.seq ?_
  refine W.region ?_
  refine WL.c rfl (o_ash (show _ = Value.int _ _ from rfl) ?_)
  refine WL.nil ?_
  refine W.block ?_
  refine W.loop (fun e w => ∃ (k : Nat) (gv : Value) (U : Nat → Value), k ≤ D.length ∧ e 1 = .pointer (some ⟨c1, 0, none⟩) ∧ e 2 = .pointer (some ⟨c2, 0, none⟩) ∧ e 3 = .pointer (some ⟨c3, 0, none⟩) ∧ e 4 = .int .i64 (k : Int) ∧ w.heap[c1]? = some (.cells #[dv] 28 (0, 0)) ∧ w.heap[c2]? = some (.cells #[.slice none 0 0] 28 (0, 0)) ∧ w.heap[c3]? = some (.cells #[gv] 28 (0, 0)) ∧ w.ownsRow BB 40 3 gv k (drowsK D (fun j => shr (U j)) k) ∧ Many w BB 30 7 k U (lenM D) (rowM D) ∧ Ext w0 w) (fun e w => D.length - (intOf (e 4)).toNat) ?_ ?_
  · exact ⟨0, .slice none 0 0, fun _ => undef, Nat.zero_le _, rfl, rfl, rfl, rfl, hC1, hC2, hC3, World.ownsRow_nil _ _ _ _, Many.zero, hx⟩
  rintro e w ⟨k, gv, U, hk, h1, h2, h3, h4, hC1, hC2, hC3, hrow, htys, hx⟩
  have hm4 := h4
  have hxs := hx.size
  refine W.seq ?_
  refine W.seq ?_
  refine W.region ?_
  refine WL.c rfl (o_mvh h4 ?_)
  refine WL.c rfl (o_fa 0 TI28 rfl TI26 rfl h1 ?_)
  refine WL.c rfl (o_ld TI26 rfl rfl (cell_of hC1 rfl) ?_)
  refine WL.c rfl (o_lenR TI26 rfl (hD0.ext hx).row ?_)
  refine WL.c rfl (o_lt rfl rfl ?_)
  refine WL.nil ?_
  refine W.cond rfl (fun c10 => ?_) (fun c10 => ?_)
  · try simp only [decide_eq_true_eq, decide_eq_false_iff_not, Bool.not_eq_true', Bool.not_eq_false', Bool.and_eq_true, Bool.or_eq_true, Bool.and_eq_false_iff, Bool.or_eq_false_iff] at c10
    have hk1 : k < D.length := by omega
    obtain ⟨tb, to_, tc, rfl, htc, hty⟩ := (hD0.ext hx).atk hk1
    have htl := hlim.ty _ (List.getElem_mem hk1)
    refine W.skip ?_
    refine W.seq ?_
    refine W.block ?_
    refine W.seq ?_
    refine W.region ?_
    refine WL.c rfl (o_ash (by first | exact (show _ = Value.slice _ _ _ from rfl) | exact rfl) ?_)
    refine WL.nil ?_
    refine W.seq ?_
    refine W.region ?_
    refine WL.c rfl (o_mvh (by first | exact (show _ = Value.slice _ _ _ from rfl) | exact rfl) ?_)
    refine WL.c rfl (o_fa 0 TI28 rfl TI26 rfl h1 ?_)
    refine WL.c rfl (o_ld TI26 rfl rfl (cell_of hC1 rfl) ?_)
    refine WL.c rfl (o_mvh h4 ?_)
    refine WL.c rfl (o_ixB TI26 TI40 rfl rfl (by omega) ?_)
    refine WL.c rfl (o_fa 2 TI40 rfl TI38 rfl rfl ?_)
    refine WL.c rfl (o_ld TI38 rfl rfl (htc 2 _ rfl) ?_)
    refine WL.c rfl (o_apO (w.heap.size) TI38 TI30 rfl rfl (World.ownsRow_nil _ _ _ _) hty rfl (by decide) (one_exs _) (by rw [maxLen_eq]; omega) (by omega) (Nat.le_refl _) ?_)
    intro v20 w20 hown20 ho20 hb20 hk20
    rw [Nat.zero_add, List.nil_append] at hown20
    have hx20 : Ext w w20 := ho20.mono (fun j _ h => by cases h)
    clear ho20 hb20 hk20
    replace hC1 := hx20.blk hC1 (fun h => h)
    replace hC2 := hx20.blk hC2 (fun h => h)
    replace hC3 := hx20.blk hC3 (fun h => h)
    have hrow20 := own_ext hrow hx20
    have htys20 := htys.ext hx20
    replace hx := hx.tr hx20
    have hs20 := hx20.size
    refine WL.c rfl (o_ash (by first | exact (show _ = Value.slice _ _ _ from rfl) | exact rfl) ?_)
    refine WL.nil ?_
    refine W.seq ?_
    refine W.region ?_
    refine WL.c rfl (o_mvh (by first | exact (show _ = Value.slice _ _ _ from rfl) | exact rfl) ?_)
    refine WL.c rfl (o_bldC (cs := [(.int .i64 (-77)), (.int .i64 0), (.string ⟨#[]⟩), (.string ⟨#[]⟩), (.int .i64 0), (.int .i64 0), (.int .i64 0)]) TI30 (Sizes.cons TI3 (Sizes.cons TI3 (Sizes.cons TI9 (Sizes.cons TI9 (Sizes.cons TI3 (Sizes.cons TI3 (Sizes.cons TI3 Sizes.nil))))))) rfl (lcp (show _ = Value.int _ _ from rfl) lnp) rfl rfl ?_)
    refine WL.apO (w.heap.size) rfl rfl TI38 TI30 (show _ = Value.agg (exV exK).toArray from rfl) (show _ = v20 from rfl) hown20 (by decide) (by decide) rfl (fun a ha => List.all_eq_true.1 (show List.all _ (fun a => a.oneCell') = true from rfl) a ha) rfl (by rw [maxLen_eq]; omega) (by omega) hs20 ?_
    intro v24 w24 hown24 ho24 hb24 _
    replace hown24 : w24.ownsRow w.heap.size 30 7 v24 (D[k].ty.length + 1) (exs D[k].ty ++ exV exK) := hown24
    replace ho24 : Only (fun k => v20.ownBlock = some k) w20 w24 := ho24
    have hlt20 : ∀ b, v20.ownBlock = some b → w.heap.size ≤ b := fun b hb => (hown20.lt b hb).1
    have hc1l := (Array.getElem?_eq_some_iff.1 hC1).1
    replace hC1 := ho24.blk hC1 (fun he => own_off hown20 hC1 (by decide) he)
    replace hC2 := ho24.blk hC2 (fun he => own_off hown20 hC2 (by decide) he)
    replace hC3 := ho24.blk hC3 (fun he => own_off hown20 hC3 (by decide) he)
    replace hrow := own_only hrow20 ho24 (fun b hb hF => by have := hlt20 b hF; have := (hrow.lt b hb).2; omega)
    have htl2 : ∀ j, j < k → ∀ b, (U j).ownBlock = some b → b < w.heap.size := fun j hj b hb => (htys.lt hj hb).2
    replace htys := htys20.only ho24 (fun j hj b hb hF => by have := hlt20 b hF; have := htl2 j hj b hb; omega)
    replace hx := hx.trans' ho24 (fun _ h => h) (fun b hb he => by have := hlt20 b he; omega)
    have hs24 := hx.size
    have hs25 := ho24.size
    obtain ⟨g, cap, rfl, hgb⟩ := own_some hown24 (by omega)
    refine WL.c rfl (o_ash (by first | exact (show _ = Value.slice _ _ _ from rfl) | exact rfl) ?_)
    refine WL.nil ?_
    obtain ⟨wd, hwd⟩ : ∃ wd, wd = w24.drew := ⟨_, rfl⟩
    have hxd : Ext w24 wd := hwd ▸ Only.drew w24
    replace hx := hx.tr hxd
    replace hown24 := own_ext hown24 hxd
    replace hC1 := hxd.blk hC1 (fun h => h)
    replace hC2 := hxd.blk hC2 (fun h => h)
    replace hC3 := hxd.blk hC3 (fun h => h)
    replace hrow := own_ext hrow hxd
    replace htys := htys.ext hxd
    obtain ⟨_, _, _, hvd, htcd, -⟩ := (hD0.ext hx).atk hk1
    cases hvd
    refine W.drawT 21 (Ext) [(1, fun v _ => v = _), (2, fun v _ => v = _), (3, fun v _ => v = _), (4, fun v _ => v = _), (5, fun v _ => v = _)] rfl (by kernel_rfl) (Only.refl No) (fun _ _ _ h k => h.trans k) ⟨Mono.eq, Mono.eq, Mono.eq, Mono.eq, Mono.eq, trivial⟩ ⟨h1, h2, h3, h4, rfl, trivial⟩ ?_
    refine WD.p rfl (fun e w hR hh => by obtain ⟨h3, -⟩ := hh; exact SG.n (o_fa 0 TI28 rfl TI26 rfl h3 ⟨rfl, Only.refl No _⟩)) ?_
    refine WD.p rfl (fun e w hR hh => by obtain ⟨h25, -⟩ := hh; rw [← hwd] at hR; exact SG.n (o_ld TI26 rfl h25 (cell_of (hR.blk hC3 (fun h => h)) rfl) ⟨rfl, Only.refl No _⟩)) ?_
    refine WD.p rfl (fun e w hR hh => by obtain ⟨h1, -⟩ := hh; exact SG.n (o_fa 0 TI28 rfl TI26 rfl h1 ⟨rfl, Only.refl No _⟩)) ?_
    refine WD.p rfl (fun e w hR hh => by obtain ⟨h27, -⟩ := hh; rw [← hwd] at hR; exact SG.n (o_ld TI26 rfl h27 (cell_of (hR.blk hC1 (fun h => h)) rfl) ⟨rfl, Only.refl No _⟩)) ?_
    refine WD.p rfl (fun e w hR hh => by obtain ⟨h4, -⟩ := hh; exact SG.n (o_mvh h4 ⟨rfl, Only.refl No _⟩)) ?_
    refine WD.p rfl (fun e w hR hh => by obtain ⟨h29, h28, -⟩ := hh; exact SG.n (o_ixB TI26 TI40 h28 h29 (by omega) ⟨rfl, Only.refl No _⟩)) ?_
    refine WD.p rfl (fun e w hR hh => by obtain ⟨h30, -⟩ := hh; exact SG.n (o_fa 0 TI40 rfl TI9 rfl h30 ⟨rfl, Only.refl No _⟩)) ?_
    refine WD.p rfl (fun e w hR hh => by obtain ⟨h31, -⟩ := hh; rw [← hwd] at hR; exact SG.n (o_ld TI9 rfl h31 (Cells.only htcd hR (fun h => h) 0 _ rfl) ⟨rfl, Only.refl No _⟩)) ?_
    refine WD.p rfl (fun e w hR hh => by obtain ⟨h1, -⟩ := hh; exact SG.n (o_fa 0 TI28 rfl TI26 rfl h1 ⟨rfl, Only.refl No _⟩)) ?_
    refine WD.p rfl (fun e w hR hh => by obtain ⟨h33, -⟩ := hh; rw [← hwd] at hR; exact SG.n (o_ld TI26 rfl h33 (cell_of (hR.blk hC1 (fun h => h)) rfl) ⟨rfl, Only.refl No _⟩)) ?_
    refine WD.p rfl (fun e w hR hh => by obtain ⟨h4, -⟩ := hh; exact SG.n (o_mvh h4 ⟨rfl, Only.refl No _⟩)) ?_
    refine WD.p rfl (fun e w hR hh => by obtain ⟨h35, h34, -⟩ := hh; exact SG.n (o_ixB TI26 TI40 h34 h35 (by omega) ⟨rfl, Only.refl No _⟩)) ?_
    refine WD.p rfl (fun e w hR hh => by obtain ⟨h36, -⟩ := hh; exact SG.n (o_fa 1 TI40 rfl TI3 rfl h36 ⟨rfl, Only.refl No _⟩)) ?_
    refine WD.p rfl (fun e w hR hh => by obtain ⟨h37, -⟩ := hh; rw [← hwd] at hR; exact SG.n (o_ld TI3 rfl h37 (Cells.only htcd hR (fun h => h) 1 _ rfl) ⟨rfl, Only.refl No _⟩)) ?_
    refine WD.p rfl (fun e w hR hh => by obtain ⟨h5, -⟩ := hh; exact SG.n (o_mvh h5 ⟨rfl, Only.refl No _⟩)) ?_
    refine WD.p rfl (fun e w hR hh => by obtain ⟨h5, -⟩ := hh; exact SG.n (o_mvh h5 ⟨rfl, Only.refl No _⟩)) ?_
    refine WD.p rfl (fun e w hR hh => by obtain ⟨h40, -⟩ := hh; exact SG.n (o_len TI38 h40 ⟨rfl, Only.refl No _⟩)) ?_
    refine WD.p rfl (fun e w hR hh => by obtain ⟨h41, -⟩ := hh; exact SG.n (o_subi h41 rfl (by omega) ⟨rfl, Only.refl No _⟩)) ?_
    refine WD.p rfl (fun e w hR hh => by obtain ⟨h42, h39, -⟩ := hh; exact SG.n (o_slv (h := D[k].ty.length) TI38 TI30 h39 Lo.n (Hi.s (h42.trans (by congr 1; omega))) (Nat.zero_le _) (by obtain ⟨_, _, hv, hh⟩ := own_form hown24; cases hv; omega) ⟨sliced0 _ _ _ _, Only.refl No _⟩)) ?_
    refine WD.p rfl (fun e w hR hh => by obtain ⟨h43, h38, h32, -⟩ := hh; exact SG.n (o_bldC (cs := [_, _, _]) TI40 (Sizes.cons TI9 (Sizes.cons TI3 (Sizes.cons TI38 Sizes.nil))) rfl (lcp h32 (lcp h38 (lcp h43 lnp))) rfl rfl ⟨rfl, Only.refl No _⟩)) ?_
    refine WD.q (fun u w => w.ownsRow wd.heap.size 40 3 u 1 (dcell D[k] (.slice (some ⟨g, 0, none⟩) D[k].ty.length cap))) (fun u w w2 hR hh => own_ext hh hR) rfl (fun e w hR hh => by obtain ⟨h44, -⟩ := hh; rw [← hwd] at hR; exact SG.n (o_bs1 TI26 TI40 h44 (by decide) (by decide) rfl ⟨own_mono (own_new1 rfl) hR.size, Only.alloc w _⟩)) ?_
    rintro e w hR ⟨h45, h44, h43, h42, h41, h40, h39, h38, h37, h36, h35, h34, h33, h32, h31, h30, h29, h28, h27, h26, h25, h1, h2, h3, h4, h5, -⟩
    rw [← hwd] at hR
    replace hx := hx.tr hR
    replace hown24 := own_ext hown24 hR
    replace hC1 := hR.blk hC1 (fun h => h)
    replace hC2 := hR.blk hC2 (fun h => h)
    replace hC3 := hR.blk hC3 (fun h => h)
    replace hrow := own_ext hrow hR
    replace htys := htys.ext hR
    refine WL.c rfl (o_apO (BB) TI26 TI40 h26 rfl hrow (Sl.own h45) rfl (by decide) (by simp [dcell, Value.oneCell', st]) (by rw [maxLen_eq]; omega) (by omega) (by rw [hBB]; exact hx.size) ?_)
    intro v46 w46 hrow46 ho46 hb46 _
    have hrl : ∀ b, gv.ownBlock = some b → BB ≤ b := fun b hb => (hrow.lt b hb).1
    replace hC1 := ho46.blk hC1 (fun he => own_off hrow hC1 (by decide) he)
    replace hC2 := ho46.blk hC2 (fun he => own_off hrow hC2 (by decide) he)
    replace hC3 := ho46.blk hC3 (fun he => own_off hrow hC3 (by decide) he)
    have htys2 := htys.other hrow (by decide) ho46
    replace hown24 := own_only hown24 ho46 (fun b hb hF => own_row_off hrow hown24 (by decide) b hb hF)
    replace hx := hx.trans' ho46 (fun _ h => h) (fun b hb he => by have := hrl b he; omega)
    have htys3 := lent_snoc (D := D) htys2 (by rw [lenM, rowM, tyD_at hk1]; exact hown24) (by omega) htl2
    refine WL.c rfl (o_fa 0 TI28 rfl TI26 rfl h3 ?_)
    refine WL.u (o_stB TI26 rfl (show _ = v46 from rfl) (own_one hrow46) hC3 (show 0 < 1 by decide) ?_)
    intro w47 hC3' ho47 hs47
    replace hrow46 := own_only hrow46 ho47 (fun b hb he => by subst he; exact own_off hrow46 hC3 (by decide) hb)
    have hC3q := hC3
    replace hC3 : w47.heap[c3]? = some (.cells #[v46] 28 (0, 0)) := hC3'
    replace hC1 := ho47.blk hC1 hc13
    replace hC2 := ho47.blk hC2 hc23
    replace htys3 := htys3.only ho47 (fun j hj b hb he => by subst he; exact own_off (htys3.row j hj) hC3q (by decide) hb)
    replace hx := hx.trans' ho47 (fun _ h => h) (fun b hb he => by omega)
    refine WL.nil ?_
    refine W.region ?_
    refine WL.c rfl (o_mvh h4 ?_)
    refine WL.c rfl (o_addi rfl rfl (by omega) ?_)
    refine WL.c rfl (o_ash (show _ = Value.int _ _ from rfl) ?_)
    refine WL.nil ?_
    refine ⟨⟨k + 1, v46, fun j => if j = k then (.slice (some ⟨g, 0, none⟩) (D[k].ty.length + 1) cap) else U j, by omega, h1, h2, h3, rfl, hC1, hC2, hC3, ?_, htys3, hx⟩, ?_⟩
    · rw [show (fun j => shr (if j = k then (.slice (some ⟨g, 0, none⟩) (D[k].ty.length + 1) cap) else U j)) = (fun j => if j = k then shr (.slice (some ⟨g, 0, none⟩) (D[k].ty.length + 1) cap) else (fun j => shr (U j)) j) from by funext j; split <;> rfl, drowsK_succ, getD_at hk1]
      exact hrow46
    · show D.length - ((k : Int) + 1).toNat < _
      rw [hm4]; simp [intOf]; omega
  · try simp only [decide_eq_true_eq, decide_eq_false_iff_not, Bool.not_eq_true', Bool.not_eq_false', Bool.and_eq_true, Bool.or_eq_true, Bool.and_eq_false_iff, Bool.or_eq_false_iff] at c10
    have hk1 : k = D.length := by omega
    subst hk1
    refine W.exit ?_
    refine W.seq ?_
    refine W.region ?_
    refine WL.c rfl (o_fa 0 TI28 rfl TI26 rfl h3 ?_)
    refine WL.c rfl (o_ld TI26 rfl rfl (cell_of hC3 rfl) ?_)
    refine WL.c rfl (o_bldC (cs := [(st [109, 97, 114, 107]), (.int .i64 (-78)), (.slice none 0 0)]) TI40 (Sizes.cons TI9 (Sizes.cons TI3 (Sizes.cons TI38 Sizes.nil))) rfl (lcp (show _ = Value.string _ from rfl) (lcp (show _ = Value.int _ _ from rfl) lnp)) rfl rfl ?_)
    refine WL.apO (BB) rfl rfl TI26 TI40 (show _ = Value.agg #[st [109, 97, 114, 107], .int .i64 (-78), .slice none 0 0] from rfl) rfl hrow (by decide) (by decide) rfl (fun a ha => List.all_eq_true.1 (show List.all _ (fun a => a.oneCell') = true from rfl) a ha) rfl (by rw [maxLen_eq]; omega) (by omega) (by rw [hBB]; exact hx.size) ?_
    intro v52 w52 hrow52 ho52 hb52 _
    replace hrow52 : w52.ownsRow BB 40 3 v52 (D.length + 1) (drows D (fun j => shr (U j)) ++ markD) := hrow52
    replace ho52 : Only (fun k => gv.ownBlock = some k) w w52 := ho52
    have hrl : ∀ b, gv.ownBlock = some b → BB ≤ b := fun b hb => (hrow.lt b hb).1
    replace hC1 := ho52.blk hC1 (fun he => own_off hrow hC1 (by decide) he)
    replace hC2 := ho52.blk hC2 (fun he => own_off hrow hC2 (by decide) he)
    replace hC3 := ho52.blk hC3 (fun he => own_off hrow hC3 (by decide) he)
    replace htys := htys.other hrow (by decide) ho52
    replace hx := hx.trans' ho52 (fun _ h => h) (fun b hb he => by have := hrl b he; omega)
    refine WL.c rfl (o_fa 0 TI28 rfl TI26 rfl h3 ?_)
    refine WL.u (o_stB TI26 rfl (show _ = v52 from rfl) (own_one hrow52) hC3 (show 0 < 1 by decide) ?_)
    intro w53 hC3' ho53 hs53
    replace hrow52 := own_only hrow52 ho53 (fun b hb he => by subst he; exact own_off hrow52 hC3 (by decide) hb)
    replace htys := htys.only ho53 (fun j hj b hb he => by subst he; exact own_off (htys.row j hj) hC3 (by decide) hb)
    replace hC3 : w53.heap[c3]? = some (.cells #[v52] 28 (0, 0)) := hC3'
    replace hC1 := ho53.blk hC1 hc13
    replace hC2 := ho53.blk hC2 hc23
    replace hx := hx.trans' ho53 (fun _ h => h) (fun b hb he => by omega)
    obtain ⟨g, cap, rfl, hgb⟩ := own_some hrow52 (by omega)
    refine WL.nil ?_
    refine W.seq ?_
    refine W.region ?_
    refine WL.c rfl (o_fa 0 TI28 rfl TI26 rfl h3 ?_)
    refine WL.c rfl (o_ld TI26 rfl rfl (cell_of hC3 rfl) ?_)
    refine WL.c rfl (o_fa 0 TI28 rfl TI26 rfl h1 ?_)
    refine WL.c rfl (o_ld TI26 rfl rfl (cell_of hC1 rfl) ?_)
    refine WL.c rfl (o_lenR TI26 rfl (hD0.ext hx).row ?_)
    refine WL.c rfl (o_slv (h := D.length) TI26 TI40 rfl Lo.n (Hi.s rfl) (Nat.zero_le _) (by obtain ⟨_, _, hv, hh⟩ := own_form hrow52; cases hv; omega) ?_)
    rw [sliced0]
    refine WL.c rfl (o_fa 0 TI28 rfl TI26 rfl h3 ?_)
    refine WL.u (o_stB TI26 rfl (show _ = Value.slice (some ⟨g, 0, none⟩) D.length cap from rfl) rfl hC3 (show 0 < 1 by decide) ?_)
    intro w60 hC3' ho60 hs60
    replace hrow52 := own_only hrow52 ho60 (fun b hb he => by subst he; exact own_off hrow52 hC3 (by decide) hb)
    replace htys := htys.only ho60 (fun j hj b hb he => by subst he; exact own_off (htys.row j hj) hC3 (by decide) hb)
    replace hC3 : w60.heap[c3]? = some (.cells #[.slice (some ⟨g, 0, none⟩) D.length cap] 28 (0, 0)) := hC3'
    replace hC1 := ho60.blk hC1 hc13
    replace hC2 := ho60.blk hC2 hc23
    replace hx := hx.trans' ho60 (fun _ h => h) (fun b hb he => by omega)
    refine WL.nil ?_
    refine W.seq ?_
    refine W.region ?_
    refine WL.c rfl (o_ldA TI28 rfl h3 (show Cells _ c3 0 [.slice (some ⟨g, 0, none⟩) D.length cap] from Cells.of hC3 0 _ (by simp)) rfl ?_)
    refine WL.u (o_stA TI28 h2 (show _ = Value.agg #[.slice (some ⟨g, 0, none⟩) D.length cap] from rfl) rfl rfl hC2 rfl ?_)
    intro w62 hC2' ho62 hs62
    replace hrow52 := own_only hrow52 ho62 (fun b hb he => by subst he; exact own_off hrow52 hC2 (by decide) hb)
    replace htys := htys.only ho62 (fun j hj b hb he => by subst he; exact own_off (htys.row j hj) hC2 (by decide) hb)
    replace hC2 : w62.heap[c2]? = some (.cells #[.slice (some ⟨g, 0, none⟩) D.length cap] 28 (0, 0)) := hC2'
    replace hx := hx.trans' ho62 (fun _ h => h) (fun b hb he => by omega)
    refine WL.nil ?_
    refine W.ret ?_
    refine retC rfl TI28 rfl h2 ((show Cells _ c2 0 [.slice (some ⟨g, 0, none⟩) D.length cap] from Cells.of hC2 0 _ (by simp))) rfl ?_
    exact ⟨_, U, rfl, ⟨hrow52, htys⟩, hx⟩
end Go.Proofs.Ytcljkkfpcomdcaa
