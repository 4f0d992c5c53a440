/-
  Walks and lemmas. Written by program out of specs of mine.
-/
import Derived.WalkKit
import Derived.WalkSpells
import Derived.WalkLawsBesides
import Derived.Deep.Quiet
import Derived.StillTail
import Derived.StringKeys
import Derived.Laws.StructEq
import Derived.Laws.Externs
import Derived.Laws.Tables
import Derived.Scope
import Derived.Test.YtcljkkfpcomdcaaProg
import Derived.Laws.AppendOwn
import Derived.Maps.AppendAt
import Derived.Recover
import Derived.Lib.Bytealg
import Derived.SizedLaws
import Derived.ChangeArms
import Derived.ChangeSlices
import Derived.Test.YtcljkkfpcomdcaaRows
import Derived.ProofKit
import Derived.OpenShut
import Derived.ShutString
import Derived.ChangeOld
import Derived.Below
import Derived.Test.YtcljkkfpcomdcaaKo4
set_option linter.unusedSimpArgs false
set_option linter.unusedVariables false
set_option maxRecDepth 100000
set_option linter.unusedSimpArgs false
set_option linter.unusedVariables false
set_option maxRecDepth 100000
namespace Go.Proofs.Ytcljkkfpcomdcaa
open Go Go.Vc Go.RowKit Go.Proofs

/-- one element less -/
def shr : Value → Value
  | .slice a n c => .slice a (n - 1) c
  | v => v
theorem shr_blk (v : Value) : (shr v).ownBlock = v.ownBlock := by
  cases v with
  | slice a n c => cases a <;> rfl
  | _ => rfl
theorem own_shr {w : World} {base : Nat} {el : TypeId} {s n : Nat} {v : Value} {xs ys : List Value} (h : w.ownsRow base el s v (n + 1) (xs ++ ys)) (hl : xs.length = n * s) : w.ownsRow base el s (shr v) n xs := by
  obtain ⟨g, cap, rfl, hb⟩ := own_some h (by omega)
  have := own_take h (m := n) (by omega)
  rw [List.take_left' hl] at this
  exact this
def exK : Ex := ⟨-77, 0, [], [], 0, 0, 0⟩
def markD : List Value := [st [109, 97, 114, 107], .int .i64 (-78), .slice none 0 0]
def drowsK (D : List Df) (V : Nat → Value) (k : Nat) : List Value := (List.range k).flatMap fun j => dcell (D.getD j df0) (V j)
theorem drowsK_succ (D : List Df) (V : Nat → Value) {k : Nat} (v : Value) : drowsK D (fun j => if j = k then v else V j) (k + 1) = drowsK D V k ++ dcell (D.getD k df0) v := by
  rw [drowsK, List.range_succ, List.flatMap_append, List.flatMap_singleton, if_pos rfl]
  congr 1
  refine dfm_congr fun j hj => ?_
  have hj := List.mem_range.1 hj
  rw [if_neg (by omega)]
theorem drows_len (D : List Df) (V : Nat → Value) : (drows D V).length = D.length * 3 := by
  rw [drows]
  have : ∀ l : List Nat, (l.flatMap fun j => dcell (D.getD j df0) (V j)).length = l.length * 3 := by
    intro l
    induction l with
    | nil => rfl
    | cons a l ih => rw [List.flatMap_cons, List.length_append, ih, dcell_len, List.length_cons]; omega
  rw [this, List.length_range]
/-- sizes that a machine can hold -/
structure DOk (D : List Df) : Prop where
  len : D.length * 48 ≤ 140737488351232
  ty : ∀ d ∈ D, d.ty.length * 72 ≤ 140737488351232
  nm : ∀ d ∈ D, d.name.length ≤ 9223372036854775807
  ex : ∀ d ∈ D, ∀ x ∈ d.ty, x.name.length ≤ 9223372036854775807 ∧ x.label.length ≤ 9223372036854775807
abbrev lenM (D : List Df) (j : Nat) : Nat := (tyD D j).length + 1
abbrev rowM (D : List Df) (j : Nat) : List Value := exs (tyD D j) ++ exV exK
/-- definitions in rows of our own, a mark behind each -/
structure Lent (w : World) (H : Nat) (D : List Df) (gv : Value) (W : Nat → Value) : Prop where
  row : w.ownsRow H 40 3 gv (D.length + 1) (drows D (fun j => shr (W j)) ++ markD)
  tys : Many w H 30 7 D.length W (lenM D) (rowM D)
theorem Lent.defs {w : World} {H : Nat} {D : List Df} {gv : Value} {W : Nat → Value} (h : Lent w H D gv W) : Defs w H D (shr gv) (fun j => shr (W j)) :=
  ⟨own_shr h.row (drows_len _ _), ⟨fun j hj => own_shr (h.tys.row j hj) (exs_len _), fun i j hi hj hij k hk => by rw [shr_blk] at hk ⊢; exact h.tys.off i j hi hj hij k hk⟩⟩
theorem Lent.only {w w' : World} {H : Nat} {D : List Df} {gv : Value} {W : Nat → Value} {F : Nat → Prop} (h : Lent w H D gv W) (ho : Only F w w') (hn : ∀ k, DF gv W D.length k → ¬ F k) : Lent w' H D gv W :=
  ⟨own_only h.row ho (fun k hk => hn k (.inl hk)), h.tys.only ho (fun j hj k hk => hn k (.inr ⟨j, hj, hk⟩))⟩
theorem Lent.ext {w w' : World} {H : Nat} {D : List Df} {gv : Value} {W : Nat → Value} (h : Lent w H D gv W) (ho : Ext w w') : Lent w' H D gv W := h.only ho (fun _ _ h => h)
theorem Lent.lt {w : World} {H : Nat} {D : List Df} {gv : Value} {W : Nat → Value} (h : Lent w H D gv W) : ∀ k, DF gv W D.length k → H ≤ k ∧ k < w.heap.size := fun k hk => by
  rcases hk with hk | ⟨j, hj, hk⟩
  · exact h.row.lt k hk
  · exact h.tys.lt hj hk
theorem one_exs (L : List Ex) : ∀ a ∈ exs L, a.oneCell' = true := by
  intro a ha
  obtain ⟨x, -, hx⟩ := List.mem_flatMap.1 ha
  have : ∀ a ∈ exV x, a.oneCell' = true := by simp [exV, Value.oneCell', st]
  exact this a hx
theorem lent_snoc {w : World} {H : Nat} {D : List Df} {k m : Nat} {W : Nat → Value} {v : Value} (h : Many w H 30 7 k W (lenM D) (rowM D)) (hr : w.ownsRow m 30 7 v (lenM D k) (rowM D k)) (hm : H ≤ m) (hlt : ∀ j, j < k → ∀ b, (W j).ownBlock = some b → b < m) : Many w H 30 7 (k + 1) (fun j => if j = k then v else W j) (lenM D) (rowM D) := Many.snocG h hr hm hlt rfl rfl

set_option maxHeartbeats 2000000 in
theorem lent_spec (D : List Df) (dv : Value) (V : Nat → Value) (w0 : World) (hD0 : DefR w0 D dv V) (hlim : DOk D) : Ca Try.prog 13 #[.agg #[dv]] w0 (fun r w' => ∃ gv U, r = .agg #[shr gv] ∧ Lent w' w0.heap.size D gv U ∧ Ext w0 w') := by
  obtain ⟨BB, hBB⟩ : ∃ B, B = w0.heap.size := ⟨_, rfl⟩
  rw [← hBB]
  have hlen := hlim.len
  refine Ca.of Try.func13 Try.ntmps13 rfl rfl ?_
  refine W.seq ?_
  refine W.region ?_
  refine WL.c rfl (o_boxB rfl ?_)
  intro w1 hC1 hx1 hs1
  have hx := hx1
  replace hC1 : w1.heap[w0.heap.size]? = some (.cells #[dv] 28 (0, 0)) := hC1
  obtain ⟨c1, hc1⟩ : ∃ c, c = w0.heap.size := ⟨_, rfl⟩
  rw [← hc1] at hC1 ⊢
  refine WL.c rfl (o_alB TI28 ?_)
  intro w2 hC2 hx2 hs2
  replace hx := hx.tr hx2
  replace hC1 := hx2.blk hC1 (fun h => h)
  replace hC2 : w2.heap[w1.heap.size]? = some (.cells #[.slice none 0 0] 28 (0, 0)) := hC2
  obtain ⟨c2, hc2⟩ : ∃ c, c = w1.heap.size := ⟨_, rfl⟩
  rw [← hc2] at hC2 ⊢
  refine WL.nil ?_
  refine W.seq ?_
  refine W.region ?_
  refine WL.c rfl (o_alB TI28 ?_)
  intro w3 hC3 hx3 hs3
  replace hx := hx.tr hx3
  replace hC1 := hx3.blk hC1 (fun h => h)
  replace hC2 := hx3.blk hC2 (fun h => h)
  replace hC3 : w3.heap[w2.heap.size]? = some (.cells #[.slice none 0 0] 28 (0, 0)) := hC3
  obtain ⟨c3, hc3⟩ : ∃ c, c = w2.heap.size := ⟨_, rfl⟩
  rw [← hc3] at hC3 ⊢
  have hB1 : BB ≤ c1 := by omega
  have hB2 : BB ≤ c2 := by omega
  have hB3 : BB ≤ c3 := by omega
  have hc12 : ¬ c1 = c2 := by omega
  have hc13 : ¬ c1 = c3 := by omega
  have hc23 : ¬ c2 = c3 := by omega
  refine WL.nil ?_
  refine W.seq ?_
  refine W.seq ?_
  refine W.region ?_
  refine WL.c rfl (o_ash (show _ = Value.int _ _ from rfl) ?_)
  refine WL.nil ?_
  refine W.block ?_
  refine W.loop (fun e w => ∃ (k : Nat) (gv : Value) (U : Nat → Value), k ≤ D.length ∧ e 1 = .pointer (some ⟨c1, 0, none⟩) ∧ e 2 = .pointer (some ⟨c2, 0, none⟩) ∧ e 3 = .pointer (some ⟨c3, 0, none⟩) ∧ e 4 = .int .i64 (k : Int) ∧ w.heap[c1]? = some (.cells #[dv] 28 (0, 0)) ∧ w.heap[c2]? = some (.cells #[.slice none 0 0] 28 (0, 0)) ∧ w.heap[c3]? = some (.cells #[gv] 28 (0, 0)) ∧ w.ownsRow BB 40 3 gv k (drowsK D (fun j => shr (U j)) k) ∧ Many w BB 30 7 k U (lenM D) (rowM D) ∧ Ext w0 w) (fun e w => D.length - (intOf (e 4)).toNat) ?_ ?_
  · exact ⟨0, .slice none 0 0, fun _ => undef, Nat.zero_le _, rfl, rfl, rfl, rfl, hC1, hC2, hC3, World.ownsRow_nil _ _ _ _, Many.zero, hx⟩
  rintro e w ⟨k, gv, U, hk, h1, h2, h3, h4, hC1, hC2, hC3, hrow, htys, hx⟩
  have hm4 := h4
  have hxs := hx.size
  refine W.seq ?_
  refine W.seq ?_
  refine W.region ?_
  refine WL.c rfl (o_mvh h4 ?_)
  refine WL.c rfl (o_fa 0 TI28 rfl TI26 rfl h1 ?_)
  refine WL.c rfl (o_ld TI26 rfl rfl (cell_of hC1 rfl) ?_)
  refine WL.c rfl (o_lenR TI26 rfl (hD0.ext hx).row ?_)
  refine WL.c rfl (o_lt rfl rfl ?_)
  refine WL.nil ?_
  refine W.cond rfl (fun c10 => ?_) (fun c10 => ?_)
  · try simp only [decide_eq_true_eq, decide_eq_false_iff_not, Bool.not_eq_true', Bool.not_eq_false', Bool.and_eq_true, Bool.or_eq_true, Bool.and_eq_false_iff, Bool.or_eq_false_iff] at c10
    have hk1 : k < D.length := by omega
    obtain ⟨tb, to_, tc, rfl, htc, hty⟩ := (hD0.ext hx).atk hk1
    have htl := hlim.ty _ (List.getElem_mem hk1)
    refine W.skip ?_
    refine W.seq ?_
    refine W.block ?_
    refine W.seq ?_
    refine W.region ?_
    refine WL.c rfl (o_ash (by first | exact (show _ = Value.slice _ _ _ from rfl) | exact rfl) ?_)
    refine WL.nil ?_
    refine W.seq ?_
    refine W.region ?_
    refine WL.c rfl (o_mvh (by first | exact (show _ = Value.slice _ _ _ from rfl) | exact rfl) ?_)
    refine WL.c rfl (o_fa 0 TI28 rfl TI26 rfl h1 ?_)
    refine WL.c rfl (o_ld TI26 rfl rfl (cell_of hC1 rfl) ?_)
    refine WL.c rfl (o_mvh h4 ?_)
    refine WL.c rfl (o_ixB TI26 TI40 rfl rfl (by omega) ?_)
    refine WL.c rfl (o_fa 2 TI40 rfl TI38 rfl rfl ?_)
    refine WL.c rfl (o_ld TI38 rfl rfl (htc 2 _ rfl) ?_)
    refine WL.c rfl (o_apO (w.heap.size) TI38 TI30 rfl rfl (World.ownsRow_nil _ _ _ _) hty rfl (by decide) (one_exs _) (by rw [maxLen_eq]; omega) (by omega) (Nat.le_refl _) ?_)
    intro v20 w20 hown20 ho20 hb20 hk20
    rw [Nat.zero_add, List.nil_append] at hown20
    have hx20 : Ext w w20 := ho20.mono (fun j _ h => by cases h)
    clear ho20 hb20 hk20
    replace hC1 := hx20.blk hC1 (fun h => h)
    replace hC2 := hx20.blk hC2 (fun h => h)
    replace hC3 := hx20.blk hC3 (fun h => h)
    have hrow20 := own_ext hrow hx20
    have htys20 := htys.ext hx20
    replace hx := hx.tr hx20
    have hs20 := hx20.size
    refine WL.c rfl (o_ash (by first | exact (show _ = Value.slice _ _ _ from rfl) | exact rfl) ?_)
    refine WL.nil ?_
    refine W.seq ?_
    refine W.region ?_
    refine WL.c rfl (o_mvh (by first | exact (show _ = Value.slice _ _ _ from rfl) | exact rfl) ?_)
    refine WL.c rfl (o_bldC (cs := [(.int .i64 (-77)), (.int .i64 0), (.string ⟨#[]⟩), (.string ⟨#[]⟩), (.int .i64 0), (.int .i64 0), (.int .i64 0)]) TI30 (Sizes.cons TI3 (Sizes.cons TI3 (Sizes.cons TI9 (Sizes.cons TI9 (Sizes.cons TI3 (Sizes.cons TI3 (Sizes.cons TI3 Sizes.nil))))))) rfl (lcp (show _ = Value.int _ _ from rfl) lnp) rfl rfl ?_)
    refine WL.apO (w.heap.size) rfl rfl TI38 TI30 (show _ = Value.agg (exV exK).toArray from rfl) (show _ = v20 from rfl) hown20 (by decide) (by decide) rfl (fun a ha => List.all_eq_true.1 (show List.all _ (fun a => a.oneCell') = true from rfl) a ha) rfl (by rw [maxLen_eq]; omega) (by omega) hs20 ?_
    intro v24 w24 hown24 ho24 hb24 _
    replace hown24 : w24.ownsRow w.heap.size 30 7 v24 (D[k].ty.length + 1) (exs D[k].ty ++ exV exK) := hown24
    replace ho24 : Only (fun k => v20.ownBlock = some k) w20 w24 := ho24
    have hlt20 : ∀ b, v20.ownBlock = some b → w.heap.size ≤ b := fun b hb => (hown20.lt b hb).1
    have hc1l := (Array.getElem?_eq_some_iff.1 hC1).1
    replace hC1 := ho24.blk hC1 (fun he => own_off hown20 hC1 (by decide) he)
    replace hC2 := ho24.blk hC2 (fun he => own_off hown20 hC2 (by decide) he)
    replace hC3 := ho24.blk hC3 (fun he => own_off hown20 hC3 (by decide) he)
    replace hrow := own_only hrow20 ho24 (fun b hb hF => by have := hlt20 b hF; have := (hrow.lt b hb).2; omega)
    have htl2 : ∀ j, j < k → ∀ b, (U j).ownBlock = some b → b < w.heap.size := fun j hj b hb => (htys.lt hj hb).2
    replace htys := htys20.only ho24 (fun j hj b hb hF => by have := hlt20 b hF; have := htl2 j hj b hb; omega)
    replace hx := hx.trans' ho24 (fun _ h => h) (fun b hb he => by have := hlt20 b he; omega)
    have hs24 := hx.size
    have hs25 := ho24.size
    obtain ⟨g, cap, rfl, hgb⟩ := own_some hown24 (by omega)
    refine WL.c rfl (o_ash (by first | exact (show _ = Value.slice _ _ _ from rfl) | exact rfl) ?_)
    refine WL.nil ?_
    obtain ⟨wd, hwd⟩ : ∃ wd, wd = w24.drew := ⟨_, rfl⟩
    have hxd : Ext w24 wd := hwd ▸ Only.drew w24
    replace hx := hx.tr hxd
    replace hown24 := own_ext hown24 hxd
    replace hC1 := hxd.blk hC1 (fun h => h)
    replace hC2 := hxd.blk hC2 (fun h => h)
    replace hC3 := hxd.blk hC3 (fun h => h)
    replace hrow := own_ext hrow hxd
    replace htys := htys.ext hxd
    obtain ⟨_, _, _, hvd, htcd, -⟩ := (hD0.ext hx).atk hk1
    cases hvd
    refine W.drawT 21 (Ext) [(1, fun v _ => v = _), (2, fun v _ => v = _), (3, fun v _ => v = _), (4, fun v _ => v = _), (5, fun v _ => v = _)] rfl (by kernel_rfl) (Only.refl No) (fun _ _ _ h k => h.trans k) ⟨Mono.eq, Mono.eq, Mono.eq, Mono.eq, Mono.eq, trivial⟩ ⟨h1, h2, h3, h4, rfl, trivial⟩ ?_
    refine WD.p rfl (fun e w hR hh => by obtain ⟨h3, -⟩ := hh; exact SG.n (o_fa 0 TI28 rfl TI26 rfl h3 ⟨rfl, Only.refl No _⟩)) ?_
    refine WD.p rfl (fun e w hR hh => by obtain ⟨h25, -⟩ := hh; rw [← hwd] at hR; exact SG.n (o_ld TI26 rfl h25 (cell_of (hR.blk hC3 (fun h => h)) rfl) ⟨rfl, Only.refl No _⟩)) ?_
    refine WD.p rfl (fun e w hR hh => by obtain ⟨h1, -⟩ := hh; exact SG.n (o_fa 0 TI28 rfl TI26 rfl h1 ⟨rfl, Only.refl No _⟩)) ?_
    refine WD.p rfl (fun e w hR hh => by obtain ⟨h27, -⟩ := hh; rw [← hwd] at hR; exact SG.n (o_ld TI26 rfl h27 (cell_of (hR.blk hC1 (fun h => h)) rfl) ⟨rfl, Only.refl No _⟩)) ?_
    refine WD.p rfl (fun e w hR hh => by obtain ⟨h4, -⟩ := hh; exact SG.n (o_mvh h4 ⟨rfl, Only.refl No _⟩)) ?_
    refine WD.p rfl (fun e w hR hh => by obtain ⟨h29, h28, -⟩ := hh; exact SG.n (o_ixB TI26 TI40 h28 h29 (by omega) ⟨rfl, Only.refl No _⟩)) ?_
    refine WD.p rfl (fun e w hR hh => by obtain ⟨h30, -⟩ := hh; exact SG.n (o_fa 0 TI40 rfl TI9 rfl h30 ⟨rfl, Only.refl No _⟩)) ?_
    refine WD.p rfl (fun e w hR hh => by obtain ⟨h31, -⟩ := hh; rw [← hwd] at hR; exact SG.n (o_ld TI9 rfl h31 (Cells.only htcd hR (fun h => h) 0 _ rfl) ⟨rfl, Only.refl No _⟩)) ?_
    refine WD.p rfl (fun e w hR hh => by obtain ⟨h1, -⟩ := hh; exact SG.n (o_fa 0 TI28 rfl TI26 rfl h1 ⟨rfl, Only.refl No _⟩)) ?_
    refine WD.p rfl (fun e w hR hh => by obtain ⟨h33, -⟩ := hh; rw [← hwd] at hR; exact SG.n (o_ld TI26 rfl h33 (cell_of (hR.blk hC1 (fun h => h)) rfl) ⟨rfl, Only.refl No _⟩)) ?_
    refine WD.p rfl (fun e w hR hh => by obtain ⟨h4, -⟩ := hh; exact SG.n (o_mvh h4 ⟨rfl, Only.refl No _⟩)) ?_
    refine WD.p rfl (fun e w hR hh => by obtain ⟨h35, h34, -⟩ := hh; exact SG.n (o_ixB TI26 TI40 h34 h35 (by omega) ⟨rfl, Only.refl No _⟩)) ?_
    refine WD.p rfl (fun e w hR hh => by obtain ⟨h36, -⟩ := hh; exact SG.n (o_fa 1 TI40 rfl TI3 rfl h36 ⟨rfl, Only.refl No _⟩)) ?_
    refine WD.p rfl (fun e w hR hh => by obtain ⟨h37, -⟩ := hh; rw [← hwd] at hR; exact SG.n (o_ld TI3 rfl h37 (Cells.only htcd hR (fun h => h) 1 _ rfl) ⟨rfl, Only.refl No _⟩)) ?_
    refine WD.p rfl (fun e w hR hh => by obtain ⟨h5, -⟩ := hh; exact SG.n (o_mvh h5 ⟨rfl, Only.refl No _⟩)) ?_
    refine WD.p rfl (fun e w hR hh => by obtain ⟨h5, -⟩ := hh; exact SG.n (o_mvh h5 ⟨rfl, Only.refl No _⟩)) ?_
    refine WD.p rfl (fun e w hR hh => by obtain ⟨h40, -⟩ := hh; exact SG.n (o_len TI38 h40 ⟨rfl, Only.refl No _⟩)) ?_
    refine WD.p rfl (fun e w hR hh => by obtain ⟨h41, -⟩ := hh; exact SG.n (o_subi h41 rfl (by omega) ⟨rfl, Only.refl No _⟩)) ?_
    refine WD.p rfl (fun e w hR hh => by obtain ⟨h42, h39, -⟩ := hh; exact SG.n (o_slv (h := D[k].ty.length) TI38 TI30 h39 Lo.n (Hi.s (h42.trans (by congr 1; omega))) (Nat.zero_le _) (by obtain ⟨_, _, hv, hh⟩ := own_form hown24; cases hv; omega) ⟨sliced0 _ _ _ _, Only.refl No _⟩)) ?_
    refine WD.p rfl (fun e w hR hh => by obtain ⟨h43, h38, h32, -⟩ := hh; exact SG.n (o_bldC (cs := [_, _, _]) TI40 (Sizes.cons TI9 (Sizes.cons TI3 (Sizes.cons TI38 Sizes.nil))) rfl (lcp h32 (lcp h38 (lcp h43 lnp))) rfl rfl ⟨rfl, Only.refl No _⟩)) ?_
    refine WD.q (fun u w => w.ownsRow wd.heap.size 40 3 u 1 (dcell D[k] (.slice (some ⟨g, 0, none⟩) D[k].ty.length cap))) (fun u w w2 hR hh => own_ext hh hR) rfl (fun e w hR hh => by obtain ⟨h44, -⟩ := hh; rw [← hwd] at hR; exact SG.n (o_bs1 TI26 TI40 h44 (by decide) (by decide) rfl ⟨own_mono (own_new1 rfl) hR.size, Only.alloc w _⟩)) ?_
    rintro e w hR ⟨h45, h44, h43, h42, h41, h40, h39, h38, h37, h36, h35, h34, h33, h32, h31, h30, h29, h28, h27, h26, h25, h1, h2, h3, h4, h5, -⟩
    rw [← hwd] at hR
    replace hx := hx.tr hR
    replace hown24 := own_ext hown24 hR
    replace hC1 := hR.blk hC1 (fun h => h)
    replace hC2 := hR.blk hC2 (fun h => h)
    replace hC3 := hR.blk hC3 (fun h => h)
    replace hrow := own_ext hrow hR
    replace htys := htys.ext hR
    refine WL.c rfl (o_apO (BB) TI26 TI40 h26 rfl hrow (Sl.own h45) rfl (by decide) (by simp [dcell, Value.oneCell', st]) (by rw [maxLen_eq]; omega) (by omega) (by rw [hBB]; exact hx.size) ?_)
    intro v46 w46 hrow46 ho46 hb46 _
    have hrl : ∀ b, gv.ownBlock = some b → BB ≤ b := fun b hb => (hrow.lt b hb).1
    replace hC1 := ho46.blk hC1 (fun he => own_off hrow hC1 (by decide) he)
    replace hC2 := ho46.blk hC2 (fun he => own_off hrow hC2 (by decide) he)
    replace hC3 := ho46.blk hC3 (fun he => own_off hrow hC3 (by decide) he)
    have htys2 := htys.other hrow (by decide) ho46
    replace hown24 := own_only hown24 ho46 (fun b hb hF => own_row_off hrow hown24 (by decide) b hb hF)
    replace hx := hx.trans' ho46 (fun _ h => h) (fun b hb he => by have := hrl b he; omega)
    have htys3 := lent_snoc (D := D) htys2 (by rw [lenM, rowM, tyD_at hk1]; exact hown24) (by omega) htl2
    refine WL.c rfl (o_fa 0 TI28 rfl TI26 rfl h3 ?_)
    refine WL.u (o_stB TI26 rfl (show _ = v46 from rfl) (own_one hrow46) hC3 (show 0 < 1 by decide) ?_)
    intro w47 hC3' ho47 hs47
    replace hrow46 := own_only hrow46 ho47 (fun b hb he => by subst he; exact own_off hrow46 hC3 (by decide) hb)
    have hC3q := hC3
    replace hC3 : w47.heap[c3]? = some (.cells #[v46] 28 (0, 0)) := hC3'
    replace hC1 := ho47.blk hC1 hc13
    replace hC2 := ho47.blk hC2 hc23
    replace htys3 := htys3.only ho47 (fun j hj b hb he => by subst he; exact own_off (htys3.row j hj) hC3q (by decide) hb)
    replace hx := hx.trans' ho47 (fun _ h => h) (fun b hb he => by omega)
    refine WL.nil ?_
    refine W.region ?_
    refine WL.c rfl (o_mvh h4 ?_)
    refine WL.c rfl (o_addi rfl rfl (by omega) ?_)
    refine WL.c rfl (o_ash (show _ = Value.int _ _ from rfl) ?_)
    refine WL.nil ?_
    refine ⟨⟨k + 1, v46, fun j => if j = k then (.slice (some ⟨g, 0, none⟩) (D[k].ty.length + 1) cap) else U j, by omega, h1, h2, h3, rfl, hC1, hC2, hC3, ?_, htys3, hx⟩, ?_⟩
    · rw [show (fun j => shr (if j = k then (.slice (some ⟨g, 0, none⟩) (D[k].ty.length + 1) cap) else U j)) = (fun j => if j = k then shr (.slice (some ⟨g, 0, none⟩) (D[k].ty.length + 1) cap) else (fun j => shr (U j)) j) from by funext j; split <;> rfl, drowsK_succ, getD_at hk1]
      exact hrow46
    · show D.length - ((k : Int) + 1).toNat < _
      rw [hm4]; simp [intOf]; omega
  · try simp only [decide_eq_true_eq, decide_eq_false_iff_not, Bool.not_eq_true', Bool.not_eq_false', Bool.and_eq_true, Bool.or_eq_true, Bool.and_eq_false_iff, Bool.or_eq_false_iff] at c10
    have hk1 : k = D.length := by omega
    subst hk1
    refine W.exit ?_
    refine W.seq ?_
    refine W.region ?_
    refine WL.c rfl (o_fa 0 TI28 rfl TI26 rfl h3 ?_)
    refine WL.c rfl (o_ld TI26 rfl rfl (cell_of hC3 rfl) ?_)
    refine WL.c rfl (o_bldC (cs := [(st [109, 97, 114, 107]), (.int .i64 (-78)), (.slice none 0 0)]) TI40 (Sizes.cons TI9 (Sizes.cons TI3 (Sizes.cons TI38 Sizes.nil))) rfl (lcp (show _ = Value.string _ from rfl) (lcp (show _ = Value.int _ _ from rfl) lnp)) rfl rfl ?_)
    refine WL.apO (BB) rfl rfl TI26 TI40 (show _ = Value.agg #[st [109, 97, 114, 107], .int .i64 (-78), .slice none 0 0] from rfl) rfl hrow (by decide) (by decide) rfl (fun a ha => List.all_eq_true.1 (show List.all _ (fun a => a.oneCell') = true from rfl) a ha) rfl (by rw [maxLen_eq]; omega) (by omega) (by rw [hBB]; exact hx.size) ?_
    intro v52 w52 hrow52 ho52 hb52 _
    replace hrow52 : w52.ownsRow BB 40 3 v52 (D.length + 1) (drows D (fun j => shr (U j)) ++ markD) := hrow52
    replace ho52 : Only (fun k => gv.ownBlock = some k) w w52 := ho52
    have hrl : ∀ b, gv.ownBlock = some b → BB ≤ b := fun b hb => (hrow.lt b hb).1
    replace hC1 := ho52.blk hC1 (fun he => own_off hrow hC1 (by decide) he)
    replace hC2 := ho52.blk hC2 (fun he => own_off hrow hC2 (by decide) he)
    replace hC3 := ho52.blk hC3 (fun he => own_off hrow hC3 (by decide) he)
    replace htys := htys.other hrow (by decide) ho52
    replace hx := hx.trans' ho52 (fun _ h => h) (fun b hb he => by have := hrl b he; omega)
    refine WL.c rfl (o_fa 0 TI28 rfl TI26 rfl h3 ?_)
    refine WL.u (o_stB TI26 rfl (show _ = v52 from rfl) (own_one hrow52) hC3 (show 0 < 1 by decide) ?_)
    intro w53 hC3' ho53 hs53
    replace hrow52 := own_only hrow52 ho53 (fun b hb he => by subst he; exact own_off hrow52 hC3 (by decide) hb)
    replace htys := htys.only ho53 (fun j hj b hb he => by subst he; exact own_off (htys.row j hj) hC3 (by decide) hb)
    replace hC3 : w53.heap[c3]? = some (.cells #[v52] 28 (0, 0)) := hC3'
    replace hC1 := ho53.blk hC1 hc13
    replace hC2 := ho53.blk hC2 hc23
    replace hx := hx.trans' ho53 (fun _ h => h) (fun b hb he => by omega)
    obtain ⟨g, cap, rfl, hgb⟩ := own_some hrow52 (by omega)
    refine WL.nil ?_
    refine W.seq ?_
    refine W.region ?_
    refine WL.c rfl (o_fa 0 TI28 rfl TI26 rfl h3 ?_)
    refine WL.c rfl (o_ld TI26 rfl rfl (cell_of hC3 rfl) ?_)
    refine WL.c rfl (o_fa 0 TI28 rfl TI26 rfl h1 ?_)
    refine WL.c rfl (o_ld TI26 rfl rfl (cell_of hC1 rfl) ?_)
    refine WL.c rfl (o_lenR TI26 rfl (hD0.ext hx).row ?_)
    refine WL.c rfl (o_slv (h := D.length) TI26 TI40 rfl Lo.n (Hi.s rfl) (Nat.zero_le _) (by obtain ⟨_, _, hv, hh⟩ := own_form hrow52; cases hv; omega) ?_)
    rw [sliced0]
    refine WL.c rfl (o_fa 0 TI28 rfl TI26 rfl h3 ?_)
    refine WL.u (o_stB TI26 rfl (show _ = Value.slice (some ⟨g, 0, none⟩) D.length cap from rfl) rfl hC3 (show 0 < 1 by decide) ?_)
    intro w60 hC3' ho60 hs60
    replace hrow52 := own_only hrow52 ho60 (fun b hb he => by subst he; exact own_off hrow52 hC3 (by decide) hb)
    replace htys := htys.only ho60 (fun j hj b hb he => by subst he; exact own_off (htys.row j hj) hC3 (by decide) hb)
    replace hC3 : w60.heap[c3]? = some (.cells #[.slice (some ⟨g, 0, none⟩) D.length cap] 28 (0, 0)) := hC3'
    replace hC1 := ho60.blk hC1 hc13
    replace hC2 := ho60.blk hC2 hc23
    replace hx := hx.trans' ho60 (fun _ h => h) (fun b hb he => by omega)
    refine WL.nil ?_
    refine W.seq ?_
    refine W.region ?_
    refine WL.c rfl (o_ldA TI28 rfl h3 (show Cells _ c3 0 [.slice (some ⟨g, 0, none⟩) D.length cap] from Cells.of hC3 0 _ (by simp)) rfl ?_)
    refine WL.u (o_stA TI28 h2 (show _ = Value.agg #[.slice (some ⟨g, 0, none⟩) D.length cap] from rfl) rfl rfl hC2 rfl ?_)
    intro w62 hC2' ho62 hs62
    replace hrow52 := own_only hrow52 ho62 (fun b hb he => by subst he; exact own_off hrow52 hC2 (by decide) hb)
    replace htys := htys.only ho62 (fun j hj b hb he => by subst he; exact own_off (htys.row j hj) hC2 (by decide) hb)
    replace hC2 : w62.heap[c2]? = some (.cells #[.slice (some ⟨g, 0, none⟩) D.length cap] 28 (0, 0)) := hC2'
    replace hx := hx.trans' ho62 (fun _ h => h) (fun b hb he => by omega)
    refine WL.nil ?_
    refine W.ret ?_
    refine retC rfl TI28 rfl h2 ((show Cells _ c2 0 [.slice (some ⟨g, 0, none⟩) D.length cap] from Cells.of hC2 0 _ (by simp))) rfl ?_
    exact ⟨_, U, rfl, ⟨hrow52, htys⟩, hx⟩
end Go.Proofs.Ytcljkkfpcomdcaa

set_option linter.unusedSimpArgs false
set_option linter.unusedVariables false
namespace Go.Vc
open Go Go.RowKit Go.ChangeShapes Go.WideShapes

/-- its weights are within reach -/
def Small {H : Type} (P : Program) (t : TypeId) (d : DataW H) : Prop := ∀ n ∈ d.weights P t, n ≤ reachBytes
theorem Small.top {H : Type} {P : Program} {ts : List TypeId} {ds : List (DataW H)} {j : Nat} {t : TypeId} {d : DataW H} (h : (DataW.weightsEach P ts ds).all (· ≤ reachBytes) = true) (ht : ts[j]? = some t) (hd : ds[j]? = some d) : Small P t d := fun n hn => by
  have := List.all_eq_true.1 h _ (DataW.weights_mem_each ht hd n hn)
  simpa using this
theorem Small.size {H : Type} {P : Program} {t e : TypeId} {elems spare : List (DataW H)} (h : Small P t (.slice elems spare)) (hu : P.underlying t = some (.slice e)) : (elems.length + spare.length) * P.bytesOf e ≤ reachBytes :=
  h _ (by simp only [DataW.weights, hu]; exact List.mem_cons_self ..)
theorem Small.part {H : Type} {P : Program} {t u : TypeId} {fs : Array Field} {parts : List (DataW H)} {i : Nat} {d : DataW H} (h : Small P t (.agg parts)) (hu : P.underlying t = some (.struct fs)) (hf : (fs.toList.map (·.type))[i]? = some u) (hd : parts[i]? = some d) : Small P u d := fun n hn =>
  h n (by simp only [DataW.weights, hu]; exact DataW.weights_mem_each hf hd n hn)
section
variable {H : Type} {enc : TypeId × Value → H} {P : Program} {W : World} {held : Bool}
end
end Go.Vc

set_option linter.unusedSimpArgs false
set_option linter.unusedVariables false
set_option maxRecDepth 100000
namespace Go.Proofs.Ytcljkkfpcomdcaa
open Go Go.Vc Go.RowKit Go.Proofs

def ExOk (x : Ex) : Prop := x.name.length ≤ 9223372036854775807 ∧ x.label.length ≤ 9223372036854775807
section
variable {H : Type} {enc : TypeId × Value → H} {W : World} {held : Bool}
end
def setE (D : List Df) (d n : Nat) (x : Ex) : List Df := D.set d { D.getD d df0 with ty := (tyD D d).set n x }
theorem exs_set7 {L : List Ex} {i : Nat} {x : Ex} (hi : i < L.length) : (exs L).take (i * 7) ++ exV x ++ (exs L).drop (i * 7 + 7) = exs (L.set i x) := by
  induction L generalizing i with
  | nil => simp at hi
  | cons a l ih =>
    cases i with
    | zero =>
      show [] ++ exV x ++ List.drop 7 (exV a ++ exs l) = exV x ++ exs l
      rw [List.drop_left' (show (exV a).length = 7 from rfl), List.nil_append]
    | succ i =>
      have h7 : (exV a).length = 7 := rfl
      rw [show exs (a :: l) = exV a ++ exs l from rfl, List.set_cons_succ, show exs (a :: l.set i x) = exV a ++ exs (l.set i x) from rfl, ← ih (by simpa using hi), List.take_append, List.drop_append, List.take_of_length_le (by rw [h7]; omega), List.drop_eq_nil_of_le (by rw [h7]; omega), h7,
        show (i + 1) * 7 - 7 = i * 7 by omega, show (i + 1) * 7 + 7 - 7 = i * 7 + 7 by omega]
      simp
theorem setE_len (D : List Df) (d n : Nat) (x : Ex) : (setE D d n x).length = D.length := by rw [setE, List.length_set]
theorem setE_at {D : List Df} {d n : Nat} {x : Ex} (j : Nat) : (setE D d n x).getD j df0 = if j = d ∧ d < D.length then { D.getD d df0 with ty := (tyD D d).set n x } else D.getD j df0 := by
  rw [setE, List.getD_eq_getElem?_getD, List.getElem?_set]
  by_cases h : d = j
  · subst h
    by_cases h2 : d < D.length
    · simp [h2]
    · simp [h2, List.getD_eq_getElem?_getD]
  · rw [if_neg h, if_neg (fun hh => h hh.1.symm), List.getD_eq_getElem?_getD]
theorem Defs.setE {w w' : World} {H : Nat} {D : List Df} {lv : Value} {V : Nat → Value} (h : Defs w H D lv V) {d n : Nat} {x : Ex} (hd : d < D.length) (ho : Only (fun k => (V d).ownBlock = some k) w w')
    (hr : w'.ownsRow H 30 7 (V d) (tyD D d).length (exs ((tyD D d).set n x))) : Defs w' H (setE D d n x) lv V := by
  have hrows : drows (Go.Proofs.Ytcljkkfpcomdcaa.setE D d n x) V = drows D V := by
    rw [drows, drows, setE_len]
    refine dfm_congr fun j hj => ?_
    rw [setE_at]
    split
    · rename_i hh; rw [hh.1]; rfl
    · rfl
  refine ⟨by rw [hrows, setE_len]; exact own_only h.row ho (fun k hk hF => own_row_off h.row (h.tys.row d hd) (by decide) k hF hk), ?_⟩
  rw [setE_len]
  refine (h.tys.set hd ho hr).congr (fun _ _ => rfl) (fun j hj => ?_) (fun j hj => ?_)
  · rw [tyD, setE_at]
    by_cases e : j = d
    · rw [if_pos ⟨e, hd⟩, if_pos e, List.length_set]
    · rw [if_neg (fun hh => e hh.1), if_neg e]; rfl
  · rw [tyD, setE_at]
    by_cases e : j = d
    · rw [if_pos ⟨e, hd⟩, if_pos e]
    · rw [if_neg (fun hh => e hh.1), if_neg e]; rfl
theorem DOk.setE {D : List Df} {d n : Nat} {x : Ex} (h : DOk D) (hx : ExOk x) : DOk (setE D d n x) := by
  have hm : ∀ e ∈ Go.Proofs.Ytcljkkfpcomdcaa.setE D d n x, e ∈ D ∨ (d < D.length ∧ e = { D.getD d df0 with ty := (tyD D d).set n x }) := by
    intro e he
    by_cases hd : d < D.length
    · rcases List.mem_or_eq_of_mem_set he with h1 | h1
      · exact .inl h1
      · exact .inr ⟨hd, h1⟩
    · rw [Go.Proofs.Ytcljkkfpcomdcaa.setE, List.set_eq_of_length_le (by omega)] at he
      exact .inl he
  have hmem : d < D.length → D.getD d df0 ∈ D := fun hd => by rw [getD_at hd]; exact List.getElem_mem hd
  refine ⟨by rw [setE_len]; exact h.len, fun e he => ?_, fun e he => ?_, fun e he y hy => ?_⟩
  · rcases hm e he with h1 | ⟨hd, rfl⟩
    · exact h.ty e h1
    · show ((tyD D d).set n x).length * 72 ≤ _
      rw [List.length_set]; exact h.ty _ (hmem hd)
  · rcases hm e he with h1 | ⟨hd, rfl⟩
    · exact h.nm e h1
    · exact h.nm (D.getD d df0) (hmem hd)
  · rcases hm e he with h1 | ⟨hd, rfl⟩
    · exact h.ex e h1 y hy
    · rcases List.mem_or_eq_of_mem_set hy with h2 | rfl
      · exact h.ex (D.getD d df0) (hmem hd) y h2
      · exact hx

end Go.Proofs.Ytcljkkfpcomdcaa

set_option linter.unusedSimpArgs false
set_option linter.unusedVariables false
set_option maxRecDepth 100000
namespace Go.Proofs.Ytcljkkfpcomdcaa
open Go Go.Vc Go.RowKit Go.Proofs

/-- definitions whose places rise -/
def RiD (T : List Tk) : Int → List Df → Prop
  | _, [] => True
  | lo, d :: ds => lo ≤ d.at_ ∧ 0 ≤ d.at_ ∧ d.at_ < T.length ∧ (tkA T d.at_.toNat).kind = 1 ∧ (tkA T d.at_.toNat).text = d.name ∧ (∃ hi : Int, hi ≤ T.length ∧ Rise (d.at_ + 1) d.ty hi ∧ RiD T hi ds) ∧ ∀ y ∈ d.ty, NdOk T y
theorem RiD.lo {T : List Tk} {a b : Int} {D : List Df} (h : RiD T b D) (hab : a ≤ b) : RiD T a D := by
  cases D with
  | nil => trivial
  | cons d ds => exact ⟨Int.le_trans hab h.1, h.2⟩
/-- lengths -/
theorem Rise.len {L : List Ex} : ∀ {a b : Int}, Rise a L b → (L.length : Int) ≤ b - a := by
  induction L with
  | nil => intro a b h; have : a ≤ b := h; simp; omega
  | cons y l ih => intro a b h; have h1 := ih h.2; have h2 := h.1; rw [List.length_cons]; omega
theorem px_lim {T : List Tk} {B : Nat} (hT : ∀ i, (tkA T i).text.length ≤ B) {r : Option (Bool × Nat)} {deep i : Nat} {x : Ex} {N : List Ex} {n j : Nat} (h : PX T r deep i x N n j) : x.name.length ≤ B → x.label.length ≤ B → ∀ y ∈ N, y.name.length ≤ B ∧ y.label.length ≤ B := by
  have ha : ∀ {i x}, (atE i x).name = x.name ∧ (atE i x).label = x.label := fun {i x} => by unfold atE; split <;> exact ⟨rfl, rfl⟩
  have hh : ∀ {u i}, (hdE T u i).name.length ≤ B ∧ (hdE T u i).label.length ≤ B := fun {u i} => by
    cases u
    · exact ⟨Nat.zero_le _, hT i⟩
    · exact ⟨Nat.zero_le _, Nat.zero_le _⟩
  induction h with
  | leaf => intro h1 h2 y hy; rw [List.mem_singleton] at hy; subst hy; exact ⟨by show (atE _ _).name.length ≤ B; rw [ha.1]; exact h1, by show (atE _ _).label.length ≤ B; rw [ha.2]; exact h2⟩
  | nm => intro h1 h2 y hy; rw [List.mem_singleton] at hy; subst hy; exact ⟨hT _, by show (atE _ _).label.length ≤ B; rw [ha.2]; exact h2⟩
  | vec hb hd hl hv h1 hN h2 h3 h4 ih =>
    intro g1 g2 y hy
    rcases List.mem_cons.1 hy with rfl | hy
    · exact ⟨by show (atE _ _).name.length ≤ B; rw [ha.1]; exact g1, by show (atE _ _).label.length ≤ B; rw [ha.2]; exact g2⟩
    · exact ih (Nat.zero_le _) (Nat.zero_le _) y hy
  | opt hb hd hl ho h1 hN h2 ih =>
    intro g1 g2 y hy
    rcases List.mem_cons.1 hy with rfl | hy
    · exact ⟨by show (atE _ _).name.length ≤ B; rw [ha.1]; exact g1, by show (atE _ _).label.length ≤ B; rw [ha.2]; exact g2⟩
    · exact ih (Nat.zero_le _) (Nat.zero_le _) y hy
  | br u hb hd hl hw h1 hM ih =>
    intro g1 g2 y hy
    rcases List.mem_cons.1 hy with rfl | hy
    · exact ⟨by show (atE _ _).name.length ≤ B; rw [ha.1]; exact g1, by show (atE _ _).label.length ≤ B; rw [ha.2]; exact g2⟩
    · exact ih (Nat.zero_le _) (Nat.zero_le _) y hy
  | last hk hd hc hN hm hr ih => intro _ _; exact ih hh.1 hh.2
  | more hk hd hc hN hm hR ih1 ih2 =>
    intro _ _ y hy
    rcases List.mem_append.1 hy with hy | hy
    · exact ih1 hh.1 hh.2 y hy
    · exact ih2 (Nat.zero_le _) (Nat.zero_le _) y hy
theorem pd_lim {T : List Tk} {B : Nat} (hT : ∀ i, (tkA T i).text.length ≤ B) {i k : Nat} {D : List Df} (h : PD T i k D) : ∀ d ∈ D, d.name.length ≤ B ∧ d.ty.length ≤ T.length ∧ ∀ y ∈ d.ty, y.name.length ≤ B ∧ y.label.length ≤ B := by
  induction h with
  | nil => intro d hd; cases hd
  | @cons i k j N D hk h0 h1 h2 hN h3 hD ih =>
    intro d hd
    rcases List.mem_cons.1 hd with rfl | hd
    · obtain ⟨q1, q2, q3⟩ := px_rise hN
      obtain ⟨r1, r2⟩ := q3 (.inl ⟨by decide, rfl⟩)
      rw [if_pos (by decide)] at r1
      have := r1.len
      exact ⟨hT _, by show N.length ≤ _; omega, px_lim hT hN (Nat.zero_le _) (Nat.zero_le _)⟩
    · exact ih d hd
/-- what Parse answers is of a size that a machine can hold -/
theorem parse_ok (xs : List UInt8) : DOk (parseA xs).1 := by
  rcases parse_cases xs with ⟨-, h⟩ | ⟨-, D, hp, h⟩
  · rw [h]
    exact ⟨by decide, fun d hd => (by cases hd), fun d hd => (by cases hd), fun d hd => (by cases hd)⟩
  · have hc := cutA_len xs
    have hT : ∀ i, (tkA (cutA xs).1 i).text.length ≤ 65536 := fun i => by
      by_cases hi : i < (cutA xs).1.length
      · rw [tkA_lt hi]; exact hc.2 _ (List.getElem_mem hi)
      · rw [tkA_ge (by omega)]; exact Nat.zero_le _
    have hl := pd_lim hT hp
    have hn := (pd_chk (cut_small xs) hp).2
    rw [h]
    refine ⟨by rw [List.length_map]; omega, ?_, ?_, ?_⟩
    · intro d hd
      obtain ⟨d0, h0, rfl⟩ := List.mem_map.1 hd
      have := (hl d0 h0).2.1
      show (d0.ty.map _).length * 72 ≤ _
      rw [List.length_map]; omega
    · intro d hd
      obtain ⟨d0, h0, rfl⟩ := List.mem_map.1 hd
      have := (hl d0 h0).1
      show d0.name.length ≤ _
      omega
    · intro d hd x hx
      obtain ⟨d0, h0, rfl⟩ := List.mem_map.1 hd
      obtain ⟨x0, hx0, rfl⟩ := List.mem_map.1 (show x ∈ d0.ty.map _ from hx)
      have := (hl d0 h0).2.2 x0 hx0
      rw [name_pl, label_pl]
      omega
end Go.Proofs.Ytcljkkfpcomdcaa

set_option linter.unusedSimpArgs false
set_option linter.unusedVariables false
set_option maxRecDepth 100000
namespace Go.Proofs.Ytcljkkfpcomdcaa
open Go Go.Vc Go.RowKit Go.Proofs
/-- the same, further behind -/
def shiftT (k : Nat) (t : Tk) : Tk := ⟨t.kind, t.text, t.n, k + t.at_, k + t.fin⟩
theorem runL_shift (p : UInt8 → Bool) (xs : List UInt8) (k j : Nat) : runL p xs (k + j) = k + runL p (xs.drop k) j := by
  unfold runL
  rw [List.drop_drop]; omega
theorem sub_shift (xs : List UInt8) (k l h : Nat) : sub xs (k + l) (k + h) = sub (xs.drop k) l h := by
  unfold sub
  rw [← List.drop_drop, List.drop_take, Nat.add_sub_cancel_left]
theorem oneL_shift (xs : List UInt8) (k j : Nat) (h : k + j < xs.length) (h' : j < (xs.drop k).length) : (oneL xs (k + j) h).1 = (oneL (xs.drop k) j h').1 ∧ ((oneL (xs.drop k) j h').1 = 0 → (oneL xs (k + j) h).2 = shiftT k (oneL (xs.drop k) j h').2) := by
  have he : (xs.drop k)[j] = xs[k + j] := by simp
  unfold oneL
  rw [he]
  by_cases h1 : letB xs[k + j] = true
  · rw [if_pos h1, if_pos h1, runL_shift, sub_shift]
    by_cases h2 : 32 < k + runL goeB (xs.drop k) j - (k + j)
    · rw [if_pos h2, if_pos (by omega)]; exact ⟨rfl, fun h => by simp at h⟩
    · rw [if_neg h2, if_neg (by omega)]; exact ⟨rfl, fun _ => rfl⟩
  · rw [if_neg h1, if_neg h1]
    by_cases h2 : digB xs[k + j] = true
    · rw [if_pos h2, if_pos h2, runL_shift, sub_shift]; exact ⟨rfl, fun _ => rfl⟩
    · rw [if_neg h2, if_neg h2]
      by_cases h3 : markB xs[k + j] = true
      · rw [if_pos h3, if_pos h3, Nat.add_assoc, sub_shift]; exact ⟨rfl, fun _ => rfl⟩
      · rw [if_neg h3, if_neg h3]; exact ⟨rfl, fun h => by simp at h⟩


def Pr.sh {α β : Type} (m : Nat) (g : α → β) : Pr α → Pr β
  | .ok a i => .ok (g a) (m + i)
  | .bad e i => .bad e (m + i)
theorem bind_sh {α α' β β' : Type} {m : Nat} {g : α → α'} {h : β → β'} {r : Pr α} {F : α → Nat → Pr β} {F' : α' → Nat → Pr β'} (hF : ∀ a i, r = .ok a i → F' (g a) (m + i) = (F a i).sh m h) : (r.sh m g).bind F' = (r.bind F).sh m h := by
  cases r with
  | ok a i => exact hF a i rfl
  | bad e i => rfl
/-- tokens that differ in places alone, from the m-th on -/
structure Like (m : Nat) (T T2 : List Tk) : Prop where
  len : T.length = m + T2.length
  tok : ∀ i, (tkA T (m + i)).kind = (tkA T2 i).kind ∧ (tkA T (m + i)).text = (tkA T2 i).text ∧ (tkA T (m + i)).n = (tkA T2 i).n
def shE (m : Nat) (x : Ex) : Ex := if x.at_ < 0 then x else { x with at_ := x.at_ + m }
theorem Like.eqT {m : Nat} {T T2 : List Tk} (h : Like m T T2) (i k : Nat) (s : List UInt8) : isT (tkA T (m + i)) k s = isT (tkA T2 i) k s := by
  unfold isT; rw [(h.tok i).1, (h.tok i).2.1]
theorem Like.eqN {m : Nat} {T T2 : List Tk} (h : Like m T T2) (i : Nat) : nmT (tkA T (m + i)) = nmT (tkA T2 i) := by
  unfold nmT; rw [(h.tok i).1, (h.tok i).2.1]
theorem Like.bgn {m : Nat} {T T2 : List Tk} (h : Like m T T2) (i : Nat) : bgnT (tkA T (m + i)) = bgnT (tkA T2 i) := by
  unfold bgnT; rw [(h.tok i).1, (h.tok i).2.1]
theorem Like.want {m : Nat} {T T2 : List Tk} (h : Like m T T2) (i k : Nat) (s : List UInt8) : wantT T (m + i) k s = (wantT T2 i k s).sh m id := by
  unfold wantT; rw [h.eqT]; split <;> rfl
theorem Like.num {m : Nat} {T T2 : List Tk} (h : Like m T T2) (i : Nat) : numT T (m + i) = (numT T2 i).sh m id := by
  unfold numT; rw [(h.tok i).1, (h.tok i).2.2]; split <;> rfl
theorem Like.name {m : Nat} {T T2 : List Tk} (h : Like m T T2) (i : Nat) : nameT T (m + i) = (nameT T2 i).sh m id := by
  unfold nameT; rw [h.eqN, (h.tok i).2.1]; split <;> rfl
theorem shE_0 {m i : Nat} {x : Ex} (h : x.at_ = (i : Int)) : shE m x = { x with at_ := ((m + i : Nat) : Int) } := by
  obtain ⟨k, n, nm, l, t, kd, a⟩ := x
  have h : a = (i : Int) := h
  have h2 : ¬ a < 0 := by omega
  simp only [shE, h2, if_false, Ex.mk.injEq, true_and]; omega
theorem shE_exM {m : Nat} : shE m exM = exM := rfl
theorem shE_atE {m i : Nat} {x : Ex} : atE (m + i) (shE m x) = shE m (atE i x) := by
  obtain ⟨k, n, nm, l, t, kd, a⟩ := x
  by_cases h : a < 0
  · have h2 : ¬ (i : Int) < 0 := by omega
    simp only [shE, atE, h, h2, if_true, if_false, Ex.mk.injEq, true_and]; omega
  · have h2 : ¬ a + (m : Int) < 0 := by omega
    simp only [shE, atE, h, h2, if_true, if_false]
theorem shE_lf {m : Nat} {x : Ex} {a b : Int} : (shE m x).lf a b = shE m (x.lf a b) := by unfold shE Ex.lf; split <;> rfl
theorem shE_vec {m : Nat} {x : Ex} {b : Bool} {n : Int} : (shE m x).vec b n = shE m (x.vec b n) := by
  obtain ⟨kd, n', nm, l, t, kk, a⟩ := x
  by_cases h : a < 0 <;> simp [shE, Ex.vec, h]
theorem shE_opt {m : Nat} {x : Ex} : (shE m x).opt = shE m x.opt := by unfold shE Ex.opt; split <;> rfl
theorem shE_br {m : Nat} {x : Ex} {u : Bool} {n : Int} : (shE m x).br u n = shE m (x.br u n) := by
  obtain ⟨kd, n', nm, l, t, kk, a⟩ := x
  by_cases h : a < 0 <;> simp [shE, Ex.br, h]
theorem shE_nm {m : Nat} {x : Ex} {s : List UInt8} : (shE m x).nm s = shE m (x.nm s) := by unfold shE Ex.nm; split <;> rfl
theorem Like.head {m : Nat} {T T2 : List Tk} (h : Like m T T2) (u full : Bool) (i : Nat) : headT T u full (m + i) { ex0 with at_ := ((m + i : Nat) : Int) } = (headT T2 u full i { ex0 with at_ := (i : Int) }).sh m (shE m) := by
  cases u
  · rw [headT_s, headT_s, h.eqN]
    split
    · rfl
    · rw [h.name]
      refine bind_sh fun a j hh => ?_
      show Pr.ok _ _ = Pr.ok _ _
      rw [shE_0 (i := i) rfl]; rfl
  · rw [headT_u, headT_u, (h.tok i).1]
    split
    · rfl
    · rw [h.num]
      refine bind_sh fun a j hh => ?_
      show Pr.ok _ _ = Pr.ok _ _
      rw [shE_0 (i := i) rfl]; rfl
theorem Like.rows {m : Nat} {T T2 : List Tk} (h : Like m T T2) {u : Bool} {i0 : Nat} {E E2 : Nat → Ex → Pr (List Ex)} (hE : ∀ i x, i0 ≤ i → i ≤ T2.length → E (m + i) (shE m x) = (E2 i x).sh m (List.map (shE m))) (hE2 : ∀ i x N j, E2 i x = .ok N j → i < j ∧ j ≤ T2.length) :
    ∀ (g g2 i k : Nat), i0 ≤ i → i ≤ T2.length → T2.length + 2 ≤ g + i → T2.length + 2 ≤ g2 + i → rowsT E T u g (m + i) k = (rowsT E2 T2 u g2 i k).sh m (fun r => (r.1.map (shE m), r.2))
  | 0, g2, i, k, h0, hi, hg, hg2 => by omega
  | g + 1, 0, i, k, h0, hi, hg, hg2 => by omega
  | g + 1, g2 + 1, i, k, h0, hi, hg, hg2 => by
    rw [rowsT_s, rowsT_s, h.head]
    refine bind_sh fun y i1 h1 => ?_
    obtain ⟨rfl, hi1⟩ := headT_le h1
    rw [h.want]
    refine bind_sh fun _ i2 h2 => ?_
    obtain ⟨rfl, hi2⟩ := wantT_le (by decide) h2
    rw [hE _ _ (by omega) (by omega)]
    refine bind_sh fun N j h3 => ?_
    obtain ⟨b1, b2⟩ := hE2 _ _ _ _ h3
    rw [h.eqT]
    split
    · rename_i hm
      have hm2 := isT_lt (by decide) hm
      rw [show m + j + 1 = m + (j + 1) by omega, Like.rows h hE hE2 g g2 (j + 1) (k + 1) (by omega) (by omega) (by omega) (by omega)]
      refine bind_sh fun r j2 h4 => ?_
      show Pr.ok (_, _) _ = Pr.ok (List.map _ (_ ++ _), _) _
      rw [List.map_append]
    · rw [h.want]
      exact bind_sh fun _ j2 h4 => rfl
theorem Like.expr {m : Nat} {T T2 : List Tk} (h : Like m T T2) : ∀ (f f2 i : Nat) (x : Ex) (deep : Nat), i ≤ T2.length → T2.length + 2 ≤ f + i → T2.length + 2 ≤ f2 + i → exprT T f (m + i) (shE m x) deep = (exprT T2 f2 i x deep).sh m (List.map (shE m))
  | 0, f2, i, x, deep, hi, hf, hf2 => by omega
  | f + 1, 0, i, x, deep, hi, hf, hf2 => by omega
  | f + 1, f2 + 1, i, x, deep, hi, hf, hf2 => by
    rw [exprT_s, exprT_s, h.bgn, (h.tok i).2.1]
    split
    · rfl
    · rename_i hb
      have hil : i < T2.length := tkA_kind (by decide) (bgn_kind (by simpa using hb))
      split
      · rfl
      · split
        · show Pr.ok _ _ = Pr.ok _ _
          rw [shE_atE, shE_lf]; rfl
        · split
          · rw [show m + i + 1 = m + (i + 1) by omega, h.want]
            refine bind_sh fun _ i1 h1 => ?_
            obtain ⟨rfl, hi1⟩ := wantT_le (by decide) h1
            rw [← shE_exM (m := m), Like.expr h f f2 _ _ _ (by omega) (by omega) (by omega)]
            refine bind_sh fun N i2 h2 => ?_
            obtain ⟨b1, b2⟩ := expr_lt h2
            rw [h.want]
            refine bind_sh fun _ i3 h3 => ?_
            rw [h.num]
            refine bind_sh fun n i4 h4 => ?_
            rw [h.want]
            refine bind_sh fun _ i5 h5 => ?_
            show Pr.ok _ _ = Pr.ok _ _
            rw [shE_atE, shE_vec]; rfl
          · split
            · rw [show m + i + 1 = m + (i + 1) by omega, h.want]
              refine bind_sh fun _ i1 h1 => ?_
              obtain ⟨rfl, hi1⟩ := wantT_le (by decide) h1
              rw [← shE_exM (m := m), Like.expr h f f2 _ _ _ (by omega) (by omega) (by omega)]
              refine bind_sh fun N i2 h2 => ?_
              rw [h.want]
              refine bind_sh fun _ i3 h3 => ?_
              show Pr.ok _ _ = Pr.ok _ _
              rw [shE_atE, shE_opt]; rfl
            · have hrow : ∀ (u : Bool), (((wantT T (m + i + 1) 3 [123]).bind fun _ j => rowsT (fun i x => exprT T f i x (deep + 1)) T u f j 0).bind fun r j => (.ok ((atE (m + i) (shE m x)).br u (r.2 : Nat) :: r.1) j : Pr (List Ex))) =
                  (((wantT T2 (i + 1) 3 [123]).bind fun _ j => rowsT (fun i x => exprT T2 f2 i x (deep + 1)) T2 u f2 j 0).bind fun r j => (.ok ((atE i x).br u (r.2 : Nat) :: r.1) j : Pr (List Ex))).sh m (List.map (shE m)) := by
                intro u
                rw [show m + i + 1 = m + (i + 1) by omega, h.want]
                have := bind_sh (m := m) (g := id) (h := fun r : List Ex × Nat => (r.1.map (shE m), r.2)) (r := wantT T2 (i + 1) 3 [123]) (F := fun _ j => rowsT (fun i x => exprT T2 f2 i x (deep + 1)) T2 u f2 j 0) (F' := fun _ j => rowsT (fun i x => exprT T f i x (deep + 1)) T u f j 0) (fun _ i1 h1 => by
                  obtain ⟨rfl, hi1⟩ := wantT_le (by decide) h1
                  exact Like.rows h (i0 := i + 1 + 1) (fun i x h0 hi => Like.expr h f f2 i x _ hi (by omega) (by omega)) (fun i x N j hh => expr_lt hh) f f2 _ _ (Nat.le_refl _) (by omega) (by omega) (by omega))
                rw [this]
                refine bind_sh fun r j h2 => ?_
                show Pr.ok _ _ = Pr.ok _ _
                rw [shE_atE, shE_br]; rfl
              split
              · exact hrow true
              · split
                · exact hrow false
                · show Pr.ok _ _ = Pr.ok _ _
                  rw [shE_atE, shE_nm]; rfl
def shD (m : Nat) (d : Df) : Df := ⟨d.name, d.at_ + m, d.ty.map (shE m)⟩
theorem Like.defs {m : Nat} {T T2 : List Tk} (h : Like m T T2) : ∀ (g g2 i k k2 : Nat), i ≤ T2.length → T2.length + 2 ≤ g + i → T2.length + 2 ≤ g2 + i → k2 ≤ k → k ≤ 256 → (∃ j, defsT T g (m + i) k = .bad 5 j ∧ ∀ D e, defsT T2 g2 i k2 = .ok D e → 256 < k + D.length) ∨ defsT T g (m + i) k = (defsT T2 g2 i k2).sh m (List.map (shD m))
  | 0, g2, i, k, k2, hi, hf, hf2, hk, hkm => by omega
  | g + 1, 0, i, k, k2, hi, hf, hf2, hk, hkm => by omega
  | g + 1, g2 + 1, i, k, k2, hi, hf, hf2, hk, hkm => by
    have hlen := h.len
    rw [defsT_s, defsT_s]
    by_cases hi2 : T2.length ≤ i
    · rw [if_pos (by omega), if_pos hi2]; exact .inr rfl
    · rw [if_neg (by omega), if_neg hi2, h.eqT]
      by_cases hnm : k = 256 ∧ isT (tkA T2 i) 1 [116, 121, 112, 101] = true
      · rw [if_pos hnm]
        refine .inl ⟨_, rfl, fun D e hD => ?_⟩
        split at hD
        · cases hD
        · obtain ⟨_, i1, h1, hD⟩ := bind_ok hD
          obtain ⟨_, i1, h1, hD⟩ := bind_ok hD
          obtain ⟨_, i1, h1, hD⟩ := bind_ok hD
          obtain ⟨_, i1, h1, hD⟩ := bind_ok hD
          obtain ⟨_, i1, h1, hD⟩ := bind_ok hD
          obtain ⟨_, i1, h1, hD⟩ := bind_ok hD
          cases hD
          rw [List.length_cons]; omega
      · rw [if_neg hnm, if_neg (fun hh => hnm ⟨by omega, hh.2⟩), h.want]
        rcases hw : wantT T2 i 1 [116, 121, 112, 101] with ⟨_, i1⟩ | ⟨e, j⟩
        · obtain ⟨rfl, hi1⟩ := wantT_le (by decide) hw
          simp only [Pr.sh, Pr.bind_ok]
          rw [show m + (i + 1) = m + (i + 1) from rfl, h.name]
          rcases hn : nameT T2 (i + 1) with ⟨sn, i2⟩ | ⟨e, j⟩
          · obtain ⟨g2', -, rfl⟩ := nameT_ok hn
            have hi2' : i + 1 < T2.length := by simp only [nmT, Bool.and_eq_true, decide_eq_true_eq] at g2'; exact tkA_kind (by decide) g2'.1
            simp only [Pr.sh, Pr.bind_ok]
            rw [h.want]
            rcases he : wantT T2 (i + 1 + 1) 3 [61] with ⟨_, i3⟩ | ⟨e, j⟩
            · obtain ⟨rfl, hi3⟩ := wantT_le (by decide) he
              simp only [Pr.sh, Pr.bind_ok]
              have hx := h.expr (T.length + 2) (T2.length + 2) (i + 1 + 1 + 1) exM 0 (by omega) (by omega) (by omega)
              rw [shE_exM] at hx
              rw [hx]
              rcases hN : exprT T2 (T2.length + 2) (i + 1 + 1 + 1) exM 0 with ⟨N, j⟩ | ⟨e, j⟩
              · obtain ⟨b1, b2⟩ := expr_lt hN
                simp only [Pr.sh, Pr.bind_ok]
                rw [h.want]
                rcases hs : wantT T2 j 3 [59] with ⟨_, i5⟩ | ⟨e, j⟩
                · obtain ⟨rfl, hi5⟩ := wantT_le (by decide) hs
                  simp only [Pr.sh, Pr.bind_ok]
                  rcases Like.defs h g g2 (j + 1) (k + 1) (k2 + 1) (by omega) (by omega) (by omega) (by omega) (by
                    rcases Nat.lt_or_ge k 256 with h7 | h7
                    · exact h7
                    · exact absurd ⟨by omega, (wantT_ok hw).1⟩ hnm) with ⟨q, hq, hbig⟩ | hq
                  · refine .inl ⟨q, by rw [hq]; rfl, fun D e hD => ?_⟩
                    obtain ⟨D', e', h6, hD⟩ := bind_ok hD
                    cases hD
                    have := hbig _ _ h6
                    rw [List.length_cons]; omega
                  · refine .inr ?_
                    rw [hq]
                    refine bind_sh fun D q hD => ?_
                    show Pr.ok (_ :: _) _ = Pr.ok (_ :: _) _
                    congr 2
                    simp only [shD, id, Df.mk.injEq, true_and, and_true]
                    omega
                · exact .inr rfl
              · exact .inr rfl
            · exact .inr rfl
          · exact .inr rfl
        · exact .inr rfl
theorem bind_pre {α β : Type} {n : Nat} {r r2 : Pr α} {F F2 : α → Nat → Pr β} (hne : ∀ e, r2.bind F2 ≠ .bad e n) (hr : (∀ e, r2 ≠ .bad e n) → r = r2) (hF : ∀ a j, r2 = .ok a j → (∀ e, F2 a j ≠ .bad e n) → F a j = F2 a j) : r.bind F = r2.bind F2 := by
  cases r2 with
  | ok a i => rw [hr (fun e h => by cases h)]; exact hF a i rfl hne
  | bad e i => rw [hr (fun e' h => hne e' (by injection h with h1 h2; rw [h1, h2]; rfl))]; rfl
theorem bind_pre2 {α β γ : Type} {n : Nat} {r r2 : Pr α} {F : α → Nat → Pr γ} {F2 : α → Nat → Pr β} {G : α → Nat → Pr γ} (hne : ∀ e, r2.bind F2 ≠ .bad e n) (hr : (∀ e, r2 ≠ .bad e n) → r = r2) (hF : ∀ a j, r2 = .ok a j → (∀ e, F2 a j ≠ .bad e n) → F a j = G a j) : r.bind F = r2.bind G := by
  cases r2 with
  | ok a i => rw [hr (fun e h => by cases h)]; exact hF a i rfl hne
  | bad e i => rw [hr (fun e' h => hne e' (by injection h with h1 h2; rw [h1, h2]; rfl))]; rfl
structure Pre (T T2 : List Tk) : Prop where
  le : T2.length ≤ T.length
  tok : ∀ i, i < T2.length → tkA T i = tkA T2 i
theorem Pre.want {T T2 : List Tk} (h : Pre T T2) {i k : Nat} {s : List UInt8} (hk : 1 ≤ k) (hi : i ≤ T2.length) (hne : ∀ e, wantT T2 i k s ≠ .bad e T2.length) : wantT T i k s = wantT T2 i k s := by
  rcases Nat.lt_or_ge i T2.length with hl | hl
  · unfold wantT; rw [h.tok i hl]
  · have : i = T2.length := by omega
    subst this
    refine absurd ?_ (hne 60)
    unfold wantT
    rw [if_neg (fun hh => by have := isT_lt hk hh; omega)]
theorem Pre.num {T T2 : List Tk} (h : Pre T T2) {i : Nat} (hi : i ≤ T2.length) (hne : ∀ e, numT T2 i ≠ .bad e T2.length) : numT T i = numT T2 i := by
  rcases Nat.lt_or_ge i T2.length with hl | hl
  · unfold numT; rw [h.tok i hl]
  · have : i = T2.length := by omega
    subst this
    refine absurd ?_ (hne 60)
    unfold numT
    rw [if_neg (fun hh => by have := tkA_kind (by decide) hh; omega)]
theorem nmT_lt {T : List Tk} {i : Nat} (h : nmT (tkA T i) = true) : i < T.length := by
  simp only [nmT, Bool.and_eq_true, decide_eq_true_eq] at h; exact tkA_kind (by decide) h.1
theorem Pre.name {T T2 : List Tk} (h : Pre T T2) {i : Nat} (hi : i ≤ T2.length) (hne : ∀ e, nameT T2 i ≠ .bad e T2.length) : nameT T i = nameT T2 i := by
  rcases Nat.lt_or_ge i T2.length with hl | hl
  · unfold nameT; rw [h.tok i hl]
  · have : i = T2.length := by omega
    subst this
    refine absurd ?_ (hne 60)
    unfold nameT
    rw [if_neg (fun hh => by have := nmT_lt hh; omega)]
theorem Pre.head {T T2 : List Tk} (h : Pre T T2) {u full : Bool} {i : Nat} {x : Ex} (hi : i ≤ T2.length) (hne : ∀ e, headT T2 u full i x ≠ .bad e T2.length) : headT T u full i x = headT T2 u full i x := by
  rcases Nat.lt_or_ge i T2.length with hl | hl
  · cases u
    · rw [headT_s, headT_s]; unfold nameT; rw [h.tok i hl]
    · rw [headT_u, headT_u]; unfold numT; rw [h.tok i hl]
  · have : i = T2.length := by omega
    subst this
    cases u
    · refine absurd ?_ (hne 60)
      rw [headT_s, if_neg (fun hh => by have := nmT_lt hh.2; omega)]
      unfold nameT
      rw [if_neg (fun hh => by have := nmT_lt hh; omega)]
      rfl
    · refine absurd ?_ (hne 60)
      rw [headT_u, if_neg (fun hh => by have := tkA_kind (by decide) hh.2; omega)]
      unfold numT
      rw [if_neg (fun hh => by have := tkA_kind (by decide) hh; omega)]
      rfl
theorem Pre.rows {T T2 : List Tk} (h : Pre T T2) {u : Bool} {i0 : Nat} {E E2 : Nat → Ex → Pr (List Ex)} (hE : ∀ i x, i0 ≤ i → i ≤ T2.length → (∀ e, E2 i x ≠ .bad e T2.length) → E i x = E2 i x) (hE2 : ∀ i x N j, E2 i x = .ok N j → i < j ∧ j ≤ T2.length) :
    ∀ (g g2 i k : Nat), i0 ≤ i → i ≤ T2.length → T.length + 2 ≤ g + i → T2.length + 2 ≤ g2 + i → (∀ e, rowsT E2 T2 u g2 i k ≠ .bad e T2.length) → rowsT E T u g i k = rowsT E2 T2 u g2 i k
  | 0, g2, i, k, h0, hi, hg, hg2, hne => by have := h.le; omega
  | g + 1, 0, i, k, h0, hi, hg, hg2, hne => by omega
  | g + 1, g2 + 1, i, k, h0, hi, hg, hg2, hne => by
    rw [rowsT_s] at hne
    rw [rowsT_s, rowsT_s]
    refine bind_pre hne (fun hn => h.head hi hn) fun y i1 h1 hne => ?_
    obtain ⟨rfl, hi1⟩ := headT_le h1
    refine bind_pre hne (fun hn => h.want (by decide) (by omega) hn) fun _ i2 h2 hne => ?_
    obtain ⟨rfl, hi2⟩ := wantT_le (by decide) h2
    refine bind_pre hne (fun hn => hE _ _ (by omega) (by omega) hn) fun N j h3 hne => ?_
    obtain ⟨b1, b2⟩ := hE2 _ _ _ _ h3
    have hjl : j < T2.length := by
      rcases Nat.lt_or_ge j T2.length with hl | hl
      · exact hl
      · exfalso
        have hj : j = T2.length := by omega
        subst hj
        have hf : ∀ {k s}, 1 ≤ k → ¬ isT (tkA T2 T2.length) k s = true := fun hk hh => by have := isT_lt hk hh; omega
        rw [if_neg (hf (by decide))] at hne
        refine hne 60 ?_
        unfold wantT
        rw [if_neg (hf (by decide))]
        rfl
    rw [h.tok j hjl]
    split
    · rename_i hm
      rw [if_pos hm] at hne
      exact bind_pre hne (fun hn => Pre.rows h hE hE2 g g2 (j + 1) (k + 1) (by omega) (by omega) (by omega) (by omega) hn) fun r j2 h4 hne => rfl
    · rename_i hm
      rw [if_neg hm] at hne
      exact bind_pre hne (fun hn => h.want (by decide) b2 hn) fun _ j2 h4 hne => rfl
theorem Pre.expr {T T2 : List Tk} (h : Pre T T2) : ∀ (f f2 i : Nat) (x : Ex) (deep : Nat), i ≤ T2.length → T.length + 2 ≤ f + i → T2.length + 2 ≤ f2 + i → (∀ e, exprT T2 f2 i x deep ≠ .bad e T2.length) → exprT T f i x deep = exprT T2 f2 i x deep
  | 0, f2, i, x, deep, hi, hf, hf2, hne => by have := h.le; omega
  | f + 1, 0, i, x, deep, hi, hf, hf2, hne => by omega
  | f + 1, f2 + 1, i, x, deep, hi, hf, hf2, hne => by
    rw [exprT_s] at hne
    rw [exprT_s, exprT_s]
    have hil : i < T2.length := by
      rcases Nat.lt_or_ge i T2.length with hl | hl
      · exact hl
      · exfalso
        have hj : i = T2.length := by omega
        subst hj
        refine hne 60 ?_
        rw [if_pos]
        cases hb : bgnT (tkA T2 T2.length) with
        | false => rfl
        | true => have := tkA_kind (T := T2) (by decide) (bgn_kind hb); omega
    rw [h.tok i hil]
    split
    · rfl
    · rename_i hb
      rw [if_neg hb] at hne
      split
      · rfl
      · rename_i hd
        rw [if_neg hd] at hne
        split
        · rfl
        · rename_i hl
          rw [hl] at hne
          simp only at hne
          split
          · rename_i hv
            rw [if_pos hv] at hne
            refine bind_pre hne (fun hn => h.want (by decide) (by omega) hn) fun _ i1 h1 hne => ?_
            obtain ⟨rfl, hi1⟩ := wantT_le (by decide) h1
            refine bind_pre hne (fun hn => Pre.expr h f f2 _ _ _ (by omega) (by omega) (by omega) hn) fun N i2 h2 hne => ?_
            obtain ⟨b1, b2⟩ := expr_lt h2
            refine bind_pre hne (fun hn => h.want (by decide) (by omega) hn) fun _ i3 h3 hne => ?_
            obtain ⟨rfl, hi3⟩ := wantT_le (by decide) h3
            refine bind_pre hne (fun hn => h.num (by omega) hn) fun n i4 h4 hne => ?_
            obtain ⟨g4, -, rfl⟩ := numT_ok h4
            have hi4 := tkA_kind (by decide) g4
            exact bind_pre hne (fun hn => h.want (by decide) (by omega) hn) fun _ i5 h5 hne => rfl
          · rename_i hv
            rw [if_neg hv] at hne
            split
            · rename_i ho
              rw [if_pos ho] at hne
              refine bind_pre hne (fun hn => h.want (by decide) (by omega) hn) fun _ i1 h1 hne => ?_
              obtain ⟨rfl, hi1⟩ := wantT_le (by decide) h1
              refine bind_pre hne (fun hn => Pre.expr h f f2 _ _ _ (by omega) (by omega) (by omega) hn) fun N i2 h2 hne => ?_
              obtain ⟨b1, b2⟩ := expr_lt h2
              exact bind_pre hne (fun hn => h.want (by decide) (by omega) hn) fun _ i3 h3 hne => rfl
            · rename_i ho
              rw [if_neg ho] at hne
              have hrow : ∀ (u : Bool), (∀ e, (((wantT T2 (i + 1) 3 [123]).bind fun _ j => rowsT (fun i x => exprT T2 f2 i x (deep + 1)) T2 u f2 j 0).bind fun r j => (.ok ((atE i x).br u (r.2 : Nat) :: r.1) j : Pr (List Ex))) ≠ .bad e T2.length) → (((wantT T (i + 1) 3 [123]).bind fun _ j => rowsT (fun i x => exprT T f i x (deep + 1)) T u f j 0).bind fun r j => (.ok ((atE i x).br u (r.2 : Nat) :: r.1) j : Pr (List Ex))) =
                  (((wantT T2 (i + 1) 3 [123]).bind fun _ j => rowsT (fun i x => exprT T2 f2 i x (deep + 1)) T2 u f2 j 0).bind fun r j => (.ok ((atE i x).br u (r.2 : Nat) :: r.1) j : Pr (List Ex))) := by
                intro u hne
                refine bind_pre hne (fun hn => ?_) fun r j h2 hne => rfl
                refine bind_pre hn (fun hn => h.want (by decide) (by omega) hn) fun _ i1 h1 hne => ?_
                obtain ⟨rfl, hi1⟩ := wantT_le (by decide) h1
                exact Pre.rows h (i0 := i + 1 + 1) (fun i x h0 hi hn => Pre.expr h f f2 i x _ hi (by omega) (by omega) hn) (fun i x N j hh => expr_lt hh) f f2 _ _ (Nat.le_refl _) (by omega) (by omega) (by omega) hne
              split
              · rename_i hu
                rw [if_pos hu] at hne
                exact hrow true hne
              · rename_i hu
                rw [if_neg hu] at hne
                split
                · rename_i hs
                  rw [if_pos hs] at hne
                  exact hrow false hne
                · rfl
theorem bind_congr' {α β : Type} {r : Pr α} {F F2 : α → Nat → Pr β} (hF : ∀ a j, r = .ok a j → F a j = F2 a j) : r.bind F = r.bind F2 := by
  cases r with
  | ok a i => exact hF a i rfl
  | bad e i => rfl
theorem defs_fuel {T : List Tk} : ∀ (g g2 i k : Nat), i ≤ T.length → T.length + 2 ≤ g + i → T.length + 2 ≤ g2 + i → defsT T g i k = defsT T g2 i k
  | 0, g2, i, k, hi, hg, hg2 => by omega
  | g + 1, 0, i, k, hi, hg, hg2 => by omega
  | g + 1, g2 + 1, i, k, hi, hg, hg2 => by
    rw [defsT_s, defsT_s]
    split
    · rfl
    · split
      · rfl
      · refine bind_congr' fun _ i1 h1 => ?_
        obtain ⟨rfl, hi1⟩ := wantT_le (by decide) h1
        refine bind_congr' fun s i2 h2 => ?_
        obtain ⟨g2', -, rfl⟩ := nameT_ok h2
        have := nmT_lt g2'
        refine bind_congr' fun _ i3 h3 => ?_
        obtain ⟨rfl, hi3⟩ := wantT_le (by decide) h3
        refine bind_congr' fun N j h4 => ?_
        obtain ⟨b1, b2⟩ := expr_lt h4
        refine bind_congr' fun _ i5 h5 => ?_
        obtain ⟨rfl, hi5⟩ := wantT_le (by decide) h5
        rw [defs_fuel g g2 (j + 1) (k + 1) (by omega) (by omega) (by omega)]
theorem Pr.bind_assoc {α β γ : Type} {r : Pr α} {F : α → Nat → Pr β} {G : β → Nat → Pr γ} : (r.bind F).bind G = r.bind fun a j => (F a j).bind G := by cases r <;> rfl
theorem Pre.defs {T T2 : List Tk} (h : Pre T T2) : ∀ (g g2 i k : Nat), i ≤ T2.length → T.length + 2 ≤ g + i → T2.length + 2 ≤ g2 + i → (∀ e, defsT T2 g2 i k ≠ .bad e T2.length) →
    defsT T g i k = (defsT T2 g2 i k).bind fun D _ => (defsT T (T.length + 2) T2.length (k + D.length)).bind fun D' j => .ok (D ++ D') j
  | 0, g2, i, k, hi, hg, hg2, hne => by have := h.le; omega
  | g + 1, 0, i, k, hi, hg, hg2, hne => by omega
  | g + 1, g2 + 1, i, k, hi, hg, hg2, hne => by
    rw [defsT_s (T := T2)] at hne
    rw [defsT_s (T := T2)]
    by_cases hi2 : T2.length ≤ i
    · have hie : i = T2.length := by omega
      rw [if_pos hi2, hie, defs_fuel (g + 1) (T.length + 2) T2.length k h.le (by omega) (by omega), Pr.bind_ok]
      show _ = (defsT T (T.length + 2) T2.length (k + 0)).bind fun D' j => .ok ([] ++ D') j
      rw [Nat.add_zero]
      cases defsT T (T.length + 2) T2.length k <;> rfl
    · have hlt : i < T2.length := by omega
      have hle := h.le
      rw [if_neg hi2] at hne ⊢
      rw [defsT_s, if_neg (by omega), h.tok i hlt]
      by_cases hnm : k = 256 ∧ isT (tkA T2 i) 1 [116, 121, 112, 101] = true
      · rw [if_pos hnm, if_pos hnm]; rfl
      · rw [if_neg hnm] at hne ⊢
        rw [if_neg hnm]
        simp only [Pr.bind_assoc]
        refine bind_pre2 hne (fun hn => h.want (by decide) (by omega) hn) fun _ i1 h1 hne => ?_
        obtain ⟨rfl, hi1⟩ := wantT_le (by decide) h1
        refine bind_pre2 hne (fun hn => h.name (by omega) hn) fun s i2 h2 hne => ?_
        obtain ⟨g2', -, rfl⟩ := nameT_ok h2
        have := nmT_lt g2'
        refine bind_pre2 hne (fun hn => h.want (by decide) (by omega) hn) fun _ i3 h3 hne => ?_
        obtain ⟨rfl, hi3⟩ := wantT_le (by decide) h3
        refine bind_pre2 hne (fun hn => h.expr _ _ _ _ _ (by omega) (by omega) (by omega) hn) fun N j h4 hne => ?_
        obtain ⟨b1, b2⟩ := expr_lt h4
        refine bind_pre2 hne (fun hn => h.want (by decide) (by omega) hn) fun _ i5 h5 hne => ?_
        obtain ⟨rfl, hi5⟩ := wantT_le (by decide) h5
        rw [Pre.defs h g g2 (j + 1) (k + 1) (by omega) (by omega) (by omega) (fun e he => hne e (by rw [he]; rfl))]
        rw [Pr.bind_assoc]
        refine bind_congr' fun D q hD => ?_
        simp only [Pr.bind_assoc, Pr.bind_ok, List.length_cons]
        rw [show k + 1 + D.length = k + (D.length + 1) by omega]
        refine bind_congr' fun D' q hD' => rfl

end Go.Proofs.Ytcljkkfpcomdcaa

set_option linter.unusedSimpArgs false
set_option linter.unusedVariables false
set_option maxRecDepth 100000
namespace Go.Proofs.Ytcljkkfpcomdcaa
open Go Go.Vc Go.RowKit Go.Proofs

def bareE (x : Ex) : Ex := { x with at_ := 0 }
def bareD (d : Df) : Df := ⟨d.name, 0, d.ty.map bareE⟩
end Go.Proofs.Ytcljkkfpcomdcaa

set_option linter.unusedSimpArgs false
set_option linter.unusedVariables false
set_option maxRecDepth 100000
namespace Go.Proofs.Ytcljkkfpcomdcaa
open Go Go.Vc Go.RowKit Go.Proofs

theorem rset {f g : Nat → List Value} {s : Nat} (hs : ∀ j, (f j).length = s) {k o : Nat} (ho : o < s) (v : Value) (hg : ∀ j, g j = if j = k then (f k).set o v else f j) : ∀ n, k < n → ((List.range n).flatMap f).set (k * s + o) v = (List.range n).flatMap g := by
  have hl : ∀ n, ((List.range n).flatMap f).length = n * s := by
    intro n
    induction n with
    | zero => rw [Nat.zero_mul]; rfl
    | succ n ih => rw [List.range_succ, List.flatMap_append, List.length_append, ih, List.flatMap_singleton, hs, Nat.succ_mul]
  intro n
  induction n with
  | zero => intro h; omega
  | succ n ih =>
    intro h
    rw [List.range_succ, List.flatMap_append, List.flatMap_append, List.flatMap_singleton, List.flatMap_singleton]
    by_cases hk : k = n
    · subst hk
      rw [List.set_append_right _ _ (by rw [hl]; omega), hl, Nat.add_sub_cancel_left, hg k, if_pos rfl]
      congr 1
      exact (dfm_congr fun j hj => by rw [hg j, if_neg (by have := List.mem_range.1 hj; omega)]).symm
    · have h1 : (k + 1) * s ≤ n * s := Nat.mul_le_mul_right _ (by omega)
      rw [Nat.succ_mul] at h1
      rw [List.set_append_left _ _ (by rw [hl]; omega), ih (by omega), hg n, if_neg (fun e => hk e.symm)]
def setAt (D : List Df) (k : Nat) (z : Int) : List Df := D.set k { D.getD k df0 with at_ := z }
theorem setAt_len {D : List Df} {k : Nat} {z : Int} : (setAt D k z).length = D.length := List.length_set ..
theorem setAt_at {D : List Df} {k : Nat} {z : Int} (j : Nat) : (setAt D k z).getD j df0 = if j = k ∧ k < D.length then { D.getD k df0 with at_ := z } else D.getD j df0 := by
  rw [setAt, List.getD_eq_getElem?_getD, List.getElem?_set]
  by_cases h : k = j
  · subst h
    by_cases h2 : k < D.length
    · simp [h2]
    · simp [h2, List.getD_eq_getElem?_getD]
  · rw [if_neg h, if_neg (fun hh => h hh.1.symm), List.getD_eq_getElem?_getD]
theorem drows_setAt {D : List Df} {V : Nat → Value} {k : Nat} {z : Int} (hk : k < D.length) : (drows D V).set (k * 3 + 1) (.int .i64 z) = drows (setAt D k z) V := by
  rw [drows, drows, setAt_len]
  refine rset (s := 3) (o := 1) (fun _ => rfl) (by decide) _ (fun j => ?_) _ hk
  rw [setAt_at]
  by_cases h : j = k
  · rw [if_pos ⟨h, hk⟩, if_pos h, h]; rfl
  · rw [if_neg (fun hh => h hh.1), if_neg h]
theorem Defs.setAt {w w' : World} {H : Nat} {D : List Df} {lv : Value} {V : Nat → Value} (h : Defs w H D lv V) {k : Nat} {z : Int} (hk : k < D.length) (ho : Only (fun b => lv.ownBlock = some b) w w') (hr : w'.ownsRow H 40 3 lv D.length ((drows D V).set (k * 3 + 1) (.int .i64 z))) : Defs w' H (setAt D k z) lv V := by
  have ht : ∀ j, tyD (Go.Proofs.Ytcljkkfpcomdcaa.setAt D k z) j = tyD D j := fun j => by
    rw [tyD, setAt_at]
    split
    · rename_i hh; rw [hh.1]; rfl
    · rfl
  refine ⟨by rw [setAt_len, ← drows_setAt hk]; exact hr, ?_⟩
  rw [setAt_len]
  exact ((h.tys.other h.row (by decide) ho)).congr (fun _ _ => rfl) (fun j _ => by rw [ht j]) (fun j _ => by rw [ht j])
/-- the first k without places -/
def BareTo (D E : List Df) (k : Nat) : Prop := E.length = D.length ∧ (∀ i, i < k → E.getD i df0 = bareD (D.getD i df0)) ∧ ∀ i, k ≤ i → E.getD i df0 = D.getD i df0
def BareIn (D E : List Df) (k j : Nat) : Prop := E.length = D.length ∧ (∀ i, i < k → E.getD i df0 = bareD (D.getD i df0)) ∧ (∀ i, k < i → E.getD i df0 = D.getD i df0) ∧ E.getD k df0 = ⟨(D.getD k df0).name, 0, ((tyD D k).take j).map bareE ++ (tyD D k).drop j⟩
theorem BareIn.ty {D E : List Df} {k j : Nat} (h : BareIn D E k j) : tyD E k = ((tyD D k).take j).map bareE ++ (tyD D k).drop j := by
  rw [tyD, h.2.2.2]
theorem BareIn.len {D E : List Df} {k j : Nat} (h : BareIn D E k j) (hj : j ≤ (tyD D k).length) : (tyD E k).length = (tyD D k).length := by
  rw [h.ty, List.length_append, List.length_map, List.length_take, List.length_drop]; omega
theorem BareIn.step {D E : List Df} {k j : Nat} (h : BareIn D E k j) (hk : k < D.length) (hj : j < (tyD D k).length) (x : Ex) (hx : (tyD E k)[j]? = some x) : BareIn D (setE E k j { x with at_ := 0 }) k (j + 1) := by
  obtain ⟨h1, h2, h3, h4⟩ := h
  have hE : tyD E k = ((tyD D k).take j).map bareE ++ (tyD D k).drop j := by rw [tyD, h4]
  have hx2 : x = (tyD D k)[j] := by
    rw [hE, List.getElem?_append_right (by simp; omega)] at hx
    simp only [List.length_map, List.length_take, Nat.min_eq_left (Nat.le_of_lt hj), Nat.sub_self, List.getElem?_drop, Nat.add_zero, List.getElem?_eq_getElem hj, Option.some.injEq] at hx
    exact hx.symm
  refine ⟨by rw [setE_len, h1], fun i hi => ?_, fun i hi => ?_, ?_⟩
  · rw [setE_at, if_neg (by omega)]; exact h2 i hi
  · rw [setE_at, if_neg (by omega)]; exact h3 i hi
  · rw [setE_at, if_pos ⟨rfl, by omega⟩, hE, h4]
    simp only [Df.mk.injEq, true_and]
    rw [List.set_append_right _ _ (by simp; omega)]
    simp only [List.length_map, List.length_take, Nat.min_eq_left (Nat.le_of_lt hj), Nat.sub_self]
    rw [← List.getElem_cons_drop hj, List.set_cons_zero, List.take_add_one, List.getElem?_eq_getElem hj, List.map_append, List.append_assoc, hx2]
    rfl
theorem BareIn.done {D E : List Df} {k : Nat} (h : BareIn D E k (tyD D k).length) : BareTo D E (k + 1) := by
  obtain ⟨h1, h2, h3, h4⟩ := h
  refine ⟨h1, fun i hi => ?_, fun i hi => h3 i (by omega)⟩
  rcases Nat.lt_or_ge i k with hl | hl
  · exact h2 i hl
  · obtain rfl : i = k := by omega
    rw [h4, List.take_length, List.drop_length, List.append_nil]; rfl
theorem DOk.tyD {D : List Df} (h : DOk D) {k : Nat} (hk : k < D.length) : (tyD D k).length * 72 ≤ 140737488351232 := by
  rw [tyD_at hk]; exact h.ty _ (List.getElem_mem hk)
end Go.Proofs.Ytcljkkfpcomdcaa

set_option linter.unusedSimpArgs false
set_option linter.unusedVariables false
set_option maxRecDepth 100000
namespace Go.Proofs.Ytcljkkfpcomdcaa
open Go Go.Vc Go.RowKit Go.Proofs
/-- blanks and remarks; does a remark stand open at the end? -/
def gapS : Bool → List UInt8 → Option Bool
  | rm, [] => some rm
  | true, c :: cs => gapS (!decide (c.toNat = 10)) cs
  | false, c :: cs => if c.toNat = 35 then gapS true cs else if blankB c then gapS false cs else none
theorem gap_skip (xs : List UInt8) (m : Nat) (hm : m ≤ xs.length) (j : Nat) (hj : j ≤ m) (rm : Bool) (h : gapS rm ((xs.take m).drop j) = some false) : cutL xs (if rm then runL nnlB xs j else j) = cutL xs m := by
  by_cases hl : j < m
  · have h3 : j < (xs.take m).length := by simp; omega
    have hx : j < xs.length := by omega
    have hd : (xs.take m).drop j = xs[j] :: (xs.take m).drop (j + 1) := by
      rw [← List.getElem_cons_drop h3]; simp
    have hc := cutL_eq xs j
    rw [dif_pos hx] at hc
    rw [hd] at h
    cases rm with
    | true =>
      rw [gapS] at h
      by_cases h10 : (xs[j]).toNat = 10
      · simp [h10] at h
        have ih := gap_skip xs m hm (j + 1) (by omega) false h
        rw [if_pos rfl, runL_stop hx (by simp [nnlB, h10]), hc, if_neg (by omega), if_pos (by simp [blankB, h10])]
        exact ih
      · simp [h10] at h
        have ih := gap_skip xs m hm (j + 1) (by omega) true h
        rw [if_pos rfl, runL_go hx (by simp [nnlB, h10])]
        exact ih
    | false =>
      rw [gapS] at h
      rw [if_neg (by decide), hc]
      by_cases h35 : (xs[j]).toNat = 35
      · rw [if_pos h35] at h ⊢
        exact gap_skip xs m hm (j + 1) (by omega) true h
      · rw [if_neg h35] at h ⊢
        by_cases hb : blankB xs[j] = true
        · rw [if_pos hb] at h ⊢
          exact gap_skip xs m hm (j + 1) (by omega) false h
        · rw [if_neg hb] at h; cases h
  · have : j = m := by omega
    subst this
    rw [List.drop_eq_nil_of_le (by simp; omega)] at h
    cases rm with
    | true => cases h
    | false => rfl
termination_by m - j
theorem take_get {xs zs : List UInt8} {a k : Nat} (hp : zs.take a = xs.take a) (hk : k < a) (hx : k < xs.length) (hz : k < zs.length) : zs[k] = xs[k] := by
  have h1 : (zs.take a)[k]? = (xs.take a)[k]? := by rw [hp]
  simpa [List.getElem?_take, hk, hx, hz] using h1
theorem runL_front {p : UInt8 → Bool} {xs zs : List UInt8} {a : Nat} (hp : zs.take a = xs.take a) (hx : a ≤ xs.length) (hz : a ≤ zs.length) (k : Nat) (hk : k ≤ a) (hr : runL p xs k ≤ a)
    (hs : zs.length = a ∨ (∃ h : a < zs.length, p zs[a] = false) ∨ runL p xs k < a) : runL p zs k = runL p xs k := by
  by_cases hka : k < a
  · have he := take_get hp hka (by omega) (by omega)
    cases hc : p xs[k] with
    | true =>
      rw [runL_go (by omega) hc] at hr hs ⊢
      rw [runL_go (xs := zs) (by omega) (by rw [he]; exact hc)]
      exact runL_front hp hx hz (k + 1) (by omega) hr hs
    | false => rw [runL_stop (xs := xs) (by omega) hc, runL_stop (xs := zs) (by omega) (by rw [he]; exact hc)]
  · have hka : k = a := by omega
    subst hka
    have h1 := (runL_le (p := p) hx).1
    have h2 : runL p xs k = k := by omega
    rw [h2]
    rcases hs with hs | ⟨h, hs⟩ | hs
    · exact runL_end (by omega)
    · exact runL_stop h hs
    · omega
termination_by a - k
theorem sub_front {xs zs : List UInt8} {a : Nat} (hp : zs.take a = xs.take a) (l h : Nat) (hh : h ≤ a) : sub zs l h = sub xs l h := by
  unfold sub
  have : ∀ ys : List UInt8, ys.take h = (ys.take a).take h := fun ys => by rw [List.take_take, Nat.min_eq_left hh]
  rw [this zs, this xs, hp]
theorem oneL_front {xs zs : List UInt8} {a : Nat} (hp : zs.take a = xs.take a) (hx : a ≤ xs.length) (hz : a ≤ zs.length) (hs : zs.length = a ∨ ∃ h : a < zs.length, goeB zs[a] = false) (k : Nat) (hk : k < a) (hk1 : k < xs.length) (hk2 : k < zs.length)
    (h0 : (oneL xs k hk1).1 = 0) (hf : (oneL xs k hk1).2.fin ≤ a) : oneL zs k hk2 = oneL xs k hk1 := by
  have he := take_get hp hk hk1 hk2
  have st : ∀ p : UInt8 → Bool, (∀ c : UInt8, goeB c = false → p c = false) → runL p xs k ≤ a → runL p zs k = runL p xs k := fun p hp32 hr =>
    runL_front hp hx hz k (by omega) hr (by rcases hs with hs | ⟨h, hs⟩; exact .inl hs; exact .inr (.inl ⟨h, hp32 _ hs⟩))
  unfold oneL at h0 hf ⊢
  rw [he]
  by_cases h1 : letB xs[k] = true
  · rw [if_pos h1] at h0 hf ⊢
    rw [if_pos h1]
    have hr : runL goeB xs k ≤ a := by split at hf <;> exact hf
    have hg := st goeB (fun _ h => h) hr
    rw [hg, sub_front hp _ _ hr]
  · rw [if_neg h1] at h0 hf ⊢
    rw [if_neg h1]
    by_cases h2 : digB xs[k] = true
    · rw [if_pos h2] at h0 hf ⊢
      rw [if_pos h2]
      have hr : runL digB xs k ≤ a := hf
      have hg := st digB (by intro c hc; simp [goeB] at hc; exact hc.1.2) hr
      rw [hg, sub_front hp _ _ hr]
    · rw [if_neg h2] at h0 hf ⊢
      rw [if_neg h2]
      by_cases h3 : markB xs[k] = true
      · rw [if_pos h3] at h0 hf ⊢
        rw [if_pos h3]
        have hr : k + 1 ≤ a := hf
        rw [sub_front hp _ _ hr]
      · rw [if_neg h3] at h0; simp at h0


theorem oneL_in {xs : List UInt8} {k : Nat} {h : k < xs.length} (he : (oneL xs k h).1 = 0) : blankB xs[k] = false ∧ ¬ (xs[k]).toNat = 35 := by
  have h3 : letB xs[k] = true ∨ digB xs[k] = true ∨ markB xs[k] = true := by
    unfold oneL at he
    by_cases h1 : letB xs[k] = true
    · exact .inl h1
    · by_cases h2 : digB xs[k] = true
      · exact .inr (.inl h2)
      · by_cases h3 : markB xs[k] = true
        · exact .inr (.inr h3)
        · rw [if_neg h1, if_neg h2, if_neg h3] at he; cases he
  generalize xs[k] = c at h3
  rw [mark_or] at h3
  simp only [letB, digB, blankB, Bool.and_eq_true, Bool.or_eq_true, decide_eq_true_eq, Bool.or_eq_false_iff, decide_eq_false_iff_not] at h3 ⊢
  omega
/-- blanks, then a token's bytes: cut asx the token -/
theorem put_step (B F T Z : List UInt8) (t' : Tk) (hT : 0 < T.length) (h1 : gapS false F = some false) (hfr : ∀ h, oneL (T ++ Z) 0 h = (0, t')) (hf : t'.fin = T.length) :
    cutL (B ++ F ++ T ++ Z) B.length = (⟨t'.kind, t'.text, t'.n, B.length + F.length + t'.at_, B.length + F.length + T.length⟩ :: (cutL (B ++ F ++ T ++ Z) (B ++ F ++ T).length).1, (cutL (B ++ F ++ T ++ Z) (B ++ F ++ T).length).2) := by
  generalize hX : B ++ F ++ T ++ Z = X
  have hXl : X.length = B.length + F.length + T.length + Z.length := by subst hX; simp; omega
  have e1 : (X.take (B.length + F.length)).drop B.length = F := by
    subst hX
    rw [show B ++ F ++ T ++ Z = (B ++ F) ++ (T ++ Z) by simp, ← List.length_append, List.take_left, List.drop_left]
  have s1 := gap_skip X (B.length + F.length) (by omega) B.length (by omega) false (by rw [e1]; exact h1)
  rw [if_neg (by decide)] at s1
  have hdr : X.drop (B.length + F.length) = T ++ Z := by
    subst hX
    rw [show B ++ F ++ T ++ Z = (B ++ F) ++ (T ++ Z) by simp, ← List.length_append, List.drop_left]
  have hp : B.length + F.length + 0 < X.length := by omega
  have hq : 0 < (X.drop (B.length + F.length)).length := by simp; omega
  have hsh := oneL_shift X (B.length + F.length) 0 hp hq
  have hq2 : oneL (X.drop (B.length + F.length)) 0 hq = (0, t') := by
    have : ∀ (Y : List UInt8) (h : 0 < Y.length), Y = T ++ Z → oneL Y 0 h = (0, t') := by rintro Y h rfl; exact hfr h
    exact this _ _ hdr
  rw [hq2] at hsh
  have hs2 := hsh.2 rfl
  have hone : oneL X (B.length + F.length) (by omega) = (0, shiftT (B.length + F.length) t') := Prod.ext hsh.1 hs2
  obtain ⟨hbl, h35⟩ := oneL_in (by rw [hone])
  have hc := cutL_eq X (B.length + F.length)
  rw [dif_pos (by omega), if_neg h35, if_neg (by simp [hbl]), dif_pos (by rw [hone]), hone] at hc
  have hfin : (shiftT (B.length + F.length) t').fin = B.length + F.length + T.length := by show B.length + F.length + t'.fin = _; rw [hf]
  simp only [hfin] at hc
  rw [s1, hc, show (B ++ F ++ T).length = B.length + F.length + T.length by simp; omega]
  congr 1
  show Tk.mk _ _ _ _ _ :: _ = _
  congr 2
def Stops (Z : List UInt8) : Prop := Z = [] ∨ ∃ c cs, Z = c :: cs ∧ goeB c = false
theorem tok_front {T Z : List UInt8} {t' : Tk} {hT : 0 < T.length} (ho : oneL T 0 hT = (0, t')) (hf : t'.fin = T.length) (hZ : Stops Z) : ∀ h, oneL (T ++ Z) 0 h = (0, t') := by
  intro h
  have := oneL_front (xs := T) (zs := T ++ Z) (a := T.length) (by rw [List.take_left, List.take_length]) (Nat.le_refl _) (by simp) (by
    rcases hZ with rfl | ⟨c, cs, rfl, hg⟩
    · exact .inl (by simp)
    · exact .inr ⟨by simp, by simp [hg]⟩) 0 hT hT h (by rw [ho]) (by rw [ho]; exact Nat.le_of_eq hf)
  rw [this, ho]
def tkey (t : Tk) : Nat × List UInt8 × Nat := (t.kind, t.text, t.n)
end Go.Proofs.Ytcljkkfpcomdcaa

set_option linter.unusedSimpArgs false
set_option linter.unusedVariables false
set_option maxRecDepth 100000
namespace Go.Proofs.Ytcljkkfpcomdcaa
open Go Go.Vc Go.RowKit Go.Proofs

inductive Sy where
  | schema | name | number | type | field | arm | fields | arms | shut
  | tk (k : Nat) (s : List UInt8)
def syS : Sy → List UInt8
  | .schema => [40, 115, 99, 104, 101, 109, 97, 41]
  | .name => [40, 110, 97, 109, 101, 41]
  | .number => [40, 110, 117, 109, 98, 101, 114, 41]
  | .type => [40, 116, 121, 112, 101, 41]
  | .field => [40, 102, 105, 101, 108, 100, 41]
  | .arm => [40, 97, 114, 109, 41]
  | .fields => [40, 102, 105, 101, 108, 100, 115, 41]
  | .arms => [40, 97, 114, 109, 115, 41]
  | .shut => [40, 115, 104, 117, 116, 41]
  | .tk _ s => s
structure Rd where
  at_ : Nat
  stk : List Sy
  opn : List Nat
  defs : Nat
inductive Ou where
  | er (e : Nat)
  | go (s : Rd)
def insS (t : Tk) : List Sy :=
  if t.text = [118, 101, 99, 116, 111, 114] ∨ t.text = [108, 105, 115, 116] then [.tk 3 [60], .type, .tk 3 [44], .number, .tk 3 [62], .shut]
  else if t.text = [111, 112, 116, 105, 111, 110] then [.tk 3 [60], .type, .tk 3 [62], .shut]
  else if t.text = [117, 110, 105, 111, 110] then [.tk 3 [123], .arm, .arms, .shut]
  else if t.text = [115, 116, 114, 117, 99, 116] then [.tk 3 [123], .field, .fields, .shut]
  else []
def isR (t : Tk) (s : List UInt8) : Bool := !decide (t.kind = 2) && decide (t.text = s)
def bgnR (t : Tk) : Bool := decide (t.kind = 1) && !decide (t.text = [116, 121, 112, 101])
def moreO (o : List Nat) : List Nat := (o.headD 0 + 1) :: o.tail
def stepF (T : List Tk) (i : Nat) (y : Sy) (S : List Sy) (o : List Nat) (d : Nat) : Ou :=
  match y with
  | .shut => .go ⟨i, S, o.tail, d⟩
  | .schema => if i = T.length then .go ⟨i, S, o, d⟩ else if isR (tkA T i) [116, 121, 112, 101] = false then .er 60 else if 256 < d + 1 then .er 5 else .go ⟨i, .tk 1 [116, 121, 112, 101] :: .name :: .tk 3 [61] :: .type :: .tk 3 [59] :: .schema :: S, o, d + 1⟩
  | .type => if i = T.length then .er 60 else if bgnR (tkA T i) = false then .er 60 else if 16 < o.length then .er 61 else .go ⟨i + 1, insS (tkA T i) ++ S, if insS (tkA T i) = [] then o else 0 :: o, d⟩
  | .field => if i = T.length then .er 60 else if nmT (tkA T i) = false then .er 60 else if 64 < o.headD 0 + 1 then .er 5 else .go ⟨i, .name :: .tk 3 [58] :: .type :: S, moreO o, d⟩
  | .arm => if i = T.length then .er 60 else if (tkA T i).kind ≠ 2 then .er 60 else if 64 < o.headD 0 + 1 then .er 5 else .go ⟨i, .number :: .tk 3 [58] :: .type :: S, moreO o, d⟩
  | .fields => if i = T.length then .er 60 else if isR (tkA T i) [44] = true then .go ⟨i, .tk 3 [44] :: .field :: .fields :: S, o, d⟩ else .go ⟨i, .tk 3 [125] :: S, o, d⟩
  | .arms => if i = T.length then .er 60 else if isR (tkA T i) [44] = true then .go ⟨i, .tk 3 [44] :: .arm :: .arms :: S, o, d⟩ else .go ⟨i, .tk 3 [125] :: S, o, d⟩
  | .name => if i = T.length then .er 60 else if nmT (tkA T i) = false then .er 60 else .go ⟨i + 1, S, o, d⟩
  | .number => if i = T.length then .er 60 else if (tkA T i).kind ≠ 2 then .er 60 else .go ⟨i + 1, S, o, d⟩
  | .tk _ s => if i = T.length then .er 60 else if isR (tkA T i) s = false then .er 60 else .go ⟨i + 1, S, o, d⟩
def OkY : Sy → List Nat → Prop
  | .field, o => ∃ k o', o = k :: o' ∧ k ≤ 64
  | .arm, o => ∃ k o', o = k :: o' ∧ k ≤ 64
  | .shut, o => ∃ k o', o = k :: o'
  | .tk _ s, _ => s.head? ≠ some 40
  | _, _ => True
inductive Run (T : List Tk) : Rd → Nat → Nat → Nat → Prop
  | fin {i d : Nat} {o : List Nat} : Run T ⟨i, [], o, d⟩ 0 0 i
  | er {i d e : Nat} {y : Sy} {S : List Sy} {o : List Nat} (h : stepF T i y S o d = .er e) (hk : OkY y o) : Run T ⟨i, y :: S, o, d⟩ 1 e i
  | go {i d e k j : Nat} {y : Sy} {S : List Sy} {o : List Nat} {s : Rd} (h : stepF T i y S o d = .go s) (hr : Run T s k e j) (hk : OkY y o) : Run T ⟨i, y :: S, o, d⟩ (k + 1) e j
def Runs (T : List Tk) (s : Rd) (e j : Nat) : Prop := ∃ k, Run T s k e j
theorem Runs.step {T : List Tk} {i d e j : Nat} {y : Sy} {S : List Sy} {o : List Nat} {s : Rd} (h : stepF T i y S o d = .go s) (hr : Runs T s e j) (hy : OkY y o) : Runs T ⟨i, y :: S, o, d⟩ e j := by
  obtain ⟨k, hk⟩ := hr
  exact ⟨k + 1, .go h hk hy⟩
/-- what a parse says, the machine says -/
def Sim {α : Type} (T : List Tk) (r : Pr α) (s : Rd) (c : Nat → Rd) : Prop := match r with
  | .ok _ j => ∀ e q, Runs T (c j) e q → Runs T s e q
  | .bad e j => Runs T s e j
theorem Sim.bind {α β : Type} {T : List Tk} {r : Pr α} {F : α → Nat → Pr β} {s : Rd} {c c2 : Nat → Rd} (h : Sim T r s c) (hF : ∀ a j, r = .ok a j → Sim T (F a j) (c j) c2) : Sim T (r.bind F) s c2 := by
  cases r with
  | ok a j =>
    have h2 := hF a j rfl
    show Sim T (F a j) s c2
    cases hq : F a j with
    | ok b q => rw [hq] at h2; exact fun e p hp => h e p (h2 e p hp)
    | bad e q => rw [hq] at h2; exact h e q h2
  | bad e j => exact h
theorem Sim.go {α : Type} {T : List Tk} {r : Pr α} {i d : Nat} {y : Sy} {S : List Sy} {o : List Nat} {s : Rd} {c : Nat → Rd} (hs : stepF T i y S o d = .go s) (h : Sim T r s c) (hy : OkY y o := by trivial) : Sim T r ⟨i, y :: S, o, d⟩ c := by
  cases r with
  | ok b q => exact fun e p hp => Runs.step hs (h e p hp) hy
  | bad e q => exact Runs.step hs h hy
theorem Sim.er {α : Type} {T : List Tk} {i d e : Nat} {y : Sy} {S : List Sy} {o : List Nat} {c : Nat → Rd} (hs : stepF T i y S o d = .er e) (hy : OkY y o := by trivial) : Sim T (.bad e i : Pr α) ⟨i, y :: S, o, d⟩ c := ⟨1, .er hs hy⟩
theorem Sim.ok {α : Type} {T : List Tk} {a : α} {j : Nat} {s : Rd} {c : Nat → Rd} (h : c j = s) : Sim T (.ok a j) s c := fun e q hq => h ▸ hq
end Go.Proofs.Ytcljkkfpcomdcaa

set_option linter.unusedSimpArgs false
set_option linter.unusedVariables false
set_option maxRecDepth 100000
namespace Go.Proofs.Ytcljkkfpcomdcaa
open Go Go.Vc Go.RowKit Go.Proofs
def sySt (y : Sy) : Value := st (syS y)
structure RdM (w : World) (H p : Nat) (lv sv ov : Value) (T : List Tk) (s : Rd) : Prop where
  cell : w.heap[p]? = some (.cells #[lv, .int .i64 (s.at_ : Int), sv, ov, .int .i64 (s.defs : Int)] 92 (0, 0))
  toks : w.ownsRow 0 58 5 lv T.length (flat T)
  stk : w.ownsRow H 9 1 sv s.stk.length (s.stk.reverse.map sySt)
  opn : w.ownsRow H 3 1 ov s.opn.length (s.opn.reverse.map (fun k : Nat => Value.int .i64 (k : Int)))
  hp : H ≤ p
  lt : ∀ b, lv.ownBlock = some b → b < H
  le : H ≤ w.heap.size
theorem RdM.ext {w w' : World} {H p : Nat} {lv sv ov : Value} {T : List Tk} {s : Rd} (h : RdM w H p lv sv ov T s) (ho : Ext w w') : RdM w' H p lv sv ov T s :=
  ⟨ho.blk h.cell (fun h => h), own_ext h.toks ho, own_ext h.stk ho, own_ext h.opn ho, h.hp, h.lt, Nat.le_trans h.le ho.size⟩
theorem RdM.sp {w : World} {H p : Nat} {lv sv ov : Value} {T : List Tk} {s : Rd} (h : RdM w H p lv sv ov T s) : ¬ sv.ownBlock = some p := own_off h.stk h.cell (by decide)
theorem RdM.op {w : World} {H p : Nat} {lv sv ov : Value} {T : List Tk} {s : Rd} (h : RdM w H p lv sv ov T s) : ¬ ov.ownBlock = some p := own_off h.opn h.cell (by decide)
/-- the cell is written -/
theorem RdM.put {w w' : World} {H p i d : Nat} {lv sv ov sv2 ov2 : Value} {T : List Tk} {s : Rd} {S : List Sy} {o : List Nat} (h : RdM w H p lv sv ov T s) (hc : w'.heap[p]? = some (.cells #[lv, .int .i64 (i : Int), sv2, ov2, .int .i64 (d : Int)] 92 (0, 0))) (ho : Only (fun k => k = p) w w')
    (hs : w.ownsRow H 9 1 sv2 S.length (S.reverse.map sySt)) (hn : w.ownsRow H 3 1 ov2 o.length (o.reverse.map (fun k : Nat => Value.int .i64 (k : Int)))) : RdM w' H p lv sv2 ov2 T ⟨i, S, o, d⟩ :=
  ⟨hc, own_only h.toks ho (fun k hk he => by subst he; have := h.lt k hk; have := h.hp; omega), own_only hs ho (fun k hk he => by subst he; exact own_off hs h.cell (by decide) hk), own_only hn ho (fun k hk he => by subst he; exact own_off hn h.cell (by decide) hk), h.hp, h.lt, Nat.le_trans h.le ho.size⟩
end Go.Proofs.Ytcljkkfpcomdcaa

set_option linter.unusedSimpArgs false
set_option linter.unusedVariables false
set_option maxRecDepth 100000
namespace Go.Proofs.Ytcljkkfpcomdcaa
open Go Go.Vc Go.RowKit Go.Proofs

theorem RdM.hO {w w' : World} {H p : Nat} {lv sv ov : Value} {T : List Tk} {s : Rd} (h : RdM w H p lv sv ov T s) {w0 : World} (hO : Only (fun k => H ≤ k) w0 w) (ho : Only (fun k => k = p) w w') : Only (fun k => H ≤ k) w0 w' := hO.trans' ho (fun _ h => h) (fun k _ he => by subst he; exact h.hp)
theorem RdM.cl {w : World} {H p : Nat} {lv sv ov : Value} {T : List Tk} {i d : Nat} {S : List Sy} {o : List Nat} (h : RdM w H p lv sv ov T ⟨i, S, o, d⟩) : w.heap[p]? = some (.cells #[lv, .int .i64 (i : Int), sv, ov, .int .i64 (d : Int)] 92 (0, 0)) := h.cell
theorem RdM.on {w : World} {H p : Nat} {lv sv ov : Value} {T : List Tk} {i d : Nat} {S : List Sy} {o : List Nat} (h : RdM w H p lv sv ov T ⟨i, S, o, d⟩) : w.ownsRow H 3 1 ov o.length (o.reverse.map (fun k : Nat => Value.int .i64 (k : Int))) := h.opn
theorem RdM.sn {w : World} {H p : Nat} {lv sv ov : Value} {T : List Tk} {i d : Nat} {S : List Sy} {o : List Nat} (h : RdM w H p lv sv ov T ⟨i, S, o, d⟩) : w.ownsRow H 9 1 sv S.length (S.reverse.map sySt) := h.stk
end Go.Proofs.Ytcljkkfpcomdcaa

set_option linter.unusedSimpArgs false
set_option linter.unusedVariables false
set_option maxRecDepth 100000
namespace Go.Proofs.Ytcljkkfpcomdcaa
open Go Go.Vc Go.RowKit Go.Proofs

def mk8 : List (List UInt8) := [[61], [59], [60], [62], [44], [58], [123], [125]]
def wt : Sy → Nat
  | .schema => 0
  | .shut => 0
  | .name => 1
  | .number => 1
  | .type => 1
  | .field => 3
  | .arm => 3
  | .fields => 1
  | .arms => 1
  | .tk _ _ => 1
def wtS : List Sy → Nat
  | [] => 0
  | y :: S => wt y + wtS S
def shuts : List Sy → Nat
  | [] => 0
  | .shut :: S => shuts S + 1
  | _ :: S => shuts S
def okS : Nat → List Sy → Prop
  | _, [] => True
  | _, .shut :: S => okS 5 S
  | _, .schema :: S => S = []
  | b, .fields :: S => 1 ≤ b ∧ (∃ S', S = .shut :: S') ∧ okS (b - 1) S
  | b, .arms :: S => 1 ≤ b ∧ (∃ S', S = .shut :: S') ∧ okS (b - 1) S
  | b, .field :: S => 3 ≤ b ∧ 0 < shuts S ∧ okS (b - 3) S
  | b, .arm :: S => 3 ≤ b ∧ 0 < shuts S ∧ okS (b - 3) S
  | b, .tk k s :: S => k = 3 ∧ s ∈ mk8 ∧ 1 ≤ b ∧ okS (b - 1) S
  | b, .name :: S => 1 ≤ b ∧ okS (b - 1) S
  | b, .number :: S => 1 ≤ b ∧ okS (b - 1) S
  | b, .type :: S => 1 ≤ b ∧ okS (b - 1) S
inductive Rch (T : List Tk) : Rd → Rd → Prop
  | refl {s : Rd} : Rch T s s
  | step {i d : Nat} {y : Sy} {S : List Sy} {o : List Nat} {s s2 : Rd} (h : stepF T i y S o d = .go s) (hy : OkY y o) (hn : ¬ (y = .schema ∧ i = T.length)) (hi : i ≤ T.length) (hr : Rch T s s2) : Rch T ⟨i, y :: S, o, d⟩ s2
theorem Rch.trans {T : List Tk} {a b c : Rd} (h : Rch T a b) (k : Rch T b c) : Rch T a c := by
  induction h with
  | refl => exact k
  | step h hy hn hi _ ih => exact .step h hy hn hi (ih k)
theorem tkA_app {T : List Tk} {t : Tk} {i : Nat} (h : i < T.length) : tkA (T ++ [t]) i = tkA T i := by
  rw [tkA, List.getD_eq_getElem?_getD, List.getElem?_append_left h, tkA, List.getD_eq_getElem?_getD]
theorem step_app {T : List Tk} {t : Tk} {i d : Nat} {y : Sy} {S : List Sy} {o : List Nat} {s : Rd} (h : stepF T i y S o d = .go s) (hn : ¬ (y = .schema ∧ i = T.length)) (hi : i ≤ T.length) : stepF (T ++ [t]) i y S o d = .go s := by
  by_cases he : i = T.length
  · cases y <;> simp only [stepF, if_pos he] at h <;> first | (cases h; done) | exact h | exact absurd ⟨rfl, he⟩ hn
  · have hl : i < T.length := by omega
    have h1 : ¬ i = (T ++ [t]).length := by simp; omega
    cases y <;> simp only [stepF, if_neg he, if_neg h1, tkA_app hl] at h ⊢ <;> exact h
theorem Rch.app {T : List Tk} {t : Tk} {a b : Rd} (h : Rch T a b) : Rch (T ++ [t]) a b := by
  induction h with
  | refl => exact .refl
  | step h hy hn hi _ ih => exact .step (step_app h hn hi) hy (fun hh => by have := hh.2; simp at this; omega) (by simp; omega) ih
/-- a state at the end that something must follow -/
structure StkE (y : Sy) (S : List Sy) (o : List Nat) : Prop where
  pos : 0 < wt y
  ok : okS 5 (y :: S)
  sh : shuts (y :: S) = o.length
  len : o.length ≤ 17
  val : ∀ k ∈ o, k ≤ 64
theorem StkE.oky {y : Sy} {S : List Sy} {o : List Nat} (h : StkE y S o) : OkY y o := by
  obtain ⟨hp, hok, hsh, hln, hvl⟩ := h
  have h1 : 0 < shuts S → shuts S = o.length → ∃ k o', o = k :: o' ∧ k ≤ 64 := fun h1 h2 => by
    cases o with
    | nil => simp only [List.length_nil] at h2; omega
    | cons k o => exact ⟨k, o, rfl, hvl k (List.mem_cons_self ..)⟩
  cases y <;> simp only [wt] at hp <;> simp only [okS] at hok <;> simp only [shuts] at hsh <;> simp only [OkY]
  case field => exact h1 hok.2.1 hsh
  case arm => exact h1 hok.2.1 hsh
  case tk k s => obtain ⟨-, h, -⟩ := hok; simp only [mk8, List.mem_cons, List.not_mem_nil, or_false] at h; rcases h with rfl | rfl | rfl | rfl | rfl | rfl | rfl | rfl <;> decide
  all_goals omega
/-- .. at the end, with nothing that must follow, it is done; else it is stuck -/
theorem settle {T : List Tk} : ∀ (S : List Sy) (o : List Nat) (d : Nat), okS 5 S → shuts S = o.length → o.length ≤ 17 → (∀ k ∈ o, k ≤ 64) → Runs T ⟨T.length, S, o, d⟩ 0 T.length ∨ ∃ y S' o', StkE y S' o' ∧ wtS (y :: S') ≤ wtS S ∧ Rch T ⟨T.length, S, o, d⟩ ⟨T.length, y :: S', o', d⟩ ∧ Runs T ⟨T.length, S, o, d⟩ 60 T.length
  | [], o, d, _, _, _, _ => .inl ⟨0, .fin⟩
  | y :: S, o, d, hok, hsh, hln, hvl => by
    by_cases hp : 0 < wt y
    · refine .inr ⟨y, S, o, ⟨hp, hok, hsh, hln, hvl⟩, Nat.le_refl _, .refl, ?_⟩
      refine ⟨1, .er ?_ (StkE.oky ⟨hp, hok, hsh, hln, hvl⟩)⟩
      cases y <;> first | (simp [stepF]; done) | (simp only [wt] at hp; omega)
    · cases y <;> simp only [wt] at hp <;> first | omega | skip
      · simp only [okS] at hok
        subst hok
        exact .inl ⟨1, .go (s := ⟨T.length, [], o, d⟩) (by simp [stepF]) .fin trivial⟩
      · simp only [okS] at hok
        simp only [shuts] at hsh
        cases o with
        | nil => simp only [List.length_nil] at hsh; omega
        | cons k o =>
          have hst : stepF T T.length .shut S (k :: o) d = .go ⟨T.length, S, o, d⟩ := rfl
          rcases settle S o d hok (by simpa using hsh) (by simp only [List.length_cons] at hln; omega) (fun m hm => hvl m (List.mem_cons_of_mem _ hm)) with h | ⟨y, S', o', h1, h2, h3, h4⟩
          · exact .inl (Runs.step hst h ⟨_, _, rfl⟩)
          · exact .inr ⟨y, S', o', h1, by simp only [wtS, wt] at h2 ⊢; omega, .step hst ⟨_, _, rfl⟩ (fun h => by cases h.1) (Nat.le_refl _) h3, Runs.step hst h4 ⟨_, _, rfl⟩⟩
end Go.Proofs.Ytcljkkfpcomdcaa

set_option linter.unusedSimpArgs false
set_option linter.unusedVariables false
set_option maxRecDepth 100000
namespace Go.Proofs.Ytcljkkfpcomdcaa
open Go Go.Vc Go.RowKit Go.Proofs

mutual
inductive Tr where
  | node (y : Ex) (ks : Trs)
inductive Trs where
  | nil
  | cons (t : Tr) (ts : Trs)
end
def Tr.top : Tr → Ex
  | .node y _ => y
def Trs.len : Trs → Nat
  | .nil => 0
  | .cons _ ts => ts.len + 1
mutual
def Tr.flat : Tr → List Ex
  | .node y ks => y :: ks.flat
def Trs.flat : Trs → List Ex
  | .nil => []
  | .cons t ts => t.flat ++ ts.flat
end
mutual
def Tr.wf (above : Int) (deep : Nat) : Tr → Prop
  | .node y ks => deep ≤ 16 ∧ manyB y = false ∧ rightB y above = true ∧ (ks.len : Int) = y.kids ∧ ks.wf y.kind (deep + 1)
def Trs.wf (above : Int) (deep : Nat) : Trs → Prop
  | .nil => True
  | .cons t ts => t.wf above deep ∧ ts.wf above deep
end
abbrev Key := Nat × List UInt8 × Nat
def kN (s : List UInt8) : Key := (1, s, 0)
def kM (s : List UInt8) : Key := (3, s, 0)
def kD (n : Nat) : Key := (2, [], n)
def uWord (n : Int) : List UInt8 := if n = 1 then [117, 56] else if n = 2 then [117, 49, 54] else if n = 4 then [117, 51, 50] else [117, 54, 52]
def hdK (u : Bool) (y : Ex) : List Key := [if u then kD y.tag.toNat else kN y.label, kM [58]]
mutual
def Tr.keys : Tr → List Key
  | .node y ks =>
    if y.kind = 1 then [kN (uWord y.n)]
    else if y.kind = 2 then [kN [98, 111, 111, 108]]
    else if y.kind = 3 then [kN [118, 97, 114, 105, 110, 116]]
    else if y.kind = 9 then [kN y.name]
    else if y.kind = 4 ∨ y.kind = 5 then kN (if y.kind = 5 then [108, 105, 115, 116] else [118, 101, 99, 116, 111, 114]) :: kM [60] :: (ks.keys ++ [kM [44], kD y.n.toNat, kM [62]])
    else if y.kind = 6 then kN [111, 112, 116, 105, 111, 110] :: kM [60] :: (ks.keys ++ [kM [62]])
    else kN (if y.kind = 7 then [117, 110, 105, 111, 110] else [115, 116, 114, 117, 99, 116]) :: kM [123] :: (ks.rows (decide (y.kind = 7)) ++ [kM [125]])
/-- of types one behind the other -/
def Trs.keys : Trs → List Key
  | .nil => []
  | .cons t ts => t.keys ++ ts.keys
/-- of rows, a comma ahead of each but the first -/
def Trs.rows (u : Bool) : Trs → List Key
  | .nil => []
  | .cons t ts => hdK u t.top ++ t.keys ++ ts.more u
def Trs.more (u : Bool) : Trs → List Key
  | .nil => []
  | .cons t ts => kM [44] :: (hdK u t.top ++ t.keys ++ ts.more u)
end

end Go.Proofs.Ytcljkkfpcomdcaa

set_option linter.unusedSimpArgs false
set_option linter.unusedVariables false
set_option maxRecDepth 100000
namespace Go.Proofs.Ytcljkkfpcomdcaa
open Go Go.Vc Go.RowKit Go.Proofs

mutual
def Tr.idx (i a : Nat) : Tr → List Ex
  | .node y ks => { y with at_ := (a : Int) } :: (if y.kind = 7 ∨ y.kind = 8 then ks.idxR (i + 2) else ks.idxK (i + 2))
def Trs.idxK (i : Nat) : Trs → List Ex
  | .nil => []
  | .cons t ts => t.idx i i ++ ts.idxK (i + t.keys.length)
def Trs.idxR (i : Nat) : Trs → List Ex
  | .nil => []
  | .cons t ts => t.idx (i + 2) i ++ ts.idxR (i + 2 + t.keys.length + 1)
end
def AtK (T : List Tk) (i : Nat) (ks : List Key) : Prop := ∀ k (h : k < ks.length), tkey (tkA T (i + k)) = ks[k]
theorem AtK.cons {T : List Tk} {i : Nat} {a : Key} {ks : List Key} (h : AtK T i (a :: ks)) : tkey (tkA T i) = a ∧ AtK T (i + 1) ks :=
  ⟨h 0 (by simp), fun k hk => by have := h (k + 1) (by simpa using hk); rw [show i + 1 + k = i + (k + 1) by omega]; exact this⟩
theorem AtK.app {T : List Tk} {i : Nat} {a b : List Key} (h : AtK T i (a ++ b)) : AtK T i a ∧ AtK T (i + a.length) b :=
  ⟨fun k hk => by have := h k (by rw [List.length_append]; omega); rw [this, List.getElem_append_left hk], fun k hk => by
    have := h (a.length + k) (by rw [List.length_append]; omega)
    rw [Nat.add_assoc, this, List.getElem_append_right (by omega)]; simp⟩
theorem key_N {t : Tk} {s : List UInt8} (h : tkey t = kN s) : t.kind = 1 ∧ t.text = s ∧ t.n = 0 := by
  simp only [tkey, kN, Prod.mk.injEq] at h; exact h
theorem key_M {t : Tk} {s : List UInt8} (h : tkey t = kM s) : isT t 3 s = true := by
  simp only [tkey, kM, Prod.mk.injEq] at h; simp [isT, h.1, h.2.1]
theorem key_D {t : Tk} {n : Nat} (h : tkey t = kD n) : t.kind = 2 ∧ t.n = n := by
  simp only [tkey, kD, Prod.mk.injEq] at h; exact ⟨h.1, h.2.2⟩
theorem more_rows {u : Bool} {t : Tr} {ts : Trs} : (Trs.cons t ts).more u = kM [44] :: (Trs.cons t ts).rows u := rfl
theorem name_not {s : List UInt8} (h : nameB s = true) : leafE s = none ∧ ¬ (s = [118, 101, 99, 116, 111, 114] ∨ s = [108, 105, 115, 116]) ∧ ¬ s = [111, 112, 116, 105, 111, 110] ∧ ¬ s = [117, 110, 105, 111, 110] ∧ ¬ s = [115, 116, 114, 117, 99, 116] := by
  have h2 : ∀ x ∈ words, ¬ s = x := fun x hx he => by
    subst he
    have : wordB s = true := decide_eq_true hx
    simp [nameB, this] at h
  refine ⟨?_, ?_, h2 _ (by decide), h2 _ (by decide), h2 _ (by decide)⟩
  · unfold leafE
    rw [if_neg (h2 _ (by decide)), if_neg (h2 _ (by decide)), if_neg (h2 _ (by decide)), if_neg (h2 _ (by decide)), if_neg (h2 _ (by decide)), if_neg (h2 _ (by decide))]
  · exact fun h => h.elim (h2 _ (by decide)) (h2 _ (by decide))
theorem okB_cases {x : Ex} (h : okB x = true) : (x.kind = 1 ∧ (x.n = 1 ∨ x.n = 2 ∨ x.n = 4 ∨ x.n = 8) ∧ x.kids = 0) ∨ ((x.kind = 2 ∨ x.kind = 3 ∨ x.kind = 9) ∧ x.n = 0 ∧ x.kids = 0) ∨ ((x.kind = 4 ∨ x.kind = 5) ∧ 0 ≤ x.n ∧ x.n ≤ 2147483647 ∧ x.kids = 1) ∨ (x.kind = 6 ∧ x.n = 0 ∧ x.kids = 1) ∨ ((x.kind = 7 ∨ x.kind = 8) ∧ x.n = 0 ∧ 1 ≤ x.kids) := by
  unfold okB at h
  repeat' split at h
  all_goals first | (cases h; done) | (simp only [Bool.and_eq_true, Bool.or_eq_true, decide_eq_true_eq] at h; omega)
theorem trs_one {ts : Trs} (h : ts.len = 1) : ∃ t, ts = .cons t .nil := by
  cases ts with
  | nil => cases h
  | cons t ts => cases ts with
    | nil => exact ⟨t, rfl⟩
    | cons t2 ts2 => simp only [Trs.len] at h; omega
theorem trs_nil {ts : Trs} (h : ts.len = 0) : ts = .nil := by
  cases ts with
  | nil => rfl
  | cons t ts => simp only [Trs.len] at h; omega
theorem rightB_iff {x : Ex} {a : Int} (h : rightB x a = true) : okB x = true ∧ namB x = true ∧ labB x a = true ∧ tagB x a = true := by
  simp only [rightB, Bool.and_eq_true] at h; exact ⟨h.1.1.1, h.1.1.2, h.1.2, h.2⟩
mutual
theorem px_tr {T : List Tk} : ∀ (t : Tr) (above : Int) (deep i a : Nat) (x : Ex), t.wf above deep → AtK T i t.keys → atE i x = ⟨0, 0, [], t.top.label, t.top.tag, 0, (a : Int)⟩ → PX T none deep i x (t.idx i a) 0 (i + t.keys.length)
  | .node y ks, above, deep, i, a, x, hw, hk, hx => by
    obtain ⟨hd, hm, hr, hl, hks⟩ := hw
    obtain ⟨hok, hnm, -, -⟩ := rightB_iff hr
    simp only [Tr.top] at hx
    rcases okB_cases hok with ⟨k1, hn, k0⟩ | ⟨k1, hn, k0⟩ | ⟨k1, hn, hn2, k0⟩ | ⟨k1, hn, k0⟩ | ⟨k1, hn, k0⟩
    · have hnil := trs_nil (ts := ks) (by omega)
      subst hnil
      simp only [Tr.keys, if_pos k1] at hk ⊢
      obtain ⟨h1, h2, -⟩ := key_N hk.cons.1
      have hname : y.name = [] := by unfold namB at hnm; rw [if_neg (by omega)] at hnm; simpa using hnm
      have hlf : leafE (tkA T i).text = some (1, y.n) := by rw [h2]; rcases hn with e | e | e | e <;> (rw [e]; rfl)
      have hb : bgnT (tkA T i) = true := by simp [bgnT, h1, hlf]
      have hN : [(atE i x).lf 1 y.n] = Tr.idx i a (.node y .nil) := by
        rw [hx]; obtain ⟨a1, a2, a3, a4, a5, a6, a7⟩ := y
        simp only at k1 k0 hname; subst k1 k0 hname; simp [Tr.idx, Trs.idxK, Ex.lf]
      rw [← hN]
      exact .leaf (kn := (1, y.n)) hb hd hlf
    · have hnil := trs_nil (ts := ks) (by omega)
      subst hnil
      rcases k1 with k1 | k1 | k1
      · simp only [Tr.keys, if_neg (show ¬ y.kind = 1 by omega), if_pos k1] at hk ⊢
        obtain ⟨h1, h2, -⟩ := key_N hk.cons.1
        have hname : y.name = [] := by unfold namB at hnm; rw [if_neg (by omega)] at hnm; simpa using hnm
        have hlf : leafE (tkA T i).text = some (2, 0) := by rw [h2]; rfl
        have hb : bgnT (tkA T i) = true := by simp [bgnT, h1, hlf]
        have hN : [(atE i x).lf 2 0] = Tr.idx i a (.node y .nil) := by
          rw [hx]; obtain ⟨a1, a2, a3, a4, a5, a6, a7⟩ := y
          simp only at k1 k0 hname hn; subst k1 k0 hname hn; simp [Tr.idx, Trs.idxK, Ex.lf]
        rw [← hN]
        exact .leaf (kn := (2, 0)) hb hd hlf
      · simp only [Tr.keys, if_neg (show ¬ y.kind = 1 by omega), if_neg (show ¬ y.kind = 2 by omega), if_pos k1] at hk ⊢
        obtain ⟨h1, h2, -⟩ := key_N hk.cons.1
        have hname : y.name = [] := by unfold namB at hnm; rw [if_neg (by omega)] at hnm; simpa using hnm
        have hlf : leafE (tkA T i).text = some (3, 0) := by rw [h2]; rfl
        have hb : bgnT (tkA T i) = true := by simp [bgnT, h1, hlf]
        have hN : [(atE i x).lf 3 0] = Tr.idx i a (.node y .nil) := by
          rw [hx]; obtain ⟨a1, a2, a3, a4, a5, a6, a7⟩ := y
          simp only at k1 k0 hname hn; subst k1 k0 hname hn; simp [Tr.idx, Trs.idxK, Ex.lf]
        rw [← hN]
        exact .leaf (kn := (3, 0)) hb hd hlf
      · simp only [Tr.keys, if_neg (show ¬ y.kind = 1 by omega), if_neg (show ¬ y.kind = 2 by omega), if_neg (show ¬ y.kind = 3 by omega), if_pos k1] at hk ⊢
        obtain ⟨h1, h2, -⟩ := key_N hk.cons.1
        have hname : nameB y.name = true := by unfold namB at hnm; rw [if_pos k1] at hnm; exact hnm
        obtain ⟨n1, n2, n3, n4, n5⟩ := name_not hname
        have hb : bgnT (tkA T i) = true := by simp [bgnT, h1, h2, hname]
        have hN : [(atE i x).nm (tkA T i).text] = Tr.idx i a (.node y .nil) := by
          rw [hx, h2]; obtain ⟨a1, a2, a3, a4, a5, a6, a7⟩ := y
          simp only at k1 k0 hn; subst k1 k0 hn; simp [Tr.idx, Trs.idxK, Ex.nm]
        rw [← hN]
        exact .nm hb hd (by rw [h2]; exact n1) (by rw [h2]; exact n2) (by rw [h2]; exact n3) (by rw [h2]; exact n4) (by rw [h2]; exact n5)
    · obtain ⟨t, rfl⟩ := trs_one (ts := ks) (by omega)
      simp only [Tr.keys, if_neg (show ¬ y.kind = 1 by omega), if_neg (show ¬ y.kind = 2 by omega), if_neg (show ¬ y.kind = 3 by omega), if_neg (show ¬ y.kind = 9 by omega), if_pos k1, Trs.keys, List.append_nil] at hk ⊢
      obtain ⟨q1, hk⟩ := hk.cons
      obtain ⟨q2, hk⟩ := hk.cons
      obtain ⟨hkt, hk⟩ := hk.app
      obtain ⟨q3, hk⟩ := hk.cons
      obtain ⟨q4, hk⟩ := hk.cons
      obtain ⟨q5, -⟩ := hk.cons
      obtain ⟨h1, h2, -⟩ := key_N q1
      obtain ⟨d1, d2⟩ := key_D q4
      have hv : (tkA T i).text = [118, 101, 99, 116, 111, 114] ∨ (tkA T i).text = [108, 105, 115, 116] := by rw [h2]; by_cases e : y.kind = 5 <;> simp [e]
      have hlf : leafE (tkA T i).text = none := by rcases hv with e | e <;> (rw [e]; rfl)
      have hb : bgnT (tkA T i) = true := by rcases hv with e | e <;> simp [bgnT, h1, e]
      have hname : y.name = [] := by unfold namB at hnm; rw [if_neg (by omega)] at hnm; simpa using hnm
      have hkid := px_tr t y.kind (deep + 1) (i + 2) (i + 2) exM hks.1 hkt (by
        obtain ⟨-, -, g1, g2⟩ := rightB_iff (show rightB t.top y.kind = true by cases t; exact hks.1.2.2.1)
        unfold labB at g1; rw [if_neg (by omega)] at g1
        have e1 : t.top.label = [] := by simpa using g1
        have e2 : t.top.tag = 0 := by
          unfold tagB at g2
          simp only [Bool.or_eq_true, Bool.and_eq_true, decide_eq_true_eq] at g2
          rcases g2 with g2 | g2
          · exact g2
          · omega
        rw [e1, e2]; rfl)
      have hN : (atE i x).vec (decide ((tkA T i).text = [108, 105, 115, 116])) (tkA T (i + 2 + t.keys.length + 1)).n :: t.idx (i + 2) (i + 2) = Tr.idx i a (.node y (.cons t .nil)) := by
        have hdl : decide ((tkA T i).text = [108, 105, 115, 116]) = decide (y.kind = 5) := by rw [h2]; by_cases e : y.kind = 5 <;> simp [e]
        rw [hdl, d2, hx]
        simp only [Tr.idx, Trs.idxK, if_neg (show ¬ (y.kind = 7 ∨ y.kind = 8) by omega), List.append_nil, Ex.vec]
        congr 1
        obtain ⟨a1, a2, a3, a4, a5, a6, a7⟩ := y
        simp only at k1 k0 hname hn hn2 ⊢
        subst k0 hname
        rw [Ex.mk.injEq]
        refine ⟨?_, by omega, rfl, rfl, rfl, rfl, rfl⟩
        rcases k1 with e | e <;> simp [e]
      rw [← hN]
      have := PX.vec (x := x) hb hd hlf hv (key_M q2) hkid (key_M q3) d1 (key_M q5)
      simp only [List.length_cons, List.length_append, List.length_nil]
      rw [show i + (t.keys.length + (0 + 1 + 1 + 1) + 1 + 1) = i + 2 + t.keys.length + 3 by omega]
      exact this
    · obtain ⟨t, rfl⟩ := trs_one (ts := ks) (by omega)
      simp only [Tr.keys, if_neg (show ¬ y.kind = 1 by omega), if_neg (show ¬ y.kind = 2 by omega), if_neg (show ¬ y.kind = 3 by omega), if_neg (show ¬ y.kind = 9 by omega), if_neg (show ¬ (y.kind = 4 ∨ y.kind = 5) by omega), if_pos k1, Trs.keys, List.append_nil] at hk ⊢
      obtain ⟨q1, hk⟩ := hk.cons
      obtain ⟨q2, hk⟩ := hk.cons
      obtain ⟨hkt, hk⟩ := hk.app
      obtain ⟨q3, -⟩ := hk.cons
      obtain ⟨h1, h2, -⟩ := key_N q1
      have hlf : leafE (tkA T i).text = none := by rw [h2]; rfl
      have hb : bgnT (tkA T i) = true := by simp [bgnT, h1, h2]
      have hname : y.name = [] := by unfold namB at hnm; rw [if_neg (by omega)] at hnm; simpa using hnm
      have hkid := px_tr t y.kind (deep + 1) (i + 2) (i + 2) exM hks.1 hkt (by
        obtain ⟨-, -, g1, g2⟩ := rightB_iff (show rightB t.top y.kind = true by cases t; exact hks.1.2.2.1)
        unfold labB at g1; rw [if_neg (by omega)] at g1
        have e1 : t.top.label = [] := by simpa using g1
        have e2 : t.top.tag = 0 := by
          unfold tagB at g2
          simp only [Bool.or_eq_true, Bool.and_eq_true, decide_eq_true_eq] at g2
          rcases g2 with g2 | g2
          · exact g2
          · omega
        rw [e1, e2]; rfl)
      have hN : (atE i x).opt :: t.idx (i + 2) (i + 2) = Tr.idx i a (.node y (.cons t .nil)) := by
        rw [hx]
        simp only [Tr.idx, Trs.idxK, if_neg (show ¬ (y.kind = 7 ∨ y.kind = 8) by omega), List.append_nil, Ex.opt]
        congr 1
        obtain ⟨a1, a2, a3, a4, a5, a6, a7⟩ := y
        simp only at k1 k0 hname hn ⊢
        subst k0 hname hn k1
        rfl
      rw [← hN]
      have := PX.opt (x := x) hb hd hlf h2 (key_M q2) hkid (key_M q3)
      simp only [List.length_cons, List.length_append, List.length_nil]
      rw [show i + (t.keys.length + (0 + 1) + 1 + 1) = i + 2 + t.keys.length + 1 by omega]
      exact this
    · have hm64 : y.kids ≤ 64 := (rightB_kids hr hm).2
      obtain ⟨u, hu⟩ : ∃ u : Bool, u = decide (y.kind = 7) := ⟨_, rfl⟩
      have hku : y.kind = if u then 7 else 8 := by rcases k1 with e | e <;> simp [hu, e]
      simp only [Tr.keys, if_neg (show ¬ y.kind = 1 by omega), if_neg (show ¬ y.kind = 2 by omega), if_neg (show ¬ y.kind = 3 by omega), if_neg (show ¬ y.kind = 9 by omega), if_neg (show ¬ (y.kind = 4 ∨ y.kind = 5) by omega), if_neg (show ¬ y.kind = 6 by omega), ← hu] at hk ⊢
      obtain ⟨q1, hk⟩ := hk.cons
      obtain ⟨q2, hk⟩ := hk.cons
      obtain ⟨h1, h2, -⟩ := key_N q1
      have hw2 : (tkA T i).text = if u then [117, 110, 105, 111, 110] else [115, 116, 114, 117, 99, 116] := by rw [h2]; rcases k1 with e | e <;> simp [hu, e]
      have hlf : leafE (tkA T i).text = none := by rw [hw2]; cases u <;> rfl
      have hb : bgnT (tkA T i) = true := by rw [bgnT, hw2]; cases u <;> simp [h1]
      have hname : y.name = [] := by unfold namB at hnm; rw [if_neg (by omega)] at hnm; simpa using hnm
      have hrow := px_trs ks u deep (i + 2) 0 (fun e => by rw [e] at hl; simp only [Trs.len] at hl; omega) (by omega) (by rw [← hku]; exact hks) hk
      have hN : (atE i x).br u ((0 + ks.len : Nat) : Int) :: ks.idxR (i + 2) = Tr.idx i a (.node y ks) := by
        rw [hx]
        simp only [Tr.idx, if_pos k1, Ex.br]
        congr 1
        obtain ⟨a1, a2, a3, a4, a5, a6, a7⟩ := y
        simp only at k1 k0 hname hn hku hl ⊢
        subst hname hn
        rw [Ex.mk.injEq]
        exact ⟨hku.symm, rfl, rfl, rfl, rfl, by omega, rfl⟩
      rw [← hN]
      have := PX.br (x := x) u hb hd hlf hw2 (key_M q2) hrow
      simp only [List.length_cons, List.length_append, List.length_nil]
      rw [show i + ((ks.rows u).length + (0 + 1) + 1 + 1) = i + 2 + (ks.rows u).length + 1 by omega]
      exact this
theorem px_trs {T : List Tk} : ∀ (ts : Trs) (u : Bool) (deep i k : Nat), ts ≠ .nil → k + ts.len ≤ 64 → ts.wf (if u then 7 else 8) (deep + 1) → AtK T i (ts.rows u ++ [kM [125]]) → PX T (some (u, k)) deep i ex0 (ts.idxR i) (k + ts.len) (i + (ts.rows u).length + 1)
  | .nil, u, deep, i, k, hne, _, _, _ => absurd rfl hne
  | .cons t ts, u, deep, i, k, hne, hlen, hw, hk => by
    simp only [Trs.rows, List.append_assoc] at hk ⊢
    obtain ⟨hkh, hk⟩ := hk.app
    have hhl : (hdK u t.top).length = 2 := rfl
    rw [hhl] at hk
    obtain ⟨hkt, hk⟩ := hk.app
    have q1 := hkh.cons.1
    have q2 := hkh.cons.2.cons.1
    have hrt := rightB_iff (show rightB t.top (if u then 7 else 8) = true by cases t; exact hw.1.2.2.1)
    obtain ⟨-, -, g1, g2⟩ := hrt
    have hh : hdOk T u i := by
      cases u
      · obtain ⟨e1, e2, -⟩ := key_N q1
        unfold labB at g1
        have g1 : nameB t.top.label = true := by simpa using g1
        show nmT (tkA T i) = true
        simp [nmT, e1, e2, g1]
      · exact (key_D q1).1
    have hx : atE (i + 2) (hdE T u i) = ⟨0, 0, [], t.top.label, t.top.tag, 0, (i : Int)⟩ := by
      have ha : ¬ ((i : Int)) < 0 := by omega
      cases u
      · obtain ⟨e1, e2, -⟩ := key_N q1
        have e3 : t.top.tag = 0 := by
          unfold tagB at g2
          simpa using g2
        simp only [atE, hdE, ex0, ha, if_false, Bool.false_eq_true, e2, e3]
      · obtain ⟨e1, e2⟩ := key_D q1
        have e3 : t.top.label = [] := by unfold labB at g1; simpa using g1
        have e4 : (t.top.tag.toNat : Int) = t.top.tag := by
          unfold tagB at g2
          simp only [Bool.or_eq_true, Bool.and_eq_true, decide_eq_true_eq] at g2
          omega
        simp only [atE, hdE, ex0, ha, if_false, if_true, e2, e3, e4]
    have hkid := px_tr t _ (deep + 1) (i + 2) i (hdE T u i) hw.1 hkt hx
    simp only [Trs.len] at hlen ⊢
    cases ts with
    | nil =>
      simp only [Trs.more, List.nil_append] at hk ⊢
      have q3 := key_M hk.cons.1
      have hc : isT (tkA T (i + 2 + t.keys.length)) 3 [44] = false := by
        simp only [isT, Bool.and_eq_true, decide_eq_true_eq] at q3
        simp [isT, q3.2]
      have := PX.last (show k < 64 by simp only [Trs.len] at hlen; omega) hh (key_M q2) hkid hc q3
      simp only [Trs.idxR, Trs.len, List.append_nil, List.length_append, hhl, List.length_nil]
      rw [show i + (2 + t.keys.length) + 1 = i + 2 + t.keys.length + 1 by omega]
      exact this
    | cons t2 ts2 =>
      rw [more_rows] at hk ⊢
      obtain ⟨q3, hk⟩ := hk.cons
      have hrest := px_trs (.cons t2 ts2) u deep (i + 2 + t.keys.length + 1) (k + 1) (fun h => by cases h) (by omega) hw.2 hk
      have := PX.more (show k < 64 by omega) hh (key_M q2) hkid (key_M q3) hrest
      rw [show (Trs.cons t (.cons t2 ts2)).idxR i = t.idx (i + 2) i ++ (Trs.cons t2 ts2).idxR (i + 2 + t.keys.length + 1) from rfl]
      simp only [List.length_append, List.length_cons, hhl]
      rw [show k + ((Trs.cons t2 ts2).len + 1) = k + 1 + (Trs.cons t2 ts2).len by omega, show i + (2 + (t.keys.length + (((Trs.cons t2 ts2).rows u).length + 1))) + 1 = i + 2 + t.keys.length + 1 + ((Trs.cons t2 ts2).rows u).length + 1 by omega]
      exact this
end

end Go.Proofs.Ytcljkkfpcomdcaa

set_option linter.unusedSimpArgs false
set_option linter.unusedVariables false
set_option maxRecDepth 100000
namespace Go.Proofs.Ytcljkkfpcomdcaa
open Go Go.Vc Go.RowKit Go.Proofs

theorem wf_top {t : Tr} {a : Int} {deep : Nat} (h : t.wf a deep) : rightB t.top a = true := by cases t; exact h.2.2.1
end Go.Proofs.Ytcljkkfpcomdcaa

set_option linter.unusedSimpArgs false
set_option linter.unusedVariables false
set_option maxRecDepth 100000
namespace Go.Proofs.Ytcljkkfpcomdcaa
open Go Go.Vc Go.RowKit Go.Proofs

def digL (n : Nat) : List UInt8 := if n < 10 then [UInt8.ofNat (48 + n)] else digL (n / 10) ++ [UInt8.ofNat (48 + n % 10)]
termination_by n
decreasing_by omega
theorem digL_lt {n : Nat} (h : n < 10) : digL n = [UInt8.ofNat (48 + n)] := by rw [digL, if_pos h]
theorem digL_ge {n : Nat} (h : ¬ n < 10) : digL n = digL (n / 10) ++ [UInt8.ofNat (48 + n % 10)] := by rw [digL, if_neg h]
theorem d8 {k : Nat} (h : k < 10) : (UInt8.ofNat (48 + k)).toNat = 48 + k := by simp; omega
theorem digL_dig : ∀ n, (digL n).all digB = true := by
  intro n
  induction n using Nat.strongRecOn with
  | _ n ih =>
    by_cases h : n < 10
    · rw [digL_lt h]; simp only [List.all_cons, List.all_nil, Bool.and_true, digB, d8 h]; simp; omega
    · rw [digL_ge h, List.all_append, ih (n / 10) (by omega)]
      simp only [List.all_cons, List.all_nil, Bool.and_true, digB, d8 (show n % 10 < 10 by omega)]; simp; omega
theorem valF_snoc (n : Nat) (xs : List UInt8) (c : UInt8) : valF n (xs ++ [c]) = 10 * valF n xs + (c.toNat - 48) := by
  simp only [valF, List.foldl_append, List.foldl_cons, List.foldl_nil]
theorem digL_val : ∀ n, valF 0 (digL n) = n := by
  intro n
  induction n using Nat.strongRecOn with
  | _ n ih =>
    by_cases h : n < 10
    · rw [digL_lt h, show [UInt8.ofNat (48 + n)] = [] ++ [UInt8.ofNat (48 + n)] from rfl, valF_snoc, d8 h]
      show 10 * 0 + _ = n; omega
    · rw [digL_ge h, valF_snoc, ih (n / 10) (by omega), d8 (show n % 10 < 10 by omega)]; omega
theorem digL_head : ∀ n, 1 ≤ n → ∃ c cs, digL n = c :: cs ∧ 49 ≤ c.toNat := by
  intro n
  induction n using Nat.strongRecOn with
  | _ n ih =>
    intro h1
    by_cases h : n < 10
    · exact ⟨_, _, digL_lt h, by rw [d8 h]; omega⟩
    · obtain ⟨c, cs, g1, g2⟩ := ih (n / 10) (by omega) (by omega)
      exact ⟨c, cs ++ [UInt8.ofNat (48 + n % 10)], by rw [digL_ge h, g1]; rfl, g2⟩
theorem digL_pos (n : Nat) : 0 < (digL n).length := by
  by_cases h : n < 10
  · rw [digL_lt h]; exact Nat.one_pos
  · rw [digL_ge h]; simp
theorem digL_num {n : Nat} (h : n ≤ 2147483647) : numL (digL n) = (n, 0) := by
  have hl : lead (digL n) = false := by
    by_cases h0 : n < 10
    · rw [digL_lt h0]; rfl
    · obtain ⟨c, cs, g1, g2⟩ := digL_head n (by omega)
      rw [g1]
      have : ¬ c.toNat = 48 := by omega
      simp [lead, this]
  rw [numL_val _ hl, digL_val, if_pos h]
def Own (b : List UInt8) (k : Key) : Prop := ∃ hT : 0 < b.length, oneL b 0 hT = (0, ⟨k.1, k.2.1, k.2.2, 0, b.length⟩)
theorem sub_whole (b : List UInt8) : sub b 0 b.length = b := by unfold sub; simp
theorem own_name {s : List UInt8} (h1 : s.head?.any letB = true) (h2 : s.length ≤ 32) (h3 : s.all goeB = true) : Own s (kN s) := by
  cases s with
  | nil => cases h1
  | cons c cs =>
    have hT : 0 < (c :: cs).length := by simp
    have hc : letB (c :: cs)[0] = true := h1
    have hr : runL goeB (c :: cs) 0 = (c :: cs).length := (runL_all goeB _).2 h3
    refine ⟨hT, ?_⟩
    unfold oneL
    rw [if_pos hc, hr, if_neg (by omega), sub_whole]
    rfl
theorem own_nameB {s : List UInt8} (h : nameB s = true) : Own s (kN s) := by
  simp only [nameB, Bool.and_eq_true, decide_eq_true_eq] at h
  exact own_name h.1.1.2 h.1.1.1.2 h.1.2
theorem own_num {n : Nat} (h : n ≤ 2147483647) : Own (digL n) (kD n) := by
  have hT := digL_pos n
  have hd : digB (digL n)[0] = true := List.all_eq_true.1 (digL_dig n) _ (List.getElem_mem hT)
  have hl : ¬ letB (digL n)[0] = true := by
    generalize (digL n)[0] = c at hd
    simp only [digB, letB, Bool.and_eq_true, decide_eq_true_eq] at hd ⊢
    omega
  have hr : runL digB (digL n) 0 = (digL n).length := (runL_all digB _).2 (digL_dig n)
  refine ⟨hT, ?_⟩
  unfold oneL
  rw [if_neg hl, if_pos hd, hr, sub_whole, digL_num h]
  rfl
theorem mark_goe {c : UInt8} (h : markB c = true) : goeB c = false ∧ letB c = false ∧ digB c = false := by
  rw [mark_or] at h
  simp only [Bool.or_eq_true, decide_eq_true_eq] at h
  simp only [goeB, letB, digB, Bool.or_eq_false_iff, Bool.and_eq_false_iff, decide_eq_false_iff_not]
  omega
theorem own_mark {c : UInt8} (h : markB c = true) (Z : List UInt8) : ∀ hT, oneL ([c] ++ Z) 0 hT = (0, ⟨3, [c], 0, 0, 1⟩) := by
  intro hT
  obtain ⟨h1, h2, h3⟩ := mark_goe h
  unfold oneL
  rw [if_neg (by show ¬ letB c = true; simp [h2]), if_neg (by show ¬ digB c = true; simp [h3]), if_pos (show markB ([c] ++ Z)[0] = true from h)]
  rfl
def Cut2 (bs : List UInt8) (us : List Tk) (m : Bool) : Prop := ∀ Z, (m = true ∨ Stops Z) → cutL (bs ++ Z) 0 = (us ++ (cutL (bs ++ Z) bs.length).1, (cutL (bs ++ Z) bs.length).2)
theorem Cut2.weak {bs : List UInt8} {us : List Tk} {m : Bool} (h : Cut2 bs us m) : Cut2 bs us false := fun Z hZ => h Z (.inr (hZ.resolve_left (by decide)))
theorem Cut2.gap {bs F : List UInt8} {us : List Tk} {m : Bool} (h : Cut2 bs us m) (hg : gapS false F = some false) (hF : ∃ c cs, F = c :: cs ∧ goeB c = false) : Cut2 (bs ++ F) us true := by
  intro Z _
  obtain ⟨c, cs, rfl, hc⟩ := hF
  have h1 := h ((c :: cs) ++ Z) (.inr (.inr ⟨c, cs ++ Z, rfl, hc⟩))
  rw [← List.append_assoc] at h1
  have e1 : ((bs ++ (c :: cs) ++ Z).take (bs ++ (c :: cs)).length).drop bs.length = c :: cs := by rw [List.take_left, List.drop_left]
  have s1 := gap_skip (bs ++ (c :: cs) ++ Z) (bs ++ (c :: cs)).length (by simp) bs.length (by simp) false (by rw [e1]; exact hg)
  rw [if_neg (by decide)] at s1
  rw [h1, s1]
def tkP (p : Nat) (b : List UInt8) (k : Key) : Tk := ⟨k.1, k.2.1, k.2.2, p, p + b.length⟩
theorem tkP_key (p : Nat) (b : List UInt8) (k : Key) : tkey (tkP p b k) = k := rfl
theorem Cut2.tok {bs b : List UInt8} {us : List Tk} {k : Key} (h : Cut2 bs us true) (ho : Own b k) : Cut2 (bs ++ b) (us ++ [tkP bs.length b k]) false := by
  intro Z hZ
  have hZ := hZ.resolve_left (by decide)
  obtain ⟨hT, ho⟩ := ho
  have h1 := h (b ++ Z) (.inl rfl)
  rw [← List.append_assoc] at h1
  have h2 := put_step bs [] b Z _ hT rfl (tok_front ho rfl hZ) rfl
  simp only [List.append_nil, List.length_nil, Nat.add_zero] at h2
  rw [h1, h2]
  simp only [tkP, List.append_assoc, List.cons_append, List.nil_append]
theorem Cut2.mark {bs : List UInt8} {us : List Tk} {m : Bool} (h : Cut2 bs us m) (c : UInt8) (hc : markB c = true) : Cut2 (bs ++ [c]) (us ++ [tkP bs.length [c] (kM [c])]) true := by
  intro Z _
  have h1 := h ([c] ++ Z) (.inr (.inr ⟨c, Z, rfl, (mark_goe hc).1⟩))
  rw [← List.append_assoc] at h1
  have h2 := put_step bs [] [c] Z _ (by simp) rfl (own_mark hc Z) rfl
  simp only [List.append_nil, List.length_nil, Nat.add_zero] at h2
  rw [h1, h2]
  simp only [tkP, kM, List.append_assoc, List.cons_append, List.nil_append, List.length_singleton]
theorem Cut2.done {bs : List UInt8} {us : List Tk} {m : Bool} (h : Cut2 bs us m) : cutL bs 0 = (us, 0, 0) := by
  have := h [] (.inr (.inl rfl))
  rw [List.append_nil, show cutL bs bs.length = ([], 0, 0) by rw [cutL_eq, dif_neg (by omega)], List.append_nil] at this
  exact this

end Go.Proofs.Ytcljkkfpcomdcaa

set_option linter.unusedSimpArgs false
set_option linter.unusedVariables false
set_option maxRecDepth 100000
namespace Go.Proofs.Ytcljkkfpcomdcaa
open Go Go.Vc Go.RowKit Go.Proofs

def wrHead (s first : Bool) (y : Ex) (bs : List UInt8) : List UInt8 := (if first then bs else bs ++ [44]) ++ (if s then y.label ++ [58, 32] else digL y.tag.toNat ++ [58])
mutual
def Tr.wr (bs : List UInt8) : Tr → List UInt8
  | .node y ks =>
    if y.kind = 1 then bs ++ ([117] ++ digL (8 * y.n).toNat)
    else if y.kind = 2 then bs ++ [98, 111, 111, 108]
    else if y.kind = 3 then bs ++ [118, 97, 114, 105, 110, 116]
    else if y.kind = 9 then bs ++ y.name
    else if y.kind = 4 ∨ y.kind = 5 then ks.wrK (bs ++ (if y.kind = 4 then [118, 101, 99, 116, 111, 114, 60] else [108, 105, 115, 116, 32, 60])) ++ ([44, 32] ++ digL y.n.toNat ++ [62])
    else if y.kind = 6 then ks.wrK (bs ++ [111, 112, 116, 105, 111, 110, 60]) ++ [62]
    else ks.wrR (decide (y.kind = 8)) true (bs ++ (if y.kind = 8 then [115, 116, 114, 117, 99, 116, 32, 123] else [117, 110, 105, 111, 110, 123])) ++ [125]
def Trs.wrK (bs : List UInt8) : Trs → List UInt8
  | .nil => bs
  | .cons t ts => ts.wrK (t.wr bs)
def Trs.wrR (s first : Bool) (bs : List UInt8) : Trs → List UInt8
  | .nil => bs
  | .cons t ts => ts.wrR s false (t.wr (wrHead s first t.top bs))
end
mutual
/-- the nodes, each at the place where it is written -/
def Tr.pl (p : Nat) (bs : List UInt8) : Tr → List Ex
  | .node y ks => { y with at_ := (p : Int) } ::
    (if y.kind = 7 ∨ y.kind = 8 then ks.plR (decide (y.kind = 8)) true (bs ++ (if y.kind = 8 then [115, 116, 114, 117, 99, 116, 32, 123] else [117, 110, 105, 111, 110, 123]))
     else ks.plK (bs ++ (if y.kind = 4 then [118, 101, 99, 116, 111, 114, 60] else if y.kind = 5 then [108, 105, 115, 116, 32, 60] else [111, 112, 116, 105, 111, 110, 60])))
def Trs.plK (bs : List UInt8) : Trs → List Ex
  | .nil => []
  | .cons t ts => t.pl bs.length bs ++ ts.plK (t.wr bs)
def Trs.plR (s first : Bool) (bs : List UInt8) : Trs → List Ex
  | .nil => []
  | .cons t ts => t.pl (if first then bs else bs ++ [44]).length (wrHead s first t.top bs) ++ ts.plR s false (t.wr (wrHead s first t.top bs))
end
def Pf (T L : List Tk) : Prop := ∀ k, k < L.length → tkA T k = tkA L k
theorem Pf.app {T a b : List Tk} (h : Pf T (a ++ b)) : Pf T a := fun k hk => by
  rw [h k (by rw [List.length_append]; omega), tkA, List.getD_eq_getElem?_getD, List.getElem?_append_left hk, tkA, List.getD_eq_getElem?_getD]
theorem Pf.at {T a : List Tk} {v : Tk} {b : List Tk} (h : Pf T (a ++ v :: b)) : tkA T a.length = v := by
  rw [h a.length (by simp), tkA, List.getD_eq_getElem?_getD, List.getElem?_append_right (Nat.le_refl _)]; simp
theorem plE_at' {T : List Tk} {y : Ex} {ai p : Nat} (h : (tkA T ai).at_ = p) : plE T { y with at_ := (ai : Int) } = { y with at_ := (p : Int) } := by
  unfold plE
  rw [if_neg (show ¬ ((ai : Int)) < 0 by omega)]
  simp [h]
theorem own_word {s : List UInt8} (h : (decide (s.length ≤ 32) && s.head?.any letB && s.all goeB) = true) : Own s (kN s) := by
  simp only [Bool.and_eq_true, decide_eq_true_eq] at h
  exact own_name h.1.2 h.1.1 h.2
mutual
theorem wr_tr : ∀ (t : Tr) (above : Int) (deep : Nat) (bs : List UInt8) (us : List Tk), t.wf above deep → Cut2 bs us true →
    ∃ v vs, Cut2 (t.wr bs) (us ++ v :: vs) false ∧ (v :: vs).map tkey = t.keys ∧ v.at_ = bs.length ∧ ∀ T, Pf T (us ++ v :: vs) → ∀ ai p, (tkA T ai).at_ = p → (t.idx us.length ai).map (plE T) = t.pl p bs
  | .node y ks, above, deep, bs, us, hw, hc => by
    obtain ⟨hd, hm, hr, hl, hks⟩ := hw
    obtain ⟨hok, hnm, -, -⟩ := rightB_iff hr
    rcases okB_cases hok with ⟨k1, hn, k0⟩ | ⟨k1, hn, k0⟩ | ⟨k1, hn, hn2, k0⟩ | ⟨k1, hn, k0⟩ | ⟨k1, hn, k0⟩
    · have hnil := trs_nil (ts := ks) (by omega)
      subst hnil
      have hw8 : [117] ++ digL (8 * y.n).toNat = uWord y.n := by
        rcases hn with e | e | e | e <;> rw [e]
        · show _ ++ digL 8 = _; rw [digL_lt (by decide)]; rfl
        · show _ ++ digL 16 = _; rw [digL_ge (by decide), digL_lt (by decide)]; rfl
        · show _ ++ digL 32 = _; rw [digL_ge (by decide), digL_lt (by decide)]; rfl
        · show _ ++ digL 64 = _; rw [digL_ge (by decide), digL_lt (by decide)]; rfl
      have ho : Own (uWord y.n) (kN (uWord y.n)) := by rcases hn with e | e | e | e <;> (rw [e]; exact own_word (by decide))
      refine ⟨tkP bs.length (uWord y.n) (kN (uWord y.n)), [], ?_, ?_, ?_, fun T hT ai p hp => ?_⟩
      · simp only [Tr.wr, if_pos k1, hw8]; exact hc.tok ho
      · simp only [Tr.keys, if_pos k1]; rfl
      · rfl
      · simp only [Tr.idx, Tr.pl, if_neg (show ¬ (y.kind = 7 ∨ y.kind = 8) by omega), Trs.idxK, Trs.plK, List.map_cons, List.map_nil, plE_at' hp]
    · have hnil := trs_nil (ts := ks) (by omega)
      subst hnil
      rcases k1 with k1 | k1 | k1
      · refine ⟨tkP bs.length [98, 111, 111, 108] (kN [98, 111, 111, 108]), [], ?_, ?_, ?_, fun T hT ai p hp => ?_⟩
        · simp only [Tr.wr, if_neg (show ¬ y.kind = 1 by omega), if_pos k1]; exact hc.tok (own_word (by decide))
        · simp only [Tr.keys, if_neg (show ¬ y.kind = 1 by omega), if_pos k1]; rfl
        · rfl
        · simp only [Tr.idx, Tr.pl, if_neg (show ¬ (y.kind = 7 ∨ y.kind = 8) by omega), Trs.idxK, Trs.plK, List.map_cons, List.map_nil, plE_at' hp]
      · refine ⟨tkP bs.length [118, 97, 114, 105, 110, 116] (kN [118, 97, 114, 105, 110, 116]), [], ?_, ?_, ?_, fun T hT ai p hp => ?_⟩
        · simp only [Tr.wr, if_neg (show ¬ y.kind = 1 by omega), if_neg (show ¬ y.kind = 2 by omega), if_pos k1]; exact hc.tok (own_word (by decide))
        · simp only [Tr.keys, if_neg (show ¬ y.kind = 1 by omega), if_neg (show ¬ y.kind = 2 by omega), if_pos k1]; rfl
        · rfl
        · simp only [Tr.idx, Tr.pl, if_neg (show ¬ (y.kind = 7 ∨ y.kind = 8) by omega), Trs.idxK, Trs.plK, List.map_cons, List.map_nil, plE_at' hp]
      · have hname : nameB y.name = true := by unfold namB at hnm; rw [if_pos k1] at hnm; exact hnm
        refine ⟨tkP bs.length y.name (kN y.name), [], ?_, ?_, ?_, fun T hT ai p hp => ?_⟩
        · simp only [Tr.wr, if_neg (show ¬ y.kind = 1 by omega), if_neg (show ¬ y.kind = 2 by omega), if_neg (show ¬ y.kind = 3 by omega), if_pos k1]; exact hc.tok (own_nameB hname)
        · simp only [Tr.keys, if_neg (show ¬ y.kind = 1 by omega), if_neg (show ¬ y.kind = 2 by omega), if_neg (show ¬ y.kind = 3 by omega), if_pos k1]; rfl
        · rfl
        · simp only [Tr.idx, Tr.pl, if_neg (show ¬ (y.kind = 7 ∨ y.kind = 8) by omega), Trs.idxK, Trs.plK, List.map_cons, List.map_nil, plE_at' hp]
    · obtain ⟨t, rfl⟩ := trs_one (ts := ks) (by omega)
      -- the word and its bracket
      obtain ⟨b1, hb1, v1, v2, hc1, hk1, hv1⟩ : ∃ b1, b1 = bs ++ (if y.kind = 4 then [118, 101, 99, 116, 111, 114, 60] else [108, 105, 115, 116, 32, 60]) ∧ ∃ v1 v2, Cut2 b1 (us ++ [v1, v2]) true ∧ [v1, v2].map tkey = [kN (if y.kind = 5 then [108, 105, 115, 116] else [118, 101, 99, 116, 111, 114]), kM [60]] ∧ v1.at_ = bs.length := by
        rcases k1 with e | e
        · refine ⟨_, rfl, tkP bs.length [118, 101, 99, 116, 111, 114] (kN [118, 101, 99, 116, 111, 114]), tkP (bs ++ [118, 101, 99, 116, 111, 114]).length [60] (kM [60]), ?_, ?_, ?_⟩
          · have := (hc.tok (own_word (s := [118, 101, 99, 116, 111, 114]) (by decide))).mark 60 (by decide)
            rw [List.append_assoc, List.append_assoc] at this
            rw [if_pos e]; exact this
          · rw [e]; rfl
          · rfl
        · refine ⟨_, rfl, tkP bs.length [108, 105, 115, 116] (kN [108, 105, 115, 116]), tkP (bs ++ [108, 105, 115, 116] ++ [32]).length [60] (kM [60]), ?_, ?_, ?_⟩
          · have := (((hc.tok (own_word (s := [108, 105, 115, 116]) (by decide)))).gap (F := [32]) (by decide) ⟨_, _, rfl, by decide⟩).mark 60 (by decide)
            rw [List.append_assoc, List.append_assoc, List.append_assoc] at this
            rw [if_neg (by omega)]; exact this
          · rw [e]; rfl
          · rfl
      obtain ⟨v, vs, hc2, hk2, hv2, hp2⟩ := wr_tr t y.kind (deep + 1) b1 (us ++ [v1, v2]) hks.1 hc1
      have hc3 := (((hc2.mark 44 (by decide)).gap (F := [32]) (by decide) ⟨_, _, rfl, by decide⟩).tok (own_num (n := y.n.toNat) (by omega))).mark 62 (by decide)
      have e1 : ∀ {a b c : Tk}, us ++ [v1, v2] ++ v :: vs ++ [a] ++ [b] ++ [c] = us ++ v1 :: (v2 :: (v :: vs ++ [a, b, c])) := by intros; simp
      rw [e1] at hc3
      have e2 : t.wr b1 ++ [44] ++ [32] ++ digL y.n.toNat ++ [62] = Tr.wr bs (.node y (.cons t .nil)) := by
        simp only [Tr.wr, if_neg (show ¬ y.kind = 1 by omega), if_neg (show ¬ y.kind = 2 by omega), if_neg (show ¬ y.kind = 3 by omega), if_neg (show ¬ y.kind = 9 by omega), if_pos k1, Trs.wrK, ← hb1]
        simp
      rw [e2] at hc3
      refine ⟨v1, _, hc3.weak, ?_, hv1, fun T hT ai p hp => ?_⟩
      · simp only [Tr.keys, if_neg (show ¬ y.kind = 1 by omega), if_neg (show ¬ y.kind = 2 by omega), if_neg (show ¬ y.kind = 3 by omega), if_neg (show ¬ y.kind = 9 by omega), if_pos k1, Trs.keys, List.append_nil, ← hk2]
        simp only [List.map_cons, List.map_nil, List.cons.injEq, and_true] at hk1
        simp [hk1.1, hk1.2, tkP_key]
      · have hT2 : Pf T (us ++ [v1, v2] ++ v :: vs) := by
          have : us ++ v1 :: (v2 :: (v :: vs ++ [tkP (t.wr b1).length [44] (kM [44]), tkP (t.wr b1 ++ [44] ++ [32]).length (digL y.n.toNat) (kD y.n.toNat), tkP (t.wr b1 ++ [44] ++ [32] ++ digL y.n.toNat).length [62] (kM [62])])) = (us ++ [v1, v2] ++ v :: vs) ++ [tkP (t.wr b1).length [44] (kM [44]), tkP (t.wr b1 ++ [44] ++ [32]).length (digL y.n.toNat) (kD y.n.toNat), tkP (t.wr b1 ++ [44] ++ [32] ++ digL y.n.toNat).length [62] (kM [62])] := by simp
          rw [this] at hT
          exact hT.app
        have hk := hp2 T hT2 (us ++ [v1, v2]).length b1.length (by rw [hT2.at]; exact hv2)
        rw [show (us ++ [v1, v2]).length = us.length + 2 by simp] at hk
        simp only [Tr.idx, Tr.pl, if_neg (show ¬ (y.kind = 7 ∨ y.kind = 8) by omega), Trs.idxK, Trs.plK, List.append_nil, List.map_cons, plE_at' hp]
        rw [hk, hb1]
        rcases k1 with e | e <;> simp [e]
    · obtain ⟨t, rfl⟩ := trs_one (ts := ks) (by omega)
      have hc1 := (hc.tok (own_word (s := [111, 112, 116, 105, 111, 110]) (by decide))).mark 60 (by decide)
      rw [List.append_assoc, List.append_assoc] at hc1
      obtain ⟨v, vs, hc2, hk2, hv2, hp2⟩ := wr_tr t y.kind (deep + 1) _ _ hks.1 hc1
      have hc3 := hc2.mark 62 (by decide)
      obtain ⟨v1, hv1⟩ : ∃ v, v = tkP bs.length [111, 112, 116, 105, 111, 110] (kN [111, 112, 116, 105, 111, 110]) := ⟨_, rfl⟩
      obtain ⟨v2, hv2'⟩ : ∃ v, v = tkP (bs ++ [111, 112, 116, 105, 111, 110]).length [60] (kM [60]) := ⟨_, rfl⟩
      rw [← hv1, ← hv2'] at hc2 hp2 hc3
      have e1 : ∀ {a : Tk}, us ++ ([v1] ++ [v2]) ++ v :: vs ++ [a] = us ++ v1 :: (v2 :: (v :: vs ++ [a])) := by intros; simp
      rw [e1] at hc3
      have e2 : Tr.wr (bs ++ ([111, 112, 116, 105, 111, 110] ++ [60])) t ++ [62] = Tr.wr bs (.node y (.cons t .nil)) := by
        simp only [Tr.wr, if_neg (show ¬ y.kind = 1 by omega), if_neg (show ¬ y.kind = 2 by omega), if_neg (show ¬ y.kind = 3 by omega), if_neg (show ¬ y.kind = 9 by omega), if_neg (show ¬ (y.kind = 4 ∨ y.kind = 5) by omega), if_pos k1, Trs.wrK]
        rfl
      rw [e2] at hc3
      refine ⟨v1, _, hc3.weak, ?_, by subst hv1; rfl, fun T hT ai p hp => ?_⟩
      · simp only [Tr.keys, if_neg (show ¬ y.kind = 1 by omega), if_neg (show ¬ y.kind = 2 by omega), if_neg (show ¬ y.kind = 3 by omega), if_neg (show ¬ y.kind = 9 by omega), if_neg (show ¬ (y.kind = 4 ∨ y.kind = 5) by omega), if_pos k1, Trs.keys, List.append_nil, ← hk2]
        simp [hv1, hv2', tkP_key]
      · have hT2 : Pf T (us ++ ([v1] ++ [v2]) ++ v :: vs) := by rw [← e1] at hT; exact hT.app
        have hk := hp2 T hT2 (us ++ ([v1] ++ [v2])).length (bs ++ ([111, 112, 116, 105, 111, 110] ++ [60])).length (by rw [hT2.at]; exact hv2)
        rw [show (us ++ ([v1] ++ [v2])).length = us.length + 2 by simp] at hk
        simp only [Tr.idx, Tr.pl, if_neg (show ¬ (y.kind = 7 ∨ y.kind = 8) by omega), Trs.idxK, Trs.plK, List.append_nil, List.map_cons, plE_at' hp]
        rw [hk, if_neg (show ¬ y.kind = 4 by omega), if_neg (show ¬ y.kind = 5 by omega)]
        rfl
    · obtain ⟨s, hs⟩ : ∃ s : Bool, s = decide (y.kind = 8) := ⟨_, rfl⟩
      have hsu : decide (y.kind = 7) = !s := by rcases k1 with e | e <;> simp [hs, e]
      have hks2 : y.kind = if s then 8 else 7 := by rcases k1 with e | e <;> simp [hs, e]
      obtain ⟨b1, hb1, v1, v2, hc1, hk1, hv1⟩ : ∃ b1, b1 = bs ++ (if y.kind = 8 then [115, 116, 114, 117, 99, 116, 32, 123] else [117, 110, 105, 111, 110, 123]) ∧ ∃ v1 v2, Cut2 b1 (us ++ [v1, v2]) true ∧ [v1, v2].map tkey = [kN (if y.kind = 7 then [117, 110, 105, 111, 110] else [115, 116, 114, 117, 99, 116]), kM [123]] ∧ v1.at_ = bs.length := by
        rcases k1 with e | e
        · refine ⟨_, rfl, tkP bs.length [117, 110, 105, 111, 110] (kN [117, 110, 105, 111, 110]), tkP (bs ++ [117, 110, 105, 111, 110]).length [123] (kM [123]), ?_, ?_, ?_⟩
          · have := (hc.tok (own_word (s := [117, 110, 105, 111, 110]) (by decide))).mark 123 (by decide)
            rw [List.append_assoc, List.append_assoc] at this
            rw [if_neg (by omega)]; exact this
          · rw [e]; rfl
          · rfl
        · refine ⟨_, rfl, tkP bs.length [115, 116, 114, 117, 99, 116] (kN [115, 116, 114, 117, 99, 116]), tkP (bs ++ [115, 116, 114, 117, 99, 116] ++ [32]).length [123] (kM [123]), ?_, ?_, ?_⟩
          · have := (((hc.tok (own_word (s := [115, 116, 114, 117, 99, 116]) (by decide)))).gap (F := [32]) (by decide) ⟨_, _, rfl, by decide⟩).mark 123 (by decide)
            rw [List.append_assoc, List.append_assoc, List.append_assoc] at this
            rw [if_pos e]; exact this
          · rw [e]; rfl
          · rfl
      obtain ⟨vs, hc2, hk2, hp2⟩ := wr_trs ks s true (deep + 1) b1 (us ++ [v1, v2]) (by rw [← hks2]; exact hks) hc1
      have hc3 := hc2.mark 125 (by decide)
      have e1 : ∀ {a : Tk}, us ++ [v1, v2] ++ vs ++ [a] = us ++ v1 :: (v2 :: (vs ++ [a])) := by intros; simp
      rw [e1] at hc3
      have e2 : ks.wrR s true b1 ++ [125] = Tr.wr bs (.node y ks) := by
        simp only [Tr.wr, if_neg (show ¬ y.kind = 1 by omega), if_neg (show ¬ y.kind = 2 by omega), if_neg (show ¬ y.kind = 3 by omega), if_neg (show ¬ y.kind = 9 by omega), if_neg (show ¬ (y.kind = 4 ∨ y.kind = 5) by omega), if_neg (show ¬ y.kind = 6 by omega), ← hb1, ← hs]
      rw [e2] at hc3
      refine ⟨v1, _, hc3.weak, ?_, hv1, fun T hT ai p hp => ?_⟩
      · simp only [Tr.keys, if_neg (show ¬ y.kind = 1 by omega), if_neg (show ¬ y.kind = 2 by omega), if_neg (show ¬ y.kind = 3 by omega), if_neg (show ¬ y.kind = 9 by omega), if_neg (show ¬ (y.kind = 4 ∨ y.kind = 5) by omega), if_neg (show ¬ y.kind = 6 by omega), hsu]
        simp only [List.map_cons, List.map_nil, List.cons.injEq, and_true] at hk1
        simp only [if_true] at hk2
        simp [hk1.1, hk1.2, tkP_key, hk2]
      · have hT2 : Pf T (us ++ [v1, v2] ++ vs) := by rw [← e1] at hT; exact hT.app
        have hk := hp2 T hT2
        simp only [if_true, Nat.add_zero] at hk
        rw [show (us ++ [v1, v2]).length = us.length + 2 by simp] at hk
        simp only [Tr.idx, Tr.pl, if_pos k1, List.map_cons, plE_at' hp, ← hs]
        rw [hk, hb1]
theorem wr_trs : ∀ (ts : Trs) (s first : Bool) (deep : Nat) (bs : List UInt8) (us : List Tk), ts.wf (if s then 8 else 7) deep → Cut2 bs us first →
    ∃ vs, Cut2 (ts.wrR s first bs) (us ++ vs) false ∧ vs.map tkey = (if first then ts.rows (!s) else ts.more (!s)) ∧ ∀ T, Pf T (us ++ vs) → (ts.idxR (us.length + (if first then 0 else 1))).map (plE T) = ts.plR s first bs
  | .nil, s, first, deep, bs, us, hw, hc => ⟨[], by rw [List.append_nil]; exact hc.weak, by cases first <;> rfl, fun T _ => rfl⟩
  | .cons t ts, s, first, deep, bs, us, hw, hc => by
    obtain ⟨-, -, g1, g2⟩ := rightB_iff (wf_top hw.1)
    -- the comma
    obtain ⟨b1, hb1, us1, hu1, hc1, hkk⟩ : ∃ b1, b1 = (if first then bs else bs ++ [44]) ∧ ∃ us1, us1 = (if first then us else us ++ [tkP bs.length [44] (kM [44])]) ∧ Cut2 b1 us1 true ∧ us1.length = us.length + (if first then 0 else 1) := by
      cases first
      · exact ⟨_, rfl, _, rfl, hc.mark 44 (by decide), by simp⟩
      · exact ⟨_, rfl, _, rfl, hc, by simp⟩
    -- what stands ahead of the colon
    obtain ⟨b2, hb2, v1, v2, hc2, hk2, hv1⟩ : ∃ b2, b2 = wrHead s first t.top bs ∧ ∃ v1 v2, Cut2 b2 (us1 ++ [v1, v2]) true ∧ [v1, v2].map tkey = hdK (!s) t.top ∧ v1.at_ = b1.length := by
      cases s
      · have htag : t.top.tag.toNat ≤ 2147483647 := by
          unfold tagB at g2
          simp only [Bool.or_eq_true, Bool.and_eq_true, decide_eq_true_eq] at g2
          omega
        refine ⟨_, rfl, tkP b1.length (digL t.top.tag.toNat) (kD t.top.tag.toNat), tkP (b1 ++ digL t.top.tag.toNat).length [58] (kM [58]), ?_, ?_, ?_⟩
        · have := (hc1.tok (own_num (n := t.top.tag.toNat) htag)).mark 58 (by decide)
          rw [List.append_assoc, List.append_assoc] at this
          rw [wrHead, ← hb1]; exact this
        · rfl
        · rfl
      · have hlab : nameB t.top.label = true := by unfold labB at g1; simpa using g1
        refine ⟨_, rfl, tkP b1.length t.top.label (kN t.top.label), tkP (b1 ++ t.top.label).length [58] (kM [58]), ?_, ?_, ?_⟩
        · have := ((hc1.tok (own_nameB hlab)).mark 58 (by decide)).gap (F := [32]) (by decide) ⟨_, _, rfl, by decide⟩
          rw [List.append_assoc, List.append_assoc, List.append_assoc] at this
          rw [wrHead, ← hb1]; exact this
        · rfl
        · rfl
    obtain ⟨v, vs, hc3, hk3, hv3, hp3⟩ := wr_tr t _ deep b2 (us1 ++ [v1, v2]) hw.1 hc2
    obtain ⟨ws, hc4, hk4, hp4⟩ := wr_trs ts s false deep (t.wr b2) (us1 ++ [v1, v2] ++ v :: vs) hw.2 hc3
    have hall : us1 ++ [v1, v2] ++ v :: vs ++ ws = us ++ ((if first then [] else [tkP bs.length [44] (kM [44])]) ++ [v1, v2] ++ v :: vs ++ ws) := by
      rw [hu1]; cases first <;> simp
    refine ⟨(if first then [] else [tkP bs.length [44] (kM [44])]) ++ [v1, v2] ++ v :: vs ++ ws, ?_, ?_, fun T hT => ?_⟩
    · rw [← hall]
      simp only [Trs.wrR, ← hb2]
      exact hc4
    · have hh : (([v1, v2] ++ v :: vs) ++ ws).map tkey = (Trs.cons t ts).rows (!s) := by
        rw [List.map_append, List.map_append, hk2, hk3, hk4]
        simp [Trs.rows]
      cases first
      · simp only [Bool.false_eq_true, if_false, more_rows]
        rw [← hh]
        simp [tkP_key]
      · simp only [if_true]
        rw [← hh]
        simp
    · rw [← hall] at hT
      have hT3 : Pf T (us1 ++ [v1, v2] ++ v :: vs) := hT.app
      have hT1 : Pf T (us1 ++ v1 :: [v2]) := hT3.app
      have hk := hp3 T hT3 us1.length b1.length (by rw [hT1.at]; exact hv1)
      have hr := hp4 T hT
      rw [show (us1 ++ [v1, v2]).length = us1.length + 2 by simp] at hk
      rw [← hkk]
      simp only [Trs.idxR, Trs.plR, List.map_append, ← hb1, ← hb2]
      rw [hk]
      congr 1
      have hkl : (v :: vs).length = t.keys.length := by rw [← hk3, List.length_map]
      rw [show us1.length + 2 + t.keys.length + 1 = (us1 ++ [v1, v2] ++ v :: vs).length + (if false = true then 0 else 1) by rw [List.length_append, List.length_append, hkl]; simp]
      exact hr
end

end Go.Proofs.Ytcljkkfpcomdcaa

set_option linter.unusedSimpArgs false
set_option linter.unusedVariables false
set_option maxRecDepth 100000
namespace Go.Proofs.Ytcljkkfpcomdcaa
open Go Go.Vc Go.RowKit Go.Proofs

theorem digL_len : ∀ (k n : Nat), n < 10 ^ k → 0 < k → (digL n).length ≤ k := by
  intro k
  induction k with
  | zero => intro n h h0; omega
  | succ k ih =>
    intro n h _
    by_cases h10 : n < 10
    · rw [digL_lt h10]; simp
    · rw [digL_ge h10, List.length_append, List.length_singleton]
      have hk : 0 < k := by
        rcases Nat.eq_zero_or_pos k with h0 | h0
        · subst h0; simp at h; omega
        · exact h0
      have := ih (n / 10) (by rw [Nat.pow_succ] at h; omega) hk
      omega

end Go.Proofs.Ytcljkkfpcomdcaa

set_option linter.unusedSimpArgs false
set_option linter.unusedVariables false
set_option maxRecDepth 100000
namespace Go.Proofs.Ytcljkkfpcomdcaa
open Go Go.Vc Go.RowKit Go.Proofs

structure WrM (w : World) (H p : Nat) (v : Value) (bs : List UInt8) : Prop where
  cell : w.heap[p]? = some (.cells #[v] 45 (0, 0))
  row : w.ownsRow H 5 1 v bs.length (bs.map bv)
  hp : H ≤ p
theorem WrM.ext {w w' : World} {H p : Nat} {v : Value} {bs : List UInt8} (h : WrM w H p v bs) (ho : Ext w w') : WrM w' H p v bs := ⟨ho.blk h.cell (fun h => h), own_ext h.row ho, h.hp⟩
theorem WrM.off {w : World} {H p : Nat} {v : Value} {bs : List UInt8} (h : WrM w H p v bs) : ¬ v.ownBlock = some p := own_off h.row h.cell (by decide)
theorem WrM.only {w w' : World} {F : Nat → Prop} {H p : Nat} {v : Value} {bs : List UInt8} (h : WrM w H p v bs) (ho : Only F w w') (hF : ∀ k, F k → k < H) : WrM w' H p v bs :=
  ⟨ho.blk h.cell (fun hk => by have := hF _ hk; have := h.hp; omega), own_only h.row ho (fun k hk hF2 => by have := hF _ hF2; have := (h.row.lt k hk).1; omega), h.hp⟩
theorem WrM.lt {w : World} {H p : Nat} {v : Value} {bs : List UInt8} (h : WrM w H p v bs) : H ≤ w.heap.size := by
  have := (Array.getElem?_eq_some_iff.1 h.cell).1; have := h.hp; omega

end Go.Proofs.Ytcljkkfpcomdcaa

set_option linter.unusedSimpArgs false
set_option linter.unusedVariables false
set_option maxRecDepth 100000
namespace Go.Proofs.Ytcljkkfpcomdcaa
open Go Go.Vc Go.RowKit Go.Proofs

/-- the same tree, its top at another place -/
def Tr.put (z : Int) : Tr → Tr
  | .node y ks => .node { y with at_ := z } ks
mutual
theorem pl_len : ∀ (t : Tr) (p : Nat) (bs : List UInt8) (a : Int) (deep : Nat), t.wf a deep → (t.pl p bs).length = t.flat.length
  | .node y ks, p, bs, a, deep, h => by
    simp only [Tr.pl, Tr.flat, List.length_cons]
    split
    · rw [plR_len ks _ _ _ _ _ h.2.2.2.2]
    · rw [plK_len ks _ _ _ h.2.2.2.2]
theorem plK_len : ∀ (ts : Trs) (bs : List UInt8) (a : Int) (deep : Nat), ts.wf a deep → (ts.plK bs).length = ts.flat.length
  | .nil, _, _, _, _ => rfl
  | .cons t ts, bs, a, deep, h => by
    simp only [Trs.plK, Trs.flat, List.length_append]
    rw [pl_len t _ _ _ _ h.1, plK_len ts _ _ _ h.2]
theorem plR_len : ∀ (ts : Trs) (s first : Bool) (bs : List UInt8) (a : Int) (deep : Nat), ts.wf a deep → (ts.plR s first bs).length = ts.flat.length
  | .nil, _, _, _, _, _, _ => rfl
  | .cons t ts, s, first, bs, a, deep, h => by
    simp only [Trs.plR, Trs.flat, List.length_append]
    rw [pl_len t _ _ _ _ h.1, plR_len ts _ _ _ _ _ h.2]
end
theorem nameB_len {s : List UInt8} (h : nameB s = true) : s.length ≤ 32 := by
  unfold nameB at h
  simp only [Bool.and_eq_true, decide_eq_true_eq] at h
  omega
theorem wrHead_len {s first : Bool} {y : Ex} {bs : List UInt8} (h : s = true → nameB y.label = true) (h2 : s = false → y.tag.toNat ≤ 2147483647) : (wrHead s first y bs).length ≤ bs.length + 40 := by
  unfold wrHead
  cases s
  · have := digL_len 10 y.tag.toNat (by have := h2 rfl; omega) (by decide)
    cases first <;> simp <;> omega
  · have := nameB_len (h rfl)
    cases first <;> simp <;> omega


theorem row_head {t : Tr} {s : Bool} {deep : Nat} (h : t.wf (if s then 8 else 7) deep) (first : Bool) (bs : List UInt8) : (wrHead s first t.top bs).length ≤ bs.length + 40 := by
  obtain ⟨-, -, g1, g2⟩ := rightB_iff (wf_top h)
  refine wrHead_len (fun e => ?_) (fun e => ?_)
  · subst e; unfold labB at g1; simpa using g1
  · subst e; unfold tagB at g2
    simp only [Bool.or_eq_true, Bool.and_eq_true, decide_eq_true_eq] at g2
    omega


mutual
theorem wr_len : ∀ (t : Tr) (bs : List UInt8) (a : Int) (deep : Nat), t.wf a deep → (t.wr bs).length + 40 ≤ bs.length + 80 * t.flat.length
  | .node y ks, bs, a, deep, h => by
    obtain ⟨-, -, hr, hl, hks⟩ := h
    obtain ⟨hok, hnm, -, -⟩ := rightB_iff hr
    simp only [Tr.flat, List.length_cons]
    have hn10 : y.n.toNat ≤ 2147483647 ∧ (8 * y.n).toNat ≤ 99999999999 := by rcases okB_cases hok with h | h | h | h | h <;> omega
    have hd1 := digL_len 10 y.n.toNat (by omega) (by decide)
    have hd2 := digL_len 11 (8 * y.n).toNat (by omega) (by decide)
    simp only [Tr.wr]
    split
    · simp; omega
    · split
      · simp; omega
      · split
        · simp; omega
        · split
          · rename_i h9
            have : nameB y.name = true := by unfold namB at hnm; rw [if_pos h9] at hnm; exact hnm
            have := nameB_len this
            simp; omega
          · split
            · have := wrK_len ks (bs ++ (if y.kind = 4 then [118, 101, 99, 116, 111, 114, 60] else [108, 105, 115, 116, 32, 60])) _ _ hks
              have h7 : (if y.kind = 4 then [118, 101, 99, 116, 111, 114, 60] else [108, 105, 115, 116, 32, 60] : List UInt8).length ≤ 7 := by split <;> simp
              simp only [List.length_append, List.length_cons, List.length_nil] at this ⊢
              omega
            · split
              · have := wrK_len ks (bs ++ [111, 112, 116, 105, 111, 110, 60]) _ _ hks
                simp only [List.length_append, List.length_cons, List.length_nil] at this ⊢
                omega
              · have h78 : y.kind = 8 ∨ y.kind = 7 := by rcases okB_cases hok with h | h | h | h | h <;> omega
                have := wrR_len ks (decide (y.kind = 8)) true (bs ++ (if y.kind = 8 then [115, 116, 114, 117, 99, 116, 32, 123] else [117, 110, 105, 111, 110, 123])) (deep + 1) (by rcases h78 with e | e <;> simpa [e] using hks)
                have h7 : (if y.kind = 8 then [115, 116, 114, 117, 99, 116, 32, 123] else [117, 110, 105, 111, 110, 123] : List UInt8).length ≤ 8 := by split <;> simp
                simp only [List.length_append, List.length_cons, List.length_nil] at this ⊢
                omega
theorem wrK_len : ∀ (ts : Trs) (bs : List UInt8) (a : Int) (deep : Nat), ts.wf a deep → (ts.wrK bs).length ≤ bs.length + 80 * ts.flat.length
  | .nil, bs, _, _, _ => by simp [Trs.wrK, Trs.flat]
  | .cons t ts, bs, a, deep, h => by
    have h1 := wr_len t bs _ _ h.1
    have h2 := wrK_len ts (t.wr bs) _ _ h.2
    simp only [Trs.wrK, Trs.flat, List.length_append]
    omega
theorem wrR_len : ∀ (ts : Trs) (s first : Bool) (bs : List UInt8) (deep : Nat), ts.wf (if s then 8 else 7) deep → (ts.wrR s first bs).length ≤ bs.length + 80 * ts.flat.length
  | .nil, _, _, bs, _, _ => by simp [Trs.wrR, Trs.flat]
  | .cons t ts, s, first, bs, deep, h => by
    have hh := row_head h.1 first bs
    have h1 := wr_len t (wrHead s first t.top bs) _ _ h.1
    have h2 := wrR_len ts s false (t.wr (wrHead s first t.top bs)) _ h.2
    simp only [Trs.wrR, Trs.flat, List.length_append]
    omega
end
def EFree (w : World) (k : Nat) : Prop := ∀ c d, ¬ w.heap[k]? = some (.cells c 30 d)
def PW (H : Nat) (w : World) (k : Nat) : Prop := H ≤ k ∧ EFree w k
def FW (H g : Nat) (w : World) (k : Nat) : Prop := k = g ∨ PW H w k
theorem FW.tr {H g : Nat} {a b c : World} (h : Only (FW H g a) a b) (k : Only (FW H g b) b c) : Only (FW H g a) a c :=
  h.trans' k (fun _ h => h) (fun j hj hF => by
    rcases hF with hF | ⟨h1, h2⟩
    · exact .inl hF
    · by_cases hg : j = g
      · exact .inl hg
      · refine .inr ⟨h1, fun x d hx => ?_⟩
        exact h2 x d (h.blk hx (fun hF => by
          rcases hF with hF | ⟨-, h3⟩
          · exact hg hF
          · exact h3 x d hx)))
theorem FW.ext {H g : Nat} {a b c : World} (h : Only (FW H g a) a b) (k : Ext b c) : Only (FW H g a) a c := h.trans' k (fun _ h => h) (fun _ _ h => h.elim)
theorem FW.put {H g : Nat} {a b c : World} (h : Only (FW H g a) a b) (k : Only (PW H b) b c) : Only (FW H g a) a c := FW.tr h (k.mono fun _ _ h => .inr h)
end Go.Proofs.Ytcljkkfpcomdcaa

set_option linter.unusedSimpArgs false
set_option linter.unusedVariables false
set_option maxRecDepth 100000
namespace Go.Proofs.Ytcljkkfpcomdcaa
open Go Go.Vc Go.RowKit Go.Proofs

theorem Defs.off {w : World} {H : Nat} {D : List Df} {dv : Value} {V : Nat → Value} (h : Defs w H D dv V) {b : Nat} {cs : Array Value} {fr : Nat × Nat} (hB : w.heap[b]? = some (.cells cs 28 fr)) : ∀ k, DF dv V D.length k → ¬ k = b := fun k hk he => by
  subst he
  rcases hk with hk | ⟨j, hj, hk⟩
  · exact own_off h.row hB (by decide) hk
  · exact own_off (h.tys.row j hj) hB (by decide) hk

end Go.Proofs.Ytcljkkfpcomdcaa

set_option linter.unusedSimpArgs false
set_option linter.unusedVariables false
set_option maxRecDepth 100000
namespace Go.Proofs.Ytcljkkfpcomdcaa
open Go Go.Vc Go.RowKit Go.Proofs

theorem parse_256 (xs : List UInt8) : (parseA xs).1.length ≤ 256 := by
  rcases parse_cases xs with ⟨-, h⟩ | ⟨-, D, hp, h⟩
  · rw [h]; exact Nat.zero_le _
  · rw [h, List.length_map]; have := (pd_chk (cut_small xs) hp).2; omega
/-- the two sources of each turn -/
def gD (ss : List (List UInt8)) (fD : List Df) (m : Nat) : List Df := if m % 2 = 0 then (parseA (ss.getD (m / 4) [])).1 else fD
theorem gD_256 {ss : List (List UInt8)} {fD : List Df} (hf : fD.length ≤ 256) (m : Nat) : (gD ss fD m).length ≤ 256 := by
  unfold gD; split
  · exact parse_256 _
  · exact hf
theorem gD_ok {ss : List (List UInt8)} {fD : List Df} (hf : DOk fD) (m : Nat) : DOk (gD ss fD m) := by
  unfold gD; split
  · exact parse_ok _
  · exact hf
theorem gD_x {ss : List (List UInt8)} {fD : List Df} {i k : Nat} (hi : i < ss.length) (hk : k < 2) : gD ss fD (4 * i + 2 * k) = (parseA ss[i]).1 := by
  unfold gD
  rw [if_pos (by omega), show (4 * i + 2 * k) / 4 = i by omega, List.getD_eq_getElem?_getD, List.getElem?_eq_getElem hi]
  rfl
theorem gD_y {ss : List (List UInt8)} {fD : List Df} {m : Nat} : gD ss fD (2 * m + 1) = fD := by unfold gD; rw [if_neg (by omega)]
def AllS (w : World) (H N : Nat) (D : Nat → List Df) (V : Nat → Value) (U : Nat → Nat → Value) : Prop := ∀ j, j < N → Defs w H (D j) (V j) (U j)
section
variable {w w' : World} {H N : Nat} {D : Nat → List Df} {V : Nat → Value} {U : Nat → Nat → Value}
theorem AllS.only {F : Nat → Prop} (h : AllS w H N D V U) (ho : Only F w w') (hn : ∀ j, j < N → ∀ k, DF (V j) (U j) (D j).length k → ¬ F k) : AllS w' H N D V U := fun j hj => (h j hj).only ho (hn j hj)
theorem AllS.ext (h : AllS w H N D V U) (ho : Ext w w') : AllS w' H N D V U := fun j hj => (h j hj).ext ho
theorem Defs.other {w w' : World} {H : Nat} {D : List Df} {dv : Value} {V : Nat → Value} (h : Defs w H D dv V) {base m s : Nat} {v : Value} {xs : List Value} {T : TypeId} (hr : w.ownsRow base T s v m xs) (h1 : T ≠ 40) (h2 : T ≠ 30) (ho : Only (fun k => v.ownBlock = some k) w w') : Defs w' H D dv V :=
  h.only ho (fun k hk => by
    rcases hk with hk | ⟨i, hi, hk⟩
    · exact own_row_off hr h.row h1 k hk
    · exact own_row_off hr (h.tys.row i hi) h2 k hk)
theorem AllS.other (h : AllS w H N D V U) {base m s : Nat} {v : Value} {xs : List Value} {T : TypeId} (hr : w.ownsRow base T s v m xs) (h1 : T ≠ 40) (h2 : T ≠ 30) (ho : Only (fun k => v.ownBlock = some k) w w') : AllS w' H N D V U :=
  fun j hj => (h j hj).other hr h1 h2 ho
theorem AllS.snoc (h : AllS w H N D V U) {v : Value} {u : Nat → Value} (hd : Defs w H (D N) v u) : AllS w H (N + 1) D (fun j => if j = N then v else V j) (fun j => if j = N then u else U j) := fun j hj => by
  by_cases e : j = N
  · subst e; simp only [if_pos]; exact hd
  · simp only [if_neg e]; exact h j (by omega)
def OwnS (ow : Nat → Nat) (N : Nat) (D : Nat → List Df) (V : Nat → Value) (U : Nat → Nat → Value) : Prop := ∀ j, j < N → ∀ k, DF (V j) (U j) (D j).length k → ow k = j
theorem OwnS.snoc {ow : Nat → Nat} (h : OwnS ow N D V U) (m : Nat) {v : Value} {u : Nat → Value} (hlt : ∀ j, j < N → ∀ k, DF (V j) (U j) (D j).length k → k < m) (hge : ∀ k, DF v u (D N).length k → m ≤ k) :
    OwnS (fun k => if k < m then ow k else N) (N + 1) D (fun j => if j = N then v else V j) (fun j => if j = N then u else U j) := fun j hj k hk => by
  by_cases e : j = N
  · subst e
    simp only [if_pos] at hk
    have := hge k hk
    show (if k < m then ow k else j) = j
    rw [if_neg (by omega)]
  · simp only [if_neg e] at hk
    have h1 := hlt j (by omega) k hk
    show (if k < m then ow k else N) = j
    rw [if_pos h1]
    exact h j (by omega) k hk
theorem map_snoc (V : Nat → Value) (v : Value) (N : Nat) : (List.range (N + 1)).map (fun j => if j = N then v else V j) = (List.range N).map V ++ [v] := by
  rw [List.range_succ, List.map_append]
  congr 1
  · exact List.map_congr_left (fun j hj => by rw [if_neg (by have := List.mem_range.1 hj; omega)])
  · simp
theorem map_at {V : Nat → Value} {N j : Nat} (h : j < N) : ((List.range N).map V)[j]? = some (V j) := by simp [h]
theorem map_succ (V : Nat → Value) (N : Nat) : (List.range (N + 1)).map V = (List.range N).map V ++ [V N] := by rw [List.range_succ, List.map_append]; rfl
def offS (D : Nat → List Df) : Nat → Nat
  | 0 => 0
  | n + 1 => offS D n + (D n).length
theorem offS_le {D : Nat → List Df} (h : ∀ j, (D j).length ≤ 256) : ∀ N, offS D N ≤ 256 * N
  | 0 => Nat.le_refl _
  | N + 1 => by have h1 := offS_le h N; have h2 := h N; show offS D N + _ ≤ _; omega
theorem offS_lt {D : Nat → List Df} {i k : Nat} (hk : k < (D i).length) : ∀ N, i < N → offS D i + k < offS D N
  | 0, h => by omega
  | N + 1, h => by
    show _ < offS D N + _
    by_cases e : i = N
    · subst e; omega
    · have := offS_lt hk N (by omega); omega
theorem flat_types {ow : Nat → Nat} : ∀ (N : Nat), AllS w H N D V U → OwnS ow N D V U → ∃ (Q : Nat → Value) (TY : Nat → List Ex), (∀ i, i < N → ∀ k, k < (D i).length → Q (offS D i + k) = U i k ∧ TY (offS D i + k) = tyD (D i) k) ∧
    Many w H 30 7 (offS D N) Q (fun q => (TY q).length) (fun q => exs (TY q)) ∧ ∀ q, q < offS D N → ∃ i k, i < N ∧ k < (D i).length ∧ Q q = U i k ∧ TY q = tyD (D i) k
  | 0, _, _ => ⟨fun _ => undef, fun _ => [], fun i h => by omega, Many.zero, fun q h => by simp [offS] at h⟩
  | N + 1, hA, hO => by
    obtain ⟨Q, TY, h1, h2, h3⟩ := flat_types N (fun j hj => hA j (by omega)) (fun j hj => hO j (by omega))
    have hN := hA N (by omega)
    have e1 : ∀ q, q < offS D N → (if q < offS D N then Q q else U N (q - offS D N)) = Q q := fun q h => if_pos h
    refine ⟨fun q => if q < offS D N then Q q else U N (q - offS D N), fun q => if q < offS D N then TY q else tyD (D N) (q - offS D N), fun i hi k hk => ?_, ⟨fun q hq => ?_, fun q q' hq hq' hne k hk => ?_⟩, fun q hq => ?_⟩
    · by_cases e : i = N
      · subst e
        simp [show ¬ offS D i + k < offS D i by omega]
      · have := offS_lt hk N (by omega)
        simp only [if_pos this]
        exact h1 i (by omega) k hk
    · by_cases e : q < offS D N
      · simp only [if_pos e]; exact h2.row q e
      · simp only [if_neg e]; exact hN.tys.row _ (by simp only [offS] at hq; omega)
    · have cr : ∀ a, a < offS D N → ∀ b, ¬ b < offS D N → b < offS D (N + 1) → ∀ k, (Q a).ownBlock = some k → (U N (b - offS D N)).ownBlock = some k → False := fun a ha b hb hb2 k hk1 hk2 => by
        obtain ⟨i, j, g1, g2, g3, -⟩ := h3 a ha
        have a1 := hO i (by omega) k (.inr ⟨j, g2, by rw [← g3]; exact hk1⟩)
        have a2 := hO N (by omega) k (.inr ⟨b - offS D N, by simp only [offS] at hb2; omega, hk2⟩)
        omega
      by_cases e : q < offS D N
      · simp only [if_pos e] at hk
        by_cases e' : q' < offS D N
        · simp only [if_pos e']; exact h2.off q q' e e' hne k hk
        · simp only [if_neg e']; exact fun hk2 => cr q e q' e' hq' k hk hk2
      · simp only [if_neg e] at hk
        by_cases e' : q' < offS D N
        · simp only [if_pos e']; exact fun hk2 => cr q' e' q e hq k hk2 hk
        · simp only [if_neg e']
          simp only [offS] at hq hq'
          exact hN.tys.off _ _ (by omega) (by omega) (by omega) k hk
    · by_cases e : q < offS D N
      · obtain ⟨i, k, g1, g2, g3, g4⟩ := h3 q e
        simp only [if_pos e]
        exact ⟨i, k, by omega, g2, g3, g4⟩
      · simp only [if_neg e]
        exact ⟨N, q - offS D N, by omega, by simp only [offS] at hq; omega, rfl, rfl⟩
theorem flat_rows {ow : Nat → Nat} (hA : AllS w H N D V U) (hO : OwnS ow N D V U) : Many w H 40 3 N V (fun i => (D i).length) (fun i => drows (D i) (U i)) :=
  ⟨fun j hj => (hA j hj).row, fun i j hi hj hij k hk hk2 => hij (by rw [← hO i hi k (.inl hk), ← hO j hj k (.inl hk2)])⟩
def mkE (q : Nat) : Ex := ⟨-1 - (q : Int), 0, [], [], 0, 0, 0⟩
def mkD (i : Nat) : Df := ⟨[], -1 - (i : Int), []⟩
end
theorem o_bs2A {P : Program} {e : Env} {w : World} {K : Value → World → Prop} {ty t el : TypeId} {s bs bs' : Nat} {z z' a b : Value} {d' : TypeDesc} {x y : Operand} (ht : Ty P t (.slice el) s bs z) (hel : Ty P el d' 1 bs' z') (hx : ev e x = .agg #[a]) (hy : ev e y = .agg #[b])
    (k : K (.slice (some ⟨w.heap.size, 0, none⟩) 2 2) (w.alloc (.cells #[a, b] el))) : OP P e (.buildSlice t 2 #[(0, x), (1, y)]) ty w K := by
  refine o_bs ht hel (by simp) (cells := #[a, b]) ?_ (by simp) k
  simp [Instr.fill, hx, hy, Value.cells, Array.range, List.range, List.range.loop]
  refine Array.ext (by simp) (fun i h1 h2 => ?_)
  have h3 : i = 0 ∨ i = 1 := by simp at h2; omega
  rcases h3 with rfl | rfl <;> simp


theorem st_one (ss : List (List UInt8)) (i : Nat) (h : i < ss.length) : (ss.map st)[i]? = some (st ss[i]) := by simp [h]
theorem lt_snoc {N m : Nat} {D : Nat → List Df} {V : Nat → Value} {U : Nat → Nat → Value} {v : Value} {u : Nat → Value} (h : ∀ j, j < N → ∀ k, DF (V j) (U j) (D j).length k → k < m) (hv : ∀ k, DF v u (D N).length k → k < m) :
    ∀ j, j < N + 1 → ∀ k, DF (if j = N then v else V j) (if j = N then u else U j) (D j).length k → k < m := fun j hj k hk => by
  by_cases e : j = N
  · subst e; simp only [if_pos] at hk; exact hv k hk
  · simp only [if_neg e] at hk; exact h j (by omega) k hk
theorem own_cell1 {w : World} {base : Nat} {el : TypeId} {n cap g i : Nat} {u : Value} {xs : List Value} (h : w.ownsRow base el 1 (.slice (some ⟨g, 0, none⟩) n cap) n xs) (hi : xs[i]? = some u) : Cells w g (0 + i * 1) [u] := by
  have h1 := own_cellsAt h i
  have h2 : (xs.drop (i * 1)).take 1 = [u] := by
    rw [Nat.mul_one]
    obtain ⟨hl, rfl⟩ := List.getElem?_eq_some_iff.1 hi
    rw [← List.getElem_cons_drop hl]; rfl
  rw [h2] at h1
  exact h1
theorem parse_fix : ∃ (fD : List Df) (fa fb : Nat), fD.length ≤ 256 ∧ DOk fD ∧ ∀ w0 : World, Ca Try.prog 19 #[st [116, 121, 112, 101, 32, 97, 32, 61, 32, 115, 116, 114, 117, 99, 116, 32, 123, 120, 58, 32, 117, 56, 44, 32, 121, 58, 32, 108, 105, 115, 116, 60, 98, 44, 32, 55, 62, 125, 59, 32, 116, 121, 112, 101, 32, 98, 32, 61, 32, 98, 111, 111, 108, 59]] w0 (fun v w' => ∃ dv V, v = .tuple #[.agg #[dv], .agg (faultV fa fb)] ∧ Defs w' w0.heap.size fD dv V ∧ Ext w0 w') :=
  ⟨_, _, _, parse_256 _, parse_ok _, fun w0 => parse_spec [116, 121, 112, 101, 32, 97, 32, 61, 32, 115, 116, 114, 117, 99, 116, 32, 123, 120, 58, 32, 117, 56, 44, 32, 121, 58, 32, 108, 105, 115, 116, 60, 98, 44, 32, 55, 62, 125, 59, 32, 116, 121, 112, 101, 32, 98, 32, 61, 32, 98, 111, 111, 108, 59] w0 (by decide)⟩


theorem take_set {L : List Ex} {j : Nat} {m x : Ex} (h : x ∈ (L.set j m).take (j + 1)) : x = m ∨ x ∈ L.take j := by
  rcases Nat.lt_or_ge j L.length with hj | hj
  · rw [List.take_add_one, List.take_set_of_le (Nat.le_refl _)] at h
    rcases List.mem_append.1 h with h | h
    · exact .inr h
    · rw [List.getElem?_set_self hj] at h
      simp at h; exact .inl h
  · rw [List.set_eq_of_length_le hj] at h
    rw [List.take_of_length_le (by omega)] at h
    rw [List.take_of_length_le hj]; exact .inr h
theorem many_rowE {w w' : World} {H0 : Nat} {T : Nat} {Q : Nat → Value} {TY : Nat → List Ex} (h : Many w H0 30 7 T Q (fun q => (TY q).length) (fun q => exs (TY q))) {q : Nat} {L : List Ex} (hq : q < T) (ho : Only (fun k => (Q q).ownBlock = some k) w w') (hr : w'.ownsRow H0 30 7 (Q q) L.length (exs L)) :
    Many w' H0 30 7 T Q (fun p => (if p = q then L else TY p).length) (fun p => exs (if p = q then L else TY p)) :=
  (h.set hq ho hr).congr (fun _ _ => rfl) (fun j _ => by by_cases e : j = q <;> simp [e]) (fun j _ => by by_cases e : j = q <;> simp [e])
theorem many_rowD {w w' : World} {H0 N : Nat} {V : Nat → Value} {U : Nat → Nat → Value} {C : Nat → List Df} (h : Many w H0 40 3 N V (fun i => (C i).length) (fun i => drows (C i) (U i))) {i : Nat} {L : List Df} (hi : i < N) (ho : Only (fun k => (V i).ownBlock = some k) w w') (hr : w'.ownsRow H0 40 3 (V i) L.length (drows L (U i))) :
    Many w' H0 40 3 N V (fun p => (if p = i then L else C p).length) (fun p => drows (if p = i then L else C p) (U p)) :=
  (h.set hi ho hr).congr (fun _ _ => rfl) (fun j _ => by by_cases e : j = i <;> simp [e]) (fun j _ => by by_cases e : j = i <;> simp [e])
theorem sl_drow {w : World} {D : List Df} {dv : Value} {V : Nat → Value} (h : Sl w 3 dv D.length (drows D V)) {k : Nat} (hk : k < D.length) : ∃ b o c, dv = .slice (some ⟨b, o, none⟩) D.length c ∧ Cells w b (o + k * 3) (dcell (D.getD k df0) (V k)) := by
  rcases h.val with ⟨hz, h0⟩ | ⟨b, o, c, rfl, hnc, hc⟩
  · omega
  · exact ⟨b, o, c, rfl, by rw [← drows_at D V hk]; exact hc.sub _ _⟩
theorem kinds_snoc {L : List Ex} {q : Nat} (h : ∀ x ∈ L, x.kind = -1 - (q : Int)) : ∀ x ∈ L ++ [mkE q], x.kind = -1 - (q : Int) := fun x hx => by
  rcases List.mem_append.1 hx with hx | hx
  · exact h x hx
  · simp at hx; rw [hx]; rfl
theorem ats_snoc {D : List Df} {i : Nat} (h : ∀ k, k < D.length → (D.getD k df0).at_ = -1 - (i : Int)) : ∀ k, k < (D ++ [mkD i]).length → ((D ++ [mkD i]).getD k df0).at_ = -1 - (i : Int) := fun k hk => by
  rw [List.getD_eq_getElem?_getD]
  by_cases e : k < D.length
  · rw [List.getElem?_append_left e, ← List.getD_eq_getElem?_getD]; exact h k e
  · have : k = D.length := by simp at hk; omega
    subst this
    simp [mkD]
theorem many_growE {w w' : World} {H0 T g : Nat} {MV : Nat → Value} {L : Nat → List Ex} (h : Many w H0 30 7 T MV (fun q => (L q).length) (fun q => exs (L q))) {r : Nat} {v' : Value} {M : List Ex} (hr : r < T) (ho : Only (fun k => (MV r).ownBlock = some k) w w') (hb : v'.ownBlock = (MV r).ownBlock ∨ v'.ownBlock = some g) (hg : w.heap.size ≤ g) (hw : w'.ownsRow H0 30 7 v' M.length (exs M)) :
    Many w' H0 30 7 T (fun p => if p = r then v' else MV p) (fun p => (if p = r then M else L p).length) (fun p => exs (if p = r then M else L p)) :=
  (h.grow hr ho hb hg hw).congr (fun _ _ => rfl) (fun j _ => by by_cases e : j = r <;> simp [e]) (fun j _ => by by_cases e : j = r <;> simp [e])

end Go.Proofs.Ytcljkkfpcomdcaa
