/-
  Walks and lemmas. Written by program out of specs of mine.
-/
import Derived.WalkKit
import Derived.WalkSpells
import Derived.WalkLawsBesides
import Derived.Deep.Quiet
import Derived.StillTail
import Derived.StringKeys
import Derived.Laws.StructEq
import Derived.Laws.Externs
import Derived.Laws.Tables
import Derived.Scope
import Derived.Test.YtgcehajdldicfaaProg
import Derived.Laws.AppendOwn
import Derived.Maps.AppendAt
import Derived.Recover
import Derived.Lib.Bytealg
import Derived.SizedLaws
import Derived.ChangeArms
import Derived.ChangeSlices
import Derived.Maps.OwnSet
import Derived.Test.YtgcehajdldicfaaRows
import Derived.ProofKit
import Derived.OpenShut
import Derived.ShutString
import Derived.ChangeOld
import Derived.Below
import Derived.JoinedCond
import Derived.SliceStrings
import Derived.Test.YtgcehajdldicfaaKn4
set_option linter.unusedSimpArgs false
set_option linter.unusedVariables false
set_option maxRecDepth 100000
set_option linter.unusedSimpArgs false
set_option linter.unusedVariables false
set_option maxRecDepth 100000
namespace Go.Proofs.Ytgcehajdldicfaa
open Go Go.Vc Go.RowKit Go.Proofs
set_option maxHeartbeats 2000000 in
theorem n8_lent (D : List Df) (dv : Value) (V : Nat → Value) (w0 : World) (hD0 : DefR w0 D dv V) (hlim : DOk D) : Ca Try.prog 11 #[.agg #[dv]] w0 (fun r w' => ∃ gv U, r = .agg #[shr gv] ∧ Lent w' w0.heap.size D gv U ∧ Ext w0 w') := by
  obtain ⟨BB, hBB⟩ : ∃ B, B = w0.heap.size := ⟨_, rfl⟩
  rw [← hBB]
  have hlen := hlim.len
  refine Ca.of Try.func11 Try.ntmps11 rfl rfl ?_
  refine W.seq ?_
  refine W.region ?_
  refine WL.c rfl (o_boxB rfl ?_)
  intro w1 hC1 hx1 hs1
  have hx := hx1
  replace hC1 : w1.heap[w0.heap.size]? = some (.cells #[dv] 24 (0, 0)) := hC1
  obtain ⟨c1, hc1⟩ : ∃ c, c = w0.heap.size := ⟨_, rfl⟩
  rw [← hc1] at hC1 ⊢
  refine WL.c rfl (o_alB TI24 ?_)
  intro w2 hC2 hx2 hs2
  replace hx := hx.tr hx2
  replace hC1 := hx2.blk hC1 (fun h => h)
  replace hC2 : w2.heap[w1.heap.size]? = some (.cells #[.slice none 0 0] 24 (0, 0)) := hC2
  obtain ⟨c2, hc2⟩ : ∃ c, c = w1.heap.size := ⟨_, rfl⟩
  rw [← hc2] at hC2 ⊢
  refine WL.nil ?_
  refine W.seq ?_
  refine W.region ?_
  refine WL.c rfl (o_alB TI24 ?_)
  intro w3 hC3 hx3 hs3
  replace hx := hx.tr hx3
  replace hC1 := hx3.blk hC1 (fun h => h)
  replace hC2 := hx3.blk hC2 (fun h => h)
  replace hC3 : w3.heap[w2.heap.size]? = some (.cells #[.slice none 0 0] 24 (0, 0)) := hC3
  obtain ⟨c3, hc3⟩ : ∃ c, c = w2.heap.size := ⟨_, rfl⟩
  rw [← hc3] at hC3 ⊢
  have hB1 : BB ≤ c1 := by omega
  have hB2 : BB ≤ c2 := by omega
  have hB3 : BB ≤ c3 := by omega
  have hc12 : ¬ c1 = c2 := by omega
  have hc13 : ¬ c1 = c3 := by omega
  have hc23 : ¬ c2 = c3 := by omega
  refine WL.nil ?_
  refine W.seq ?_
  refine W.seq ?_
  refine W.region ?_
  refine WL.c rfl (o_ash (show _ = Value.int _ _ from rfl) ?_)
  refine WL.nil ?_
  refine W.block ?_
  refine W.loop (fun e w => ∃ (k : Nat) (gv : Value) (U : Nat → Value), k ≤ D.length ∧ e 1 = .pointer (some ⟨c1, 0, none⟩) ∧ e 2 = .pointer (some ⟨c2, 0, none⟩) ∧ e 3 = .pointer (some ⟨c3, 0, none⟩) ∧ e 4 = .int .i64 (k : Int) ∧ w.heap[c1]? = some (.cells #[dv] 24 (0, 0)) ∧ w.heap[c2]? = some (.cells #[.slice none 0 0] 24 (0, 0)) ∧ w.heap[c3]? = some (.cells #[gv] 24 (0, 0)) ∧ w.ownsRow BB 39 3 gv k (drowsK D (fun j => shr (U j)) k) ∧ Many w BB 26 7 k U (lenM D) (rowM D) ∧ Ext w0 w) (fun e w => D.length - (intOf (e 4)).toNat) ?_ ?_
  · exact ⟨0, .slice none 0 0, fun _ => undef, Nat.zero_le _, rfl, rfl, rfl, rfl, hC1, hC2, hC3, World.ownsRow_nil _ _ _ _, Many.zero, hx⟩
  rintro e w ⟨k, gv, U, hk, h1, h2, h3, h4, hC1, hC2, hC3, hrow, htys, hx⟩
  have hm4 := h4
  have hxs := hx.size
  refine W.seq ?_
  refine W.seq ?_
  refine W.region ?_
  refine WL.c rfl (o_mvh h4 ?_)
  refine WL.c rfl (o_fa 0 TI24 rfl TI22 rfl h1 ?_)
  refine WL.c rfl (o_ld TI22 rfl rfl (cell_of hC1 rfl) ?_)
  refine WL.c rfl (o_lenR TI22 rfl (hD0.ext hx).row ?_)
  refine WL.c rfl (o_lt rfl rfl ?_)
  refine WL.nil ?_
  refine W.cond rfl (fun c10 => ?_) (fun c10 => ?_)
  · try simp only [decide_eq_true_eq, decide_eq_false_iff_not, Bool.not_eq_true', Bool.not_eq_false', Bool.and_eq_true, Bool.or_eq_true, Bool.and_eq_false_iff, Bool.or_eq_false_iff] at c10
    have hk1 : k < D.length := by omega
    obtain ⟨tb, to_, tc, rfl, htc, hty⟩ := (hD0.ext hx).atk hk1
    have htl := hlim.ty _ (List.getElem_mem hk1)
    refine W.skip ?_
    refine W.seq ?_
    refine W.block ?_
    refine W.seq ?_
    refine W.region ?_
    refine WL.c rfl (o_ash (by first | exact (show _ = Value.slice _ _ _ from rfl) | exact rfl) ?_)
    refine WL.nil ?_
    refine W.seq ?_
    refine W.region ?_
    refine WL.c rfl (o_mvh (by first | exact (show _ = Value.slice _ _ _ from rfl) | exact rfl) ?_)
    refine WL.c rfl (o_fa 0 TI24 rfl TI22 rfl h1 ?_)
    refine WL.c rfl (o_ld TI22 rfl rfl (cell_of hC1 rfl) ?_)
    refine WL.c rfl (o_mvh h4 ?_)
    refine WL.c rfl (o_ixB TI22 TI39 rfl rfl (by omega) ?_)
    refine WL.c rfl (o_fa 2 TI39 rfl TI37 rfl rfl ?_)
    refine WL.c rfl (o_ld TI37 rfl rfl (htc 2 _ rfl) ?_)
    refine WL.c rfl (o_apO (w.heap.size) TI37 TI26 rfl rfl (World.ownsRow_nil _ _ _ _) hty rfl (by decide) (one_exs _) (by rw [maxLen_eq]; omega) (by omega) (Nat.le_refl _) ?_)
    intro v20 w20 hown20 ho20 hb20 hk20
    rw [Nat.zero_add, List.nil_append] at hown20
    have hx20 : Ext w w20 := ho20.mono (fun j _ h => by cases h)
    clear ho20 hb20 hk20
    replace hC1 := hx20.blk hC1 (fun h => h)
    replace hC2 := hx20.blk hC2 (fun h => h)
    replace hC3 := hx20.blk hC3 (fun h => h)
    have hrow20 := own_ext hrow hx20
    have htys20 := htys.ext hx20
    replace hx := hx.tr hx20
    have hs20 := hx20.size
    refine WL.c rfl (o_ash (by first | exact (show _ = Value.slice _ _ _ from rfl) | exact rfl) ?_)
    refine WL.nil ?_
    refine W.seq ?_
    refine W.region ?_
    refine WL.c rfl (o_mvh (by first | exact (show _ = Value.slice _ _ _ from rfl) | exact rfl) ?_)
    refine WL.c rfl (o_bldC (cs := [(.int .i64 (-77)), (.int .i64 0), (.string ⟨#[]⟩), (.string ⟨#[]⟩), (.int .i64 0), (.int .i64 0), (.int .i64 0)]) TI26 (Sizes.cons TI3 (Sizes.cons TI3 (Sizes.cons TI9 (Sizes.cons TI9 (Sizes.cons TI3 (Sizes.cons TI3 (Sizes.cons TI3 Sizes.nil))))))) rfl (lcp (show _ = Value.int _ _ from rfl) lnp) rfl rfl ?_)
    refine WL.apO (w.heap.size) rfl rfl TI37 TI26 (show _ = Value.agg (exV exK).toArray from rfl) (show _ = v20 from rfl) hown20 (by decide) (by decide) rfl (fun a ha => List.all_eq_true.1 (show List.all _ (fun a => a.oneCell') = true from rfl) a ha) rfl (by rw [maxLen_eq]; omega) (by omega) hs20 ?_
    intro v24 w24 hown24 ho24 hb24 _
    replace hown24 : w24.ownsRow w.heap.size 26 7 v24 (D[k].ty.length + 1) (exs D[k].ty ++ exV exK) := hown24
    replace ho24 : Only (fun k => v20.ownBlock = some k) w20 w24 := ho24
    have hlt20 : ∀ b, v20.ownBlock = some b → w.heap.size ≤ b := fun b hb => (hown20.lt b hb).1
    have hc1l := (Array.getElem?_eq_some_iff.1 hC1).1
    replace hC1 := ho24.blk hC1 (fun he => own_off hown20 hC1 (by decide) he)
    replace hC2 := ho24.blk hC2 (fun he => own_off hown20 hC2 (by decide) he)
    replace hC3 := ho24.blk hC3 (fun he => own_off hown20 hC3 (by decide) he)
    replace hrow := own_only hrow20 ho24 (fun b hb hF => by have := hlt20 b hF; have := (hrow.lt b hb).2; omega)
    have htl2 : ∀ j, j < k → ∀ b, (U j).ownBlock = some b → b < w.heap.size := fun j hj b hb => (htys.lt hj hb).2
    replace htys := htys20.only ho24 (fun j hj b hb hF => by have := hlt20 b hF; have := htl2 j hj b hb; omega)
    replace hx := hx.trans' ho24 (fun _ h => h) (fun b hb he => by have := hlt20 b he; omega)
    have hs24 := hx.size
    have hs25 := ho24.size
    obtain ⟨g, cap, rfl, hgb⟩ := own_some hown24 (by omega)
    refine WL.c rfl (o_ash (by first | exact (show _ = Value.slice _ _ _ from rfl) | exact rfl) ?_)
    refine WL.nil ?_
    obtain ⟨wd, hwd⟩ : ∃ wd, wd = w24.drew := ⟨_, rfl⟩
    have hxd : Ext w24 wd := hwd ▸ Only.drew w24
    replace hx := hx.tr hxd
    replace hown24 := own_ext hown24 hxd
    replace hC1 := hxd.blk hC1 (fun h => h)
    replace hC2 := hxd.blk hC2 (fun h => h)
    replace hC3 := hxd.blk hC3 (fun h => h)
    replace hrow := own_ext hrow hxd
    replace htys := htys.ext hxd
    obtain ⟨_, _, _, hvd, htcd, -⟩ := (hD0.ext hx).atk hk1
    cases hvd
    refine W.drawT 21 (Ext) [(1, fun v _ => v = _), (2, fun v _ => v = _), (3, fun v _ => v = _), (4, fun v _ => v = _), (5, fun v _ => v = _)] rfl (by kernel_rfl) (Only.refl No) (fun _ _ _ h k => h.trans k) ⟨Mono.eq, Mono.eq, Mono.eq, Mono.eq, Mono.eq, trivial⟩ ⟨h1, h2, h3, h4, rfl, trivial⟩ ?_
    refine WD.p rfl (fun e w hR hh => by obtain ⟨h3, -⟩ := hh; exact SG.n (o_fa 0 TI24 rfl TI22 rfl h3 ⟨rfl, Only.refl No _⟩)) ?_
    refine WD.p rfl (fun e w hR hh => by obtain ⟨h25, -⟩ := hh; rw [← hwd] at hR; exact SG.n (o_ld TI22 rfl h25 (cell_of (hR.blk hC3 (fun h => h)) rfl) ⟨rfl, Only.refl No _⟩)) ?_
    refine WD.p rfl (fun e w hR hh => by obtain ⟨h1, -⟩ := hh; exact SG.n (o_fa 0 TI24 rfl TI22 rfl h1 ⟨rfl, Only.refl No _⟩)) ?_
    refine WD.p rfl (fun e w hR hh => by obtain ⟨h27, -⟩ := hh; rw [← hwd] at hR; exact SG.n (o_ld TI22 rfl h27 (cell_of (hR.blk hC1 (fun h => h)) rfl) ⟨rfl, Only.refl No _⟩)) ?_
    refine WD.p rfl (fun e w hR hh => by obtain ⟨h4, -⟩ := hh; exact SG.n (o_mvh h4 ⟨rfl, Only.refl No _⟩)) ?_
    refine WD.p rfl (fun e w hR hh => by obtain ⟨h29, h28, -⟩ := hh; exact SG.n (o_ixB TI22 TI39 h28 h29 (by omega) ⟨rfl, Only.refl No _⟩)) ?_
    refine WD.p rfl (fun e w hR hh => by obtain ⟨h30, -⟩ := hh; exact SG.n (o_fa 0 TI39 rfl TI9 rfl h30 ⟨rfl, Only.refl No _⟩)) ?_
    refine WD.p rfl (fun e w hR hh => by obtain ⟨h31, -⟩ := hh; rw [← hwd] at hR; exact SG.n (o_ld TI9 rfl h31 (Cells.only htcd hR (fun h => h) 0 _ rfl) ⟨rfl, Only.refl No _⟩)) ?_
    refine WD.p rfl (fun e w hR hh => by obtain ⟨h1, -⟩ := hh; exact SG.n (o_fa 0 TI24 rfl TI22 rfl h1 ⟨rfl, Only.refl No _⟩)) ?_
    refine WD.p rfl (fun e w hR hh => by obtain ⟨h33, -⟩ := hh; rw [← hwd] at hR; exact SG.n (o_ld TI22 rfl h33 (cell_of (hR.blk hC1 (fun h => h)) rfl) ⟨rfl, Only.refl No _⟩)) ?_
    refine WD.p rfl (fun e w hR hh => by obtain ⟨h4, -⟩ := hh; exact SG.n (o_mvh h4 ⟨rfl, Only.refl No _⟩)) ?_
    refine WD.p rfl (fun e w hR hh => by obtain ⟨h35, h34, -⟩ := hh; exact SG.n (o_ixB TI22 TI39 h34 h35 (by omega) ⟨rfl, Only.refl No _⟩)) ?_
    refine WD.p rfl (fun e w hR hh => by obtain ⟨h36, -⟩ := hh; exact SG.n (o_fa 1 TI39 rfl TI3 rfl h36 ⟨rfl, Only.refl No _⟩)) ?_
    refine WD.p rfl (fun e w hR hh => by obtain ⟨h37, -⟩ := hh; rw [← hwd] at hR; exact SG.n (o_ld TI3 rfl h37 (Cells.only htcd hR (fun h => h) 1 _ rfl) ⟨rfl, Only.refl No _⟩)) ?_
    refine WD.p rfl (fun e w hR hh => by obtain ⟨h5, -⟩ := hh; exact SG.n (o_mvh h5 ⟨rfl, Only.refl No _⟩)) ?_
    refine WD.p rfl (fun e w hR hh => by obtain ⟨h5, -⟩ := hh; exact SG.n (o_mvh h5 ⟨rfl, Only.refl No _⟩)) ?_
    refine WD.p rfl (fun e w hR hh => by obtain ⟨h40, -⟩ := hh; exact SG.n (o_len TI37 h40 ⟨rfl, Only.refl No _⟩)) ?_
    refine WD.p rfl (fun e w hR hh => by obtain ⟨h41, -⟩ := hh; exact SG.n (o_subi h41 rfl (by omega) ⟨rfl, Only.refl No _⟩)) ?_
    refine WD.p rfl (fun e w hR hh => by obtain ⟨h42, h39, -⟩ := hh; exact SG.n (o_slv (h := D[k].ty.length) TI37 TI26 h39 Lo.n (Hi.s (h42.trans (by congr 1; omega))) (Nat.zero_le _) (by obtain ⟨_, _, hv, hh⟩ := own_form hown24; cases hv; omega) ⟨sliced0 _ _ _ _, Only.refl No _⟩)) ?_
    refine WD.p rfl (fun e w hR hh => by obtain ⟨h43, h38, h32, -⟩ := hh; exact SG.n (o_bldC (cs := [_, _, _]) TI39 (Sizes.cons TI9 (Sizes.cons TI3 (Sizes.cons TI37 Sizes.nil))) rfl (lcp h32 (lcp h38 (lcp h43 lnp))) rfl rfl ⟨rfl, Only.refl No _⟩)) ?_
    refine WD.q (fun u w => w.ownsRow wd.heap.size 39 3 u 1 (dcell D[k] (.slice (some ⟨g, 0, none⟩) D[k].ty.length cap))) (fun u w w2 hR hh => own_ext hh hR) rfl (fun e w hR hh => by obtain ⟨h44, -⟩ := hh; rw [← hwd] at hR; exact SG.n (o_bs1 TI22 TI39 h44 (by decide) (by decide) rfl ⟨own_mono (own_new1 rfl) hR.size, Only.alloc w _⟩)) ?_
    rintro e w hR ⟨h45, h44, h43, h42, h41, h40, h39, h38, h37, h36, h35, h34, h33, h32, h31, h30, h29, h28, h27, h26, h25, h1, h2, h3, h4, h5, -⟩
    rw [← hwd] at hR
    replace hx := hx.tr hR
    replace hown24 := own_ext hown24 hR
    replace hC1 := hR.blk hC1 (fun h => h)
    replace hC2 := hR.blk hC2 (fun h => h)
    replace hC3 := hR.blk hC3 (fun h => h)
    replace hrow := own_ext hrow hR
    replace htys := htys.ext hR
    refine WL.c rfl (o_apO (BB) TI22 TI39 h26 rfl hrow (Sl.own h45) rfl (by decide) (by simp [dcell, Value.oneCell', st]) (by rw [maxLen_eq]; omega) (by omega) (by rw [hBB]; exact hx.size) ?_)
    intro v46 w46 hrow46 ho46 hb46 _
    have hrl : ∀ b, gv.ownBlock = some b → BB ≤ b := fun b hb => (hrow.lt b hb).1
    replace hC1 := ho46.blk hC1 (fun he => own_off hrow hC1 (by decide) he)
    replace hC2 := ho46.blk hC2 (fun he => own_off hrow hC2 (by decide) he)
    replace hC3 := ho46.blk hC3 (fun he => own_off hrow hC3 (by decide) he)
    have htys2 := htys.other hrow (by decide) ho46
    replace hown24 := own_only hown24 ho46 (fun b hb hF => own_row_off hrow hown24 (by decide) b hb hF)
    replace hx := hx.trans' ho46 (fun _ h => h) (fun b hb he => by have := hrl b he; omega)
    have htys3 := lent_snoc (D := D) htys2 (by rw [lenM, rowM, tyD_at hk1]; exact hown24) (by omega) htl2
    refine WL.c rfl (o_fa 0 TI24 rfl TI22 rfl h3 ?_)
    refine WL.u (o_stB TI22 rfl (show _ = v46 from rfl) (own_one hrow46) hC3 (show 0 < 1 by decide) ?_)
    intro w47 hC3' ho47 hs47
    replace hrow46 := own_only hrow46 ho47 (fun b hb he => by subst he; exact own_off hrow46 hC3 (by decide) hb)
    have hC3q := hC3
    replace hC3 : w47.heap[c3]? = some (.cells #[v46] 24 (0, 0)) := hC3'
    replace hC1 := ho47.blk hC1 hc13
    replace hC2 := ho47.blk hC2 hc23
    replace htys3 := htys3.only ho47 (fun j hj b hb he => by subst he; exact own_off (htys3.row j hj) hC3q (by decide) hb)
    replace hx := hx.trans' ho47 (fun _ h => h) (fun b hb he => by omega)
    refine WL.nil ?_
    refine W.region ?_
    refine WL.c rfl (o_mvh h4 ?_)
    refine WL.c rfl (o_addi rfl rfl (by omega) ?_)
    refine WL.c rfl (o_ash (show _ = Value.int _ _ from rfl) ?_)
    refine WL.nil ?_
    refine ⟨⟨k + 1, v46, fun j => if j = k then (.slice (some ⟨g, 0, none⟩) (D[k].ty.length + 1) cap) else U j, by omega, h1, h2, h3, rfl, hC1, hC2, hC3, ?_, htys3, hx⟩, ?_⟩
    · rw [show (fun j => shr (if j = k then (.slice (some ⟨g, 0, none⟩) (D[k].ty.length + 1) cap) else U j)) = (fun j => if j = k then shr (.slice (some ⟨g, 0, none⟩) (D[k].ty.length + 1) cap) else (fun j => shr (U j)) j) from by funext j; split <;> rfl, drowsK_succ, getD_at hk1]
      exact hrow46
    · show D.length - ((k : Int) + 1).toNat < _
      rw [hm4]; simp [intOf]; omega
  · try simp only [decide_eq_true_eq, decide_eq_false_iff_not, Bool.not_eq_true', Bool.not_eq_false', Bool.and_eq_true, Bool.or_eq_true, Bool.and_eq_false_iff, Bool.or_eq_false_iff] at c10
    have hk1 : k = D.length := by omega
    subst hk1
    refine W.exit ?_
    refine W.seq ?_
    refine W.region ?_
    refine WL.c rfl (o_fa 0 TI24 rfl TI22 rfl h3 ?_)
    refine WL.c rfl (o_ld TI22 rfl rfl (cell_of hC3 rfl) ?_)
    refine WL.c rfl (o_bldC (cs := [(st [109, 97, 114, 107]), (.int .i64 (-78)), (.slice none 0 0)]) TI39 (Sizes.cons TI9 (Sizes.cons TI3 (Sizes.cons TI37 Sizes.nil))) rfl (lcp (show _ = Value.string _ from rfl) (lcp (show _ = Value.int _ _ from rfl) lnp)) rfl rfl ?_)
    refine WL.apO (BB) rfl rfl TI22 TI39 (show _ = Value.agg #[st [109, 97, 114, 107], .int .i64 (-78), .slice none 0 0] from rfl) rfl hrow (by decide) (by decide) rfl (fun a ha => List.all_eq_true.1 (show List.all _ (fun a => a.oneCell') = true from rfl) a ha) rfl (by rw [maxLen_eq]; omega) (by omega) (by rw [hBB]; exact hx.size) ?_
    intro v52 w52 hrow52 ho52 hb52 _
    replace hrow52 : w52.ownsRow BB 39 3 v52 (D.length + 1) (drows D (fun j => shr (U j)) ++ markD) := hrow52
    replace ho52 : Only (fun k => gv.ownBlock = some k) w w52 := ho52
    have hrl : ∀ b, gv.ownBlock = some b → BB ≤ b := fun b hb => (hrow.lt b hb).1
    replace hC1 := ho52.blk hC1 (fun he => own_off hrow hC1 (by decide) he)
    replace hC2 := ho52.blk hC2 (fun he => own_off hrow hC2 (by decide) he)
    replace hC3 := ho52.blk hC3 (fun he => own_off hrow hC3 (by decide) he)
    replace htys := htys.other hrow (by decide) ho52
    replace hx := hx.trans' ho52 (fun _ h => h) (fun b hb he => by have := hrl b he; omega)
    refine WL.c rfl (o_fa 0 TI24 rfl TI22 rfl h3 ?_)
    refine WL.u (o_stB TI22 rfl (show _ = v52 from rfl) (own_one hrow52) hC3 (show 0 < 1 by decide) ?_)
    intro w53 hC3' ho53 hs53
    replace hrow52 := own_only hrow52 ho53 (fun b hb he => by subst he; exact own_off hrow52 hC3 (by decide) hb)
    replace htys := htys.only ho53 (fun j hj b hb he => by subst he; exact own_off (htys.row j hj) hC3 (by decide) hb)
    replace hC3 : w53.heap[c3]? = some (.cells #[v52] 24 (0, 0)) := hC3'
    replace hC1 := ho53.blk hC1 hc13
    replace hC2 := ho53.blk hC2 hc23
    replace hx := hx.trans' ho53 (fun _ h => h) (fun b hb he => by omega)
    obtain ⟨g, cap, rfl, hgb⟩ := own_some hrow52 (by omega)
    refine WL.nil ?_
    refine W.seq ?_
    refine W.region ?_
    refine WL.c rfl (o_fa 0 TI24 rfl TI22 rfl h3 ?_)
    refine WL.c rfl (o_ld TI22 rfl rfl (cell_of hC3 rfl) ?_)
    refine WL.c rfl (o_fa 0 TI24 rfl TI22 rfl h1 ?_)
    refine WL.c rfl (o_ld TI22 rfl rfl (cell_of hC1 rfl) ?_)
    refine WL.c rfl (o_lenR TI22 rfl (hD0.ext hx).row ?_)
    refine WL.c rfl (o_slv (h := D.length) TI22 TI39 rfl Lo.n (Hi.s rfl) (Nat.zero_le _) (by obtain ⟨_, _, hv, hh⟩ := own_form hrow52; cases hv; omega) ?_)
    rw [sliced0]
    refine WL.c rfl (o_fa 0 TI24 rfl TI22 rfl h3 ?_)
    refine WL.u (o_stB TI22 rfl (show _ = Value.slice (some ⟨g, 0, none⟩) D.length cap from rfl) rfl hC3 (show 0 < 1 by decide) ?_)
    intro w60 hC3' ho60 hs60
    replace hrow52 := own_only hrow52 ho60 (fun b hb he => by subst he; exact own_off hrow52 hC3 (by decide) hb)
    replace htys := htys.only ho60 (fun j hj b hb he => by subst he; exact own_off (htys.row j hj) hC3 (by decide) hb)
    replace hC3 : w60.heap[c3]? = some (.cells #[.slice (some ⟨g, 0, none⟩) D.length cap] 24 (0, 0)) := hC3'
    replace hC1 := ho60.blk hC1 hc13
    replace hC2 := ho60.blk hC2 hc23
    replace hx := hx.trans' ho60 (fun _ h => h) (fun b hb he => by omega)
    refine WL.nil ?_
    refine W.seq ?_
    refine W.region ?_
    refine WL.c rfl (o_ldA TI24 rfl h3 (show Cells _ c3 0 [.slice (some ⟨g, 0, none⟩) D.length cap] from Cells.of hC3 0 _ (by simp)) rfl ?_)
    refine WL.u (o_stA TI24 h2 (show _ = Value.agg #[.slice (some ⟨g, 0, none⟩) D.length cap] from rfl) rfl rfl hC2 rfl ?_)
    intro w62 hC2' ho62 hs62
    replace hrow52 := own_only hrow52 ho62 (fun b hb he => by subst he; exact own_off hrow52 hC2 (by decide) hb)
    replace htys := htys.only ho62 (fun j hj b hb he => by subst he; exact own_off (htys.row j hj) hC2 (by decide) hb)
    replace hC2 : w62.heap[c2]? = some (.cells #[.slice (some ⟨g, 0, none⟩) D.length cap] 24 (0, 0)) := hC2'
    replace hx := hx.trans' ho62 (fun _ h => h) (fun b hb he => by omega)
    refine WL.nil ?_
    refine W.ret ?_
    refine retC rfl TI24 rfl h2 ((show Cells _ c2 0 [.slice (some ⟨g, 0, none⟩) D.length cap] from Cells.of hC2 0 _ (by simp))) rfl ?_
    exact ⟨_, U, rfl, ⟨hrow52, htys⟩, hx⟩
end Go.Proofs.Ytgcehajdldicfaa

set_option linter.unusedSimpArgs false
set_option linter.unusedVariables false
set_option maxRecDepth 100000
namespace Go.Proofs.Ytgcehajdldicfaa
open Go Go.Vc Go.RowKit Go.Proofs

def sumL (D : List Df) : Nat → Nat
  | 0 => 0
  | i + 1 => sumL D i + ((D.getD i df0).ty.length + 1)
theorem sumL_succ {D : List Df} {i : Nat} (hi : i < D.length) : sumL D (i + 1) = sumL D i + (D[i].ty.length + 1) := by
  rw [sumL, getD_at hi]
theorem sumL_mul {D : List Df} {M : Nat} (h : ∀ d ∈ D, d.ty.length ≤ M) : ∀ i, i ≤ D.length → sumL D i ≤ i * (M + 1)
  | 0, _ => Nat.zero_le _
  | i + 1, hi => by
    have h1 := sumL_mul h i (by omega)
    have h2 := h _ (List.getElem_mem (show i < D.length by omega))
    rw [sumL_succ (show i < D.length by omega), Nat.succ_mul]
    omega
theorem sumL_le {D : List Df} (hDl : D.length ≤ 1048576) (h : ∀ d ∈ D, d.ty.length ≤ 1048576) (i : Nat) (hi : i ≤ D.length) : sumL D i ≤ 1099512676352 := by
  have h1 := sumL_mul h i hi
  have h2 : i * (1048576 + 1) ≤ 1048576 * (1048576 + 1) := Nat.mul_le_mul_right _ (by omega)
  exact Nat.le_trans h1 (Nat.le_trans h2 (by decide))

set_option maxHeartbeats 8000000 in
theorem turned_spec (D : List Df) (dv : Value) (V : Nat → Value) (w0 : World) (hD : DefR w0 D dv V) (hlim : DOk D) (hDl : D.length ≤ 1048576) (hDt : ∀ d ∈ D, d.ty.length ≤ 1048576) : Ca Try.prog 20 #[.agg #[dv]] w0 (fun v w' => ∃ (gv : Value) (b : Bool) (H : Nat) (VV : Nat → Value) (A L : List (List UInt8)), v = .tuple #[.agg #[gv], .bool b] ∧ Defs w' H (D.map (rnD A L)) gv VV ∧ (∀ d ∈ D, inD A L d) ∧ A.length < 10 ^ 30 ∧ L.length < 10 ^ 30 ∧ Ext w0 w') := by
  have hlen := hlim.len
  refine Ca.of Try.func20 Try.ntmps20 rfl rfl ?_
  refine W.seq ?_
  refine W.region ?_
  refine WL.c rfl (o_boxB rfl ?_)
  intro w1 hC1 hx1 hs1
  obtain ⟨b1, hb1⟩ : ∃ b, b = w0.heap.size := ⟨_, rfl⟩
  rw [← hb1] at hC1 ⊢
  replace hC1 : w1.heap[b1]? = some (.cells ([dv]).toArray 24 (0, 0)) := hC1
  have hx := hx1
  replace hD := hD.ext hx1
  refine WL.c rfl (o_alB TI24 ?_)
  have hxq := hx
  intro wb hC2 hxb hsb
  replace hx := hx.tr hxb
  replace hD := hD.ext hxb
  replace hC1 := hxb.blk hC1 (fun h => h)
  obtain ⟨c2, hc2⟩ : ∃ c, c = w1.heap.size := ⟨_, rfl⟩
  rw [← hc2] at hC2 ⊢
  replace hC2 : wb.heap[c2]? = some (.cells #[.slice none 0 0] 24 (0, 0)) := hC2
  have hz2 : w0.heap.size ≤ c2 := by rw [hc2]; exact hxq.size
  clear hxq hxb
  refine WL.c rfl (o_ash (show _ = Value.bool _ from rfl) ?_)
  refine WL.nil ?_
  refine W.seq ?_
  refine W.region ?_
  refine WL.c rfl (o_ldA TI24 rfl rfl (show Cells _ b1 0 [dv] from Cells.of hC1 0 _ (by simp)) rfl ?_)
  refine WL.c rfl (o_call Try.call11 (lc rfl ln) ((n8_lent D dv V _ hD hlim).mono ?_))
  rintro v13 w13 ⟨gv0, U, rfl, hL, hx13⟩
  have hzB := hx.size
  replace hx := hx.tr hx13
  replace hC2 := hx13.blk hC2 (fun h => h)
  have hde := hL.defs
  clear hL hD hC1
  obtain ⟨B, hB⟩ : ∃ B, B = wb.heap.size := ⟨_, rfl⟩
  rw [← hB] at hde hzB
  obtain ⟨GV, hGV⟩ : ∃ g, g = shr gv0 := ⟨_, rfl⟩
  obtain ⟨VV, hVV⟩ : ∃ f, f = (fun j => shr (U j)) := ⟨_, rfl⟩
  rw [← hGV, ← hVV] at hde
  rw [← hGV]
  clear hGV hVV
  refine WL.c rfl (o_alB TI24 ?_)
  intro wa hC4a hx4 hs4
  refine WL.u (o_stA TI24 rfl (show _ = Value.agg #[GV] from rfl) rfl (by simp [own_one hde.row]) hC4a rfl ?_)
  intro wc hC4 ho4 hs4b
  have hxn := Ext.own hx4 (Nat.le_refl _) ho4
  obtain ⟨c4, hc4⟩ : ∃ c, c = w13.heap.size := ⟨_, rfl⟩
  have hz4 : w0.heap.size ≤ c4 := by rw [hc4]; exact hx.size
  rw [← hc4] at hC4 ⊢
  clear hC4a hx4 hs4 ho4 hs4b
  replace hx := hx.tr hxn
  replace hC2 := hxn.blk hC2 (fun h => h)
  replace hde := hde.ext hxn
  clear hxn
  refine WL.nil ?_
  refine W.seq ?_
  refine W.region ?_
  refine WL.c rfl (o_bldC (cs := [(.slice none 0 0)]) TI69 (Sizes.cons TI67 Sizes.nil) rfl lnp rfl rfl ?_)
  refine WL.c rfl (o_boxB rfl ?_)
  intro we hC5 hx5 hs5
  replace hC5 : we.heap[wc.heap.size]? = some (.cells #[.slice none 0 0] 69 (0, 0)) := hC5
  obtain ⟨p5, hp5⟩ : ∃ c, c = wc.heap.size := ⟨_, rfl⟩
  have hz5 : w0.heap.size ≤ p5 := by rw [hp5]; exact hx.size
  rw [← hp5] at hC5 ⊢
  replace hx := hx.tr hx5
  replace hC2 := hx5.blk hC2 (fun h => h)
  replace hC4 := hx5.blk hC4 (fun h => h)
  replace hde := hde.ext hx5
  refine WL.c rfl (o_ash (by first | exact (show _ = Value.pointer _ from rfl) | exact rfl) ?_)
  refine WL.nil ?_
  refine W.seq ?_
  refine W.region ?_
  refine WL.c rfl (o_bldC (cs := [(.slice none 0 0)]) TI69 (Sizes.cons TI67 Sizes.nil) rfl lnp rfl rfl ?_)
  refine WL.c rfl (o_boxB rfl ?_)
  intro wf hC6 hx6 hs6
  replace hC6 : wf.heap[we.heap.size]? = some (.cells #[.slice none 0 0] 69 (0, 0)) := hC6
  obtain ⟨p6, hp6⟩ : ∃ c, c = we.heap.size := ⟨_, rfl⟩
  have hz6 : w0.heap.size ≤ p6 := by rw [hp6]; exact hx.size
  have hne56 : ¬ p5 = p6 := by have := blk_lt hC5; omega
  rw [← hp6] at hC6 ⊢
  replace hx := hx.tr hx6
  replace hC2 := hx6.blk hC2 (fun h => h)
  replace hC4 := hx6.blk hC4 (fun h => h)
  replace hC5 := hx6.blk hC5 (fun h => h)
  replace hde := hde.ext hx6
  have hT : TS w0 wf B c2 c4 p5 p6 (hdTn D [] [] 0 ++ D.drop 0) GV VV (.slice none 0 0) (.slice none 0 0) [] [] := ⟨hde, hC4, hC2, ⟨hC5, World.ownsRow_nil _ _ _ _⟩, ⟨hC6, World.ownsRow_nil _ _ _ _⟩, fun k hk => (by cases hk), hne56, hx, hzB, hz4, hz5, hz6⟩
  clear hde hC2 hC4 hC5 hC6 hx hx5 hx6
  refine WL.c rfl (o_ash (by first | exact (show _ = Value.pointer _ from rfl) | exact rfl) ?_)
  refine WL.nil ?_
  refine W.seq ?_
  refine W.region ?_
  refine WL.c rfl (o_ash (show _ = Value.bool _ from rfl) ?_)
  refine WL.nil ?_
  refine W.seq ?_
  refine W.seq ?_
  refine W.region ?_
  refine WL.c rfl (o_ash (show _ = Value.int _ _ from rfl) ?_)
  refine WL.nil ?_
  refine W.block ?_
  refine W.loop (fun e w => ∃ (i : Nat) (b : Bool) (lv lb : Value) (A L : List (List UInt8)), i ≤ D.length ∧ e 2 = .pointer (some ⟨c2, 0, none⟩) ∧ e 4 = .pointer (some ⟨c4, 0, none⟩) ∧ e 5 = .pointer (some ⟨p5, 0, none⟩) ∧ e 6 = .pointer (some ⟨p6, 0, none⟩) ∧ e 7 = .bool b ∧ e 8 = .int .i64 (i : Int) ∧ TS w0 w B c2 c4 p5 p6 (hdTn D A L i ++ D.drop i) GV VV lv lb A L ∧ (∀ d ∈ D.take i, inD A L d) ∧ A.length ≤ sumL D i ∧ L.length ≤ sumL D i) (fun e w => D.length - (intOf (e 8)).toNat) ?_ ?_
  · exact ⟨0, true, _, _, [], [], Nat.zero_le _, rfl, rfl, rfl, rfl, rfl, rfl, hT, fun d hd => by simp at hd, Nat.zero_le _, Nat.zero_le _⟩
  rintro e w ⟨i, b, lv, lb, A, L, hi, h2, h4, h5, h6, h7, h8, hT, hin, hAl, hLl⟩
  have hm8 := h8
  have hEl : (hdTn D A L i ++ D.drop i).length = D.length := by rw [List.length_append, hdTn_len hi, List.length_drop]; omega
  refine W.seq ?_
  refine W.seq ?_
  refine W.region ?_
  refine WL.c rfl (o_mvh h8 ?_)
  refine WL.c rfl (o_fa 0 TI24 rfl TI22 rfl h4 ?_)
  refine WL.c rfl (o_ld TI22 rfl rfl (cell_of hT.k4 rfl) ?_)
  refine WL.c rfl (o_lenR TI22 rfl (Sl.own hT.de.row) ?_)
  refine WL.c rfl (o_lt rfl rfl ?_)
  refine WL.nil ?_
  refine W.cond rfl (fun c22 => ?_) (fun c22 => ?_)
  · try simp only [decide_eq_true_eq, decide_eq_false_iff_not, Bool.not_eq_true', Bool.not_eq_false', Bool.and_eq_true, Bool.or_eq_true, Bool.and_eq_false_iff, Bool.or_eq_false_iff] at c22
    have hi1 : i < D.length := by omega
    have hrow0 := hT.de.row
    rw [hEl] at hrow0
    obtain ⟨gg, cg, rfl, -⟩ := own_some hrow0 (by omega)
    clear hrow0
    have hhl : (hdTn D A L i).length = i := hdTn_len hi
    rw [List.drop_eq_getElem_cons hi1] at hT
    have htl := hDt _ (List.getElem_mem hi1)
    have hs1 := sumL_succ hi1
    have hs2 := sumL_le hDl hDt (i + 1) hi1
    have hc0 := hT.cells hhl
    refine W.skip ?_
    refine W.seq ?_
    refine W.block ?_
    refine W.seq ?_
    refine W.region ?_
    refine WL.cut (fun e1 w1 => e1 2 = .pointer (some ⟨c2, 0, none⟩) ∧ e1 4 = .pointer (some ⟨c4, 0, none⟩) ∧ e1 5 = .pointer (some ⟨p5, 0, none⟩) ∧ e1 6 = .pointer (some ⟨p6, 0, none⟩) ∧ (∃ b : Bool, e1 7 = .bool b) ∧ e1 8 = .int .i64 (i : Int) ∧ TS w0 w1 B c2 c4 p5 p6 (hdTn D A L i ++ D[i] :: D.drop (i + 1)) (.slice (some ⟨gg, 0, none⟩) D.length cg) VV lv lb A L) ?_ ?_
    · -- region 8
      refine WL.c rfl (o_mvh h7 ?_)
      refine WL.c rfl (o_mvh (show _ = Value.bool _ from rfl) ?_)
      refine WL.sp 1 rfl (fun g26 => ?_) (fun g26 => ?_)
      · skip
        refine WL.g rfl (g26) rfl (o_fa 0 TI24 rfl TI22 rfl h4 ?_)
        refine WL.g rfl (g26) rfl (o_ld TI22 rfl rfl (cell_of hT.k4 rfl) ?_)
        refine WL.g rfl (g26) rfl (o_mvh h8 ?_)
        refine WL.g rfl (g26) rfl (o_ixB (i := i) TI22 TI39 (show _ = Value.slice (some ⟨gg, 0, none⟩) D.length cg from rfl) (show _ = Value.int .i64 (i : Int) from rfl) (by omega) ?_)
        refine WL.g rfl (g26) rfl (o_fa 0 TI39 rfl TI9 rfl rfl ?_)
        refine WL.g rfl (g26) rfl (o_ld TI9 rfl rfl (hc0 0 _ rfl) ?_)
        refine WL.g rfl (g26) rfl (o_call Try.call31 (lc rfl ln) ((odd_spec _ _).mono ?_))
        rintro v33 w33 ⟨⟨bo, rfl⟩, hx33⟩
        replace hT := hT.ext hx33
        refine WL.g rfl (g26) rfl (o_not' rfl ?_)
        refine WL.c rfl (o_pickA rfl rfl ?_)
        refine WL.c rfl (o_ash (show _ = Value.bool _ from rfl) ?_)
        exact WL.nil (⟨h2, h4, h5, h6, ⟨_, rfl⟩, h8, hT⟩)
      · skip
        refine WL.s rfl (g26) rfl ?_
        refine WL.s rfl (g26) rfl ?_
        refine WL.s rfl (g26) rfl ?_
        refine WL.s rfl (g26) rfl ?_
        refine WL.s rfl (g26) rfl ?_
        refine WL.s rfl (g26) rfl ?_
        refine WL.s rfl (g26) rfl ?_
        refine WL.s rfl (g26) rfl ?_
        refine WL.c rfl (o_pickF rfl (g26) ?_)
        refine WL.c rfl (o_ash (show _ = Value.bool _ from rfl) ?_)
        exact WL.nil (⟨h2, h4, h5, h6, ⟨_, rfl⟩, h8, hT⟩)
    rintro e w ⟨h2, h4, h5, h6, ⟨b8, h7⟩, h8, hT⟩
    refine W.seq ?_
    refine W.region ?_
    refine WL.c rfl (o_mvh h5 ?_)
    refine WL.c rfl (o_fa 0 TI24 rfl TI22 rfl h4 ?_)
    refine WL.c rfl (o_ld TI22 rfl rfl (cell_of hT.k4 rfl) ?_)
    refine WL.c rfl (o_mvh h8 ?_)
    refine WL.c rfl (o_ixB (i := i) TI22 TI39 (show _ = Value.slice (some ⟨gg, 0, none⟩) D.length cg from rfl) (show _ = Value.int .i64 (i : Int) from rfl) (by omega) ?_)
    refine WL.c rfl (o_fa 0 TI39 rfl TI9 rfl rfl ?_)
    refine WL.c rfl (o_ld TI9 rfl rfl (hT.cells hhl 0 _ rfl) ?_)
    refine WL.c rfl (o_call Try.call32 (lc rfl (lc rfl ln)) ((at_spec p5 B lv A D[i].name _ hT.na hT.size (by omega)).mono ?_))
    rintro v43 w43 ⟨rfl, lv1, hN1, hb1, ho1⟩
    replace hT := hT.at5 hN1 hb1 ho1
    rw [← hdTn_add (s := D[i].name) hin] at hT
    have hin1 : ∀ d ∈ D.take i, inD (addN A D[i].name) L d := fun d hd => inD_add (hin d hd)
    have hnA := addN_mem A D[i].name
    have hAl1 := addN_len A D[i].name
    obtain ⟨A1, hA1⟩ : ∃ A1, A1 = addN A D[i].name := ⟨_, rfl⟩
    rw [← hA1] at hT hin1 hnA hAl1 ⊢
    have hhl : (hdTn D A1 L i).length = i := hdTn_len hi
    have hkl := List.idxOf_lt_length_iff.2 hnA
    have hdl := digN_len 62 (A1.idxOf D[i].name) (Nat.lt_of_le_of_lt (show A1.idxOf D[i].name ≤ 4611686018427387904 by omega) (by decide)) (by decide)
    clear hN1 hb1 ho1 hA1 hin
    refine WL.c rfl (o_ash (show _ = Value.int _ _ from rfl) ?_)
    refine WL.nil ?_
    refine W.seq ?_
    have hTd := hT.ext (Only.drew _)
    obtain ⟨wd, hwd⟩ : ∃ wd, wd = World.drew w43 := ⟨_, rfl⟩
    rw [← hwd] at hTd
    refine W.drawT 6 (Ext) [(2, fun v _ => v = _), (4, fun v _ => v = _), (5, fun v _ => v = _), (6, fun v _ => v = _), (7, fun v _ => v = _), (8, fun v _ => v = _), (9, fun v _ => v = _)] rfl (by kernel_rfl) (Only.refl No) (fun _ _ _ h k => h.trans k) ⟨Mono.eq, Mono.eq, Mono.eq, Mono.eq, Mono.eq, Mono.eq, Mono.eq, trivial⟩ ⟨h2, h4, h5, h6, h7, h8, rfl, trivial⟩ ?_
    refine WD.p rfl (fun e w hR hh => by obtain ⟨h4, -⟩ := hh; exact SG.n (o_fa 0 TI24 rfl TI22 rfl h4 ⟨rfl, Only.refl No _⟩)) ?_
    refine WD.p rfl (fun e w hR hh => by obtain ⟨h44, -⟩ := hh; rw [← hwd] at hR; exact SG.n (o_ld TI22 rfl h44 (hR.cell (cell_of hTd.k4 rfl) (fun h => h)) ⟨rfl, Only.refl No _⟩)) ?_
    refine WD.p rfl (fun e w hR hh => by obtain ⟨h8, -⟩ := hh; exact SG.n (o_mvh h8 ⟨rfl, Only.refl No _⟩)) ?_
    refine WD.p rfl (fun e w hR hh => by obtain ⟨h9, -⟩ := hh; exact SG.n (o_mvh h9 ⟨rfl, Only.refl No _⟩)) ?_
    refine WD.p rfl (fun e w hR hh => by obtain ⟨h47, -⟩ := hh; exact SG.n (o_call Try.call33 (lc h47 ln) ((digits_all (A1.idxOf D[i].name) (by omega) _).mono (fun v w' ⟨h1, h2⟩ => ⟨h1, h2⟩)))) ?_
    refine WD.p rfl (fun e w hR hh => by obtain ⟨h48, -⟩ := hh; exact SG.n (o_addT rfl h48 (by simp; omega) ⟨rfl, Only.refl No _⟩)) ?_
    rintro e w hR ⟨h49, h48, h47, h46, h45, h44, h2, h4, h5, h6, h7, h8, h9, -⟩
    rw [← hwd] at hR
    replace hT := hTd.ext hR
    clear hTd
    have hrow := hT.de.row
    refine WL.c rfl (o_ixB (i := i) TI22 TI39 h45 h46 (by omega) ?_)
    refine WL.c rfl (o_fa 0 TI39 rfl TI9 rfl rfl ?_)
    refine WL.u (o_stRj TI9 rfl (show 0 + i * 3 + 0 = i * 3 + 0 by omega) h49 rfl hrow rfl (by simp; omega) ?_)
    intro w51 hr51 ho51 hs51
    replace hT := hT.dname (i := i) (nm := zqN (A1.idxOf D[i].name)) (by simp; omega) ho51 hr51
    rw [setN_mid hhl] at hT
    replace hT : TS w0 w51 B c2 c4 p5 p6 (hdTn D A1 L i ++ midD A1 L 0 D[i] :: D.drop (i + 1)) (.slice (some ⟨gg, 0, none⟩) D.length cg) VV lv1 lb A1 L := hT
    refine WL.nil ?_
    refine W.seq ?_
    refine W.region ?_
    refine WL.c rfl (o_ash (show _ = Value.int _ _ from rfl) ?_)
    refine WL.nil ?_
    refine W.block ?_
    refine W.loop (fun e w => ∃ (j : Nat) (b : Bool) (lv lb : Value) (A L : List (List UInt8)), j ≤ D[i].ty.length ∧ e 2 = .pointer (some ⟨c2, 0, none⟩) ∧ e 4 = .pointer (some ⟨c4, 0, none⟩) ∧ e 5 = .pointer (some ⟨p5, 0, none⟩) ∧ e 6 = .pointer (some ⟨p6, 0, none⟩) ∧ e 7 = .bool b ∧ e 8 = .int .i64 (i : Int) ∧ e 10 = .int .i64 (j : Int) ∧ TS w0 w B c2 c4 p5 p6 (hdTn D A L i ++ midD A L j D[i] :: D.drop (i + 1)) (.slice (some ⟨gg, 0, none⟩) D.length cg) VV lv lb A L ∧ (∀ d ∈ D.take i, inD A L d) ∧ D[i].name ∈ A ∧ (∀ x ∈ D[i].ty.take j, inE A L x) ∧ A.length ≤ sumL D i + 1 + j ∧ L.length ≤ sumL D i + j) (fun e w => D[i].ty.length - (intOf (e 10)).toNat) ?_ ?_
    · exact ⟨0, b8, _, _, A1, L, Nat.zero_le _, h2, h4, h5, h6, h7, h8, rfl, hT, hin1, hnA, fun x hx => by simp at hx, by omega, by omega⟩
    rintro e w ⟨j, b, lv, lb, A, L, hj, h2, h4, h5, h6, h7, h8, h10, hT, hin, hnA, hinj, hAl, hLl⟩
    have hm10 := h10
    have hhl : (hdTn D A L i).length = i := hdTn_len hi
    refine W.seq ?_
    refine W.seq ?_
    refine W.region ?_
    refine WL.c rfl (o_mvh h10 ?_)
    refine WL.c rfl (o_fa 0 TI24 rfl TI22 rfl h4 ?_)
    refine WL.c rfl (o_ld TI22 rfl rfl (cell_of hT.k4 rfl) ?_)
    refine WL.c rfl (o_mvh h8 ?_)
    refine WL.c rfl (o_ixB (i := i) TI22 TI39 (show _ = Value.slice (some ⟨gg, 0, none⟩) D.length cg from rfl) (show _ = Value.int .i64 (i : Int) from rfl) (by omega) ?_)
    refine WL.c rfl (o_fa 2 TI39 rfl TI37 rfl rfl ?_)
    refine WL.c rfl (o_ld TI37 rfl rfl (hT.cells hhl 2 _ rfl) ?_)
    refine WL.c rfl (o_lenR TI37 rfl (show Sl _ 7 (VV i) D[i].ty.length _ from by
        have h := hT.de.tys.row i (by simp; omega)
        simp only [tyD_mid hhl] at h
        rw [midD_len hj] at h
        exact Sl.own h) ?_)
    refine WL.c rfl (o_lt rfl rfl ?_)
    refine WL.nil ?_
    refine W.cond rfl (fun c60 => ?_) (fun c60 => ?_)
    · try simp only [decide_eq_true_eq, decide_eq_false_iff_not, Bool.not_eq_true', Bool.not_eq_false', Bool.and_eq_true, Bool.or_eq_true, Bool.and_eq_false_iff, Bool.or_eq_false_iff] at c60
      have hj1 : j < D[i].ty.length := by omega
      rw [midD_X hj1] at hT
      obtain ⟨g2, cc, hVi, -⟩ := own_some (hT.row hhl hj1) (by omega)
      have hc2 := hT.cells hhl 2 _ rfl
      rw [hVi] at hc2
      have hnc := hT.nodeAt hhl hj1 hVi
      refine W.skip ?_
      refine W.seq ?_
      refine W.block ?_
      refine W.seq ?_
      refine W.region ?_
      refine WL.c rfl (o_fa 0 TI24 rfl TI22 rfl h4 ?_)
      refine WL.c rfl (o_ld TI22 rfl rfl (cell_of hT.k4 rfl) ?_)
      refine WL.c rfl (o_mvh h8 ?_)
      refine WL.c rfl (o_ixB (i := i) TI22 TI39 (show _ = Value.slice (some ⟨gg, 0, none⟩) D.length cg from rfl) (show _ = Value.int .i64 (i : Int) from rfl) (by omega) ?_)
      refine WL.c rfl (o_fa 2 TI39 rfl TI37 rfl rfl ?_)
      refine WL.c rfl (o_ld TI37 rfl rfl hc2 ?_)
      refine WL.c rfl (o_mvh h10 ?_)
      refine WL.c rfl (o_ixB (i := j) TI37 TI26 (show _ = Value.slice (some ⟨g2, 0, none⟩) D[i].ty.length cc from rfl) (show _ = Value.int .i64 (j : Int) from rfl) (by omega) ?_)
      refine WL.c rfl (o_ldA TI26 rfl rfl hnc rfl ?_)
      refine WL.c rfl (o_alB TI26 ?_)
      have hrow11 := hT.row hhl hj1
      intro wa hCa hxa hsa
      refine WL.u (o_stA TI26 rfl (show _ = Value.agg (exV D[i].ty[j]).toArray from rfl) rfl rfl hCa rfl ?_)
      intro wb11 hC11 hob hsb
      have hxb := Ext.own hxa (Nat.le_refl _) hob
      obtain ⟨b11, hb11⟩ : ∃ b, b = w.heap.size := ⟨_, rfl⟩
      rw [← hb11] at hC11 ⊢
      clear hCa hxa hsa hob hsb
      replace hT := hT.ext hxb
      have hn11 : ∀ k, (VV i).ownBlock = some k → ¬ k = b11 := fun k hk e => by
        have := (hrow11.lt k hk).2
        omega
      clear hxb
      refine WL.nil ?_
      refine W.seq ?_
      refine W.region ?_
      refine WL.cut (fun e1 w1 => e1 2 = .pointer (some ⟨c2, 0, none⟩) ∧ e1 4 = .pointer (some ⟨c4, 0, none⟩) ∧ e1 5 = .pointer (some ⟨p5, 0, none⟩) ∧ e1 6 = .pointer (some ⟨p6, 0, none⟩) ∧ (∃ b : Bool, e1 7 = .bool b) ∧ e1 8 = .int .i64 (i : Int) ∧ e1 10 = .int .i64 (j : Int) ∧ e1 11 = .pointer (some ⟨b11, 0, none⟩) ∧ w1.heap[b11]? = some (.cells (exV D[i].ty[j]).toArray 26 (0, 0)) ∧ TS w0 w1 B c2 c4 p5 p6 (hdTn D A L i ++ midX A L j D[i].ty[j] D[i] :: D.drop (i + 1)) (.slice (some ⟨gg, 0, none⟩) D.length cg) VV lv lb A L) ?_ ?_
      · -- region 15
        refine WL.c rfl (o_mvh h7 ?_)
        refine WL.c rfl (o_mvh (show _ = Value.bool _ from rfl) ?_)
        refine WL.sp 1 rfl (fun g73 => ?_) (fun g73 => ?_)
        · skip
          refine WL.g rfl (g73) rfl (o_fa 2 TI26 rfl TI9 rfl rfl ?_)
          refine WL.g rfl (g73) rfl (o_ld TI9 rfl rfl (cell_of hC11 rfl) ?_)
          refine WL.g rfl (g73) rfl (o_call Try.call31 (lc rfl ln) ((odd_spec _ _).mono ?_))
          rintro v76 w76 ⟨⟨bo, rfl⟩, hx76⟩
          replace hT := hT.ext hx76
          replace hC11 := hx76.blk hC11 (fun h => h)
          refine WL.g rfl (g73) rfl (o_not' rfl ?_)
          refine WL.c rfl (o_pickA rfl rfl ?_)
          refine WL.c rfl (o_mvh (show _ = Value.bool _ from rfl) ?_)
          refine WL.sp 7 rfl (fun g79 => ?_) (fun g79 => ?_)
          · skip
            refine WL.g rfl (g79) rfl (o_fa 3 TI26 rfl TI9 rfl rfl ?_)
            refine WL.g rfl (g79) rfl (o_ld TI9 rfl rfl (cell_of hC11 rfl) ?_)
            refine WL.g rfl (g79) rfl (o_call Try.call31 (lc rfl ln) ((odd_spec _ _).mono ?_))
            rintro v82 w82 ⟨⟨bo2, rfl⟩, hx82⟩
            replace hT := hT.ext hx82
            replace hC11 := hx82.blk hC11 (fun h => h)
            refine WL.g rfl (g79) rfl (o_not' rfl ?_)
            refine WL.c rfl (o_pickA rfl rfl ?_)
            refine WL.c rfl (o_ash (show _ = Value.bool _ from rfl) ?_)
            exact WL.nil (⟨h2, h4, h5, h6, ⟨_, rfl⟩, h8, h10, rfl, hC11, hT⟩)
          · skip
            refine WL.s rfl (g79) rfl ?_
            refine WL.s rfl (g79) rfl ?_
            refine WL.s rfl (g79) rfl ?_
            refine WL.s rfl (g79) rfl ?_
            refine WL.c rfl (o_pickF rfl (g79) ?_)
            refine WL.c rfl (o_ash (show _ = Value.bool _ from rfl) ?_)
            exact WL.nil (⟨h2, h4, h5, h6, ⟨_, rfl⟩, h8, h10, rfl, hC11, hT⟩)
        · skip
          refine WL.s rfl (g73) rfl ?_
          refine WL.s rfl (g73) rfl ?_
          refine WL.s rfl (g73) rfl ?_
          refine WL.s rfl (g73) rfl ?_
          refine WL.c rfl (o_pickF rfl (g73) ?_)
          refine WL.c rfl (o_mvh (show _ = Value.bool _ from rfl) ?_)
          refine WL.s rfl (rfl) rfl ?_
          refine WL.s rfl (rfl) rfl ?_
          refine WL.s rfl (rfl) rfl ?_
          refine WL.s rfl (rfl) rfl ?_
          refine WL.c rfl (o_pickF rfl (rfl) ?_)
          refine WL.c rfl (o_ash (show _ = Value.bool _ from rfl) ?_)
          exact WL.nil (⟨h2, h4, h5, h6, ⟨_, rfl⟩, h8, h10, rfl, hC11, hT⟩)
      rintro e w ⟨h2, h4, h5, h6, ⟨b15, h7⟩, h8, h10, h11, hC11, hT⟩
      refine W.seq ?_
      refine W.seq ?_
      refine W.region ?_
      refine WL.c rfl (o_fa 2 TI26 rfl TI9 rfl h11 ?_)
      refine WL.c rfl (o_ld TI9 rfl rfl (cell_of hC11 rfl) ?_)
      refine WL.c rfl (o_neT rfl rfl ?_)
      refine WL.nil ?_
      refine W.cond rfl (fun c87 => ?_) (fun c87 => ?_)
      · try simp only [decide_eq_true_eq, decide_eq_false_iff_not, Bool.not_eq_true', Bool.not_eq_false', Bool.and_eq_true, Bool.or_eq_true, Bool.and_eq_false_iff, Bool.or_eq_false_iff] at c87
        have hne : ¬ D[i].ty[j].name = [] := by simpa using c87
        refine W.seq ?_
        refine W.region ?_
        refine WL.c rfl (o_mvh h5 ?_)
        refine WL.c rfl (o_fa 2 TI26 rfl TI9 rfl h11 ?_)
        refine WL.c rfl (o_ld TI9 rfl rfl (cell_of hC11 rfl) ?_)
        refine WL.c rfl (o_call Try.call32 (lc rfl (lc rfl ln)) ((at_spec p5 B lv A D[i].ty[j].name _ hT.na hT.size (by omega)).mono ?_))
        rintro v91 w91 ⟨rfl, lv1, hN1, hb1, ho1⟩
        replace hC11 := ho1.blk hC11 (fun hh => by
          rcases hh with hh | hh
          · exact blk_ne hC11 hT.na.cell (by decide) hh
          · exact own_off hT.na.row hC11 (by decide) hh)
        replace hT := hT.at5 hN1 hb1 ho1
        rw [← hdTn_add (s := D[i].ty[j].name) hin, ← midX_add (s := D[i].ty[j].name) hnA hinj] at hT
        have hin1 : ∀ d ∈ D.take i, inD (addN A D[i].ty[j].name) L d := fun d hd => inD_add (hin d hd)
        have hnA1 : D[i].name ∈ addN A D[i].ty[j].name := addN_sub hnA
        have hinj1 : ∀ x ∈ D[i].ty.take j, inE (addN A D[i].ty[j].name) L x := fun x hx => inE_add (hinj x hx)
        have hmA := addN_mem A D[i].ty[j].name
        have hAl0 := addN_len A D[i].ty[j].name
        obtain ⟨A1, hA1⟩ : ∃ A1, A1 = addN A D[i].ty[j].name := ⟨_, rfl⟩
        rw [← hA1] at hT hin1 hnA1 hinj1 hmA hAl0 ⊢
        have hx1 : D[i].ty[j].name = [] ∨ D[i].ty[j].name ∈ A1 := .inr hmA
        have hAl1 : A1.length ≤ sumL D i + 1 + (j + 1) := by omega
        have hhl1 : (hdTn D A1 L i).length = i := hdTn_len hi
        have hkl := List.idxOf_lt_length_iff.2 hmA
        have hdl := digN_len 62 (A1.idxOf D[i].ty[j].name) (Nat.lt_of_le_of_lt (show A1.idxOf D[i].ty[j].name ≤ 4611686018427387904 by omega) (by decide)) (by decide)
        clear hN1 hb1 ho1 hA1
        refine WL.c rfl (o_ash (show _ = Value.int _ _ from rfl) ?_)
        refine WL.nil ?_
        have hTd := hT.ext (Only.drew _)
        obtain ⟨wd, hwd⟩ : ∃ wd, wd = World.drew w91 := ⟨_, rfl⟩
        rw [← hwd] at hTd
        have hC11d := (Only.drew w91).blk hC11 (fun h => h)
        rw [← hwd] at hC11d
        have hc2 := hTd.cells hhl1 2 _ rfl
        rw [hVi] at hc2
        refine W.drawT 10 (Ext) [(2, fun v _ => v = _), (4, fun v _ => v = _), (5, fun v _ => v = _), (6, fun v _ => v = _), (7, fun v _ => v = _), (8, fun v _ => v = _), (9, fun v _ => v = _), (10, fun v _ => v = _), (11, fun v _ => v = _)] rfl (by kernel_rfl) (Only.refl No) (fun _ _ _ h k => h.trans k) ⟨Mono.eq, Mono.eq, Mono.eq, Mono.eq, Mono.eq, Mono.eq, Mono.eq, Mono.eq, Mono.eq, trivial⟩ ⟨h2, h4, h5, h6, h7, h8, rfl, h10, h11, trivial⟩ ?_
        refine WD.p rfl (fun e w hR hh => by obtain ⟨h4, -⟩ := hh; exact SG.n (o_fa 0 TI24 rfl TI22 rfl h4 ⟨rfl, Only.refl No _⟩)) ?_
        refine WD.p rfl (fun e w hR hh => by obtain ⟨h92, -⟩ := hh; rw [← hwd] at hR; exact SG.n (o_ld TI22 rfl h92 (hR.cell (cell_of hTd.k4 rfl) (fun h => h)) ⟨rfl, Only.refl No _⟩)) ?_
        refine WD.p rfl (fun e w hR hh => by obtain ⟨h8, -⟩ := hh; exact SG.n (o_mvh h8 ⟨rfl, Only.refl No _⟩)) ?_
        refine WD.p rfl (fun e w hR hh => by obtain ⟨h94, h93, -⟩ := hh; exact SG.n (o_ixB (i := i) TI22 TI39 h93 h94 (by omega) ⟨rfl, Only.refl No _⟩)) ?_
        refine WD.p rfl (fun e w hR hh => by obtain ⟨h95, -⟩ := hh; exact SG.n (o_fa 2 TI39 rfl TI37 rfl h95 ⟨rfl, Only.refl No _⟩)) ?_
        refine WD.p rfl (fun e w hR hh => by obtain ⟨h96, -⟩ := hh; rw [← hwd] at hR; exact SG.n (o_ld TI37 rfl h96 (hR.cell hc2 (fun h => h)) ⟨rfl, Only.refl No _⟩)) ?_
        refine WD.p rfl (fun e w hR hh => by obtain ⟨h10, -⟩ := hh; exact SG.n (o_mvh h10 ⟨rfl, Only.refl No _⟩)) ?_
        refine WD.p rfl (fun e w hR hh => by obtain ⟨h9, -⟩ := hh; exact SG.n (o_mvh h9 ⟨rfl, Only.refl No _⟩)) ?_
        refine WD.p rfl (fun e w hR hh => by obtain ⟨h99, -⟩ := hh; exact SG.n (o_call Try.call33 (lc h99 ln) ((digits_all (A1.idxOf D[i].ty[j].name) (by omega) _).mono (fun v w' ⟨h1, h2⟩ => ⟨h1, h2⟩)))) ?_
        refine WD.p rfl (fun e w hR hh => by obtain ⟨h100, -⟩ := hh; exact SG.n (o_addT rfl h100 (by simp; omega) ⟨rfl, Only.refl No _⟩)) ?_
        rintro e w hR ⟨h101, h100, h99, h98, h97, h96, h95, h94, h93, h92, h2, h4, h5, h6, h7, h8, h9, h10, h11, -⟩
        rw [← hwd] at hR
        replace hT := hTd.ext hR
        replace hC11 := hR.blk hC11d (fun h => h)
        clear hTd hC11d
        have hrow := hT.row hhl1 hj1
        rw [hVi] at hrow
        have hlt11 : ∀ k, (VV i).ownBlock = some k → ¬ k = b11 := hn11
        refine WL.c rfl (o_ixB (i := j) TI37 TI26 h97 h98 (by omega) ?_)
        refine WL.c rfl (o_fa 2 TI26 rfl TI9 rfl rfl ?_)
        refine WL.u (o_stRj TI9 rfl (show 0 + j * 7 + 2 = j * 7 + 2 by omega) h101 rfl hrow rfl (by omega) ?_)
        intro wq hrq hoq hsq
        rw [← hVi] at hrq hoq
        replace hC11 := hoq.blk hC11 (fun hh => hn11 _ hh rfl)
        replace hT := hT.setName (nm := zqN (A1.idxOf D[i].ty[j].name)) hhl1 hj1 hoq hrq
        have hex : ({ D[i].ty[j] with name := zqN (A1.idxOf D[i].ty[j].name) } : Ex) = { D[i].ty[j] with name := rnS A1 D[i].ty[j].name } := by
          have h : rnS A1 D[i].ty[j].name = zqN (A1.idxOf D[i].ty[j].name) := by unfold rnS; rw [if_neg hne]
          rw [h]
        rw [hex] at hT
        clear hex
        refine WL.nil ?_
        refine W.seq ?_
        refine W.region ?_
        refine WL.c rfl (o_fa 3 TI26 rfl TI9 rfl h11 ?_)
        refine WL.c rfl (o_ld TI9 rfl rfl (cell_of hC11 rfl) ?_)
        refine WL.c rfl (o_neT rfl rfl ?_)
        refine WL.nil ?_
        refine W.cond rfl (fun c106 => ?_) (fun c106 => ?_)
        · try simp only [decide_eq_true_eq, decide_eq_false_iff_not, Bool.not_eq_true', Bool.not_eq_false', Bool.and_eq_true, Bool.or_eq_true, Bool.and_eq_false_iff, Bool.or_eq_false_iff] at c106
          have hnl : ¬ D[i].ty[j].label = [] := by simpa using c106
          refine W.seq ?_
          refine W.region ?_
          refine WL.c rfl (o_mvh h6 ?_)
          refine WL.c rfl (o_fa 3 TI26 rfl TI9 rfl h11 ?_)
          refine WL.c rfl (o_ld TI9 rfl rfl (cell_of hC11 rfl) ?_)
          refine WL.c rfl (o_call Try.call32 (lc rfl (lc rfl ln)) ((at_spec p6 B lb L D[i].ty[j].label _ hT.nl hT.size (by omega)).mono ?_))
          rintro v110 w110 ⟨rfl, lb1, hN1, hb1, ho1⟩
          replace hC11 := ho1.blk hC11 (fun hh => by
            rcases hh with hh | hh
            · exact blk_ne hC11 hT.nl.cell (by decide) hh
            · exact own_off hT.nl.row hC11 (by decide) hh)
          replace hT := hT.at6 hN1 hb1 ho1
          rw [← hdTn_addL (s := D[i].ty[j].label) hin1, ← midX_addL (s := D[i].ty[j].label) hinj1] at hT
          have hin2 : ∀ d ∈ D.take i, inD A1 (addN L D[i].ty[j].label) d := fun d hd => inD_addL (hin1 d hd)
          have hinj2 : ∀ x ∈ D[i].ty.take j, inE A1 (addN L D[i].ty[j].label) x := fun x hx => inE_addL (hinj1 x hx)
          have hmL := addN_mem L D[i].ty[j].label
          have hLl0 := addN_len L D[i].ty[j].label
          obtain ⟨L1, hL1⟩ : ∃ L1, L1 = addN L D[i].ty[j].label := ⟨_, rfl⟩
          rw [← hL1] at hT hin2 hinj2 hmL hLl0 ⊢
          have hx2 : D[i].ty[j].label = [] ∨ D[i].ty[j].label ∈ L1 := .inr hmL
          have hLl1 : L1.length ≤ sumL D i + (j + 1) := by omega
          have hhl2 : (hdTn D A1 L1 i).length = i := hdTn_len hi
          have hkl := List.idxOf_lt_length_iff.2 hmL
          have hdl := digN_len 62 (L1.idxOf D[i].ty[j].label) (Nat.lt_of_le_of_lt (show L1.idxOf D[i].ty[j].label ≤ 4611686018427387904 by omega) (by decide)) (by decide)
          clear hN1 hb1 ho1 hL1
          refine WL.c rfl (o_ash (show _ = Value.int _ _ from rfl) ?_)
          refine WL.nil ?_
          have hTd := hT.ext (Only.drew _)
          obtain ⟨wd, hwd⟩ : ∃ wd, wd = World.drew w110 := ⟨_, rfl⟩
          rw [← hwd] at hTd
          have hc2 := hTd.cells hhl2 2 _ rfl
          rw [hVi] at hc2
          refine W.drawT 10 (Ext) [(2, fun v _ => v = _), (4, fun v _ => v = _), (5, fun v _ => v = _), (6, fun v _ => v = _), (7, fun v _ => v = _), (8, fun v _ => v = _), (9, fun v _ => v = _), (10, fun v _ => v = _)] rfl (by kernel_rfl) (Only.refl No) (fun _ _ _ h k => h.trans k) ⟨Mono.eq, Mono.eq, Mono.eq, Mono.eq, Mono.eq, Mono.eq, Mono.eq, Mono.eq, trivial⟩ ⟨h2, h4, h5, h6, h7, h8, rfl, h10, trivial⟩ ?_
          refine WD.p rfl (fun e w hR hh => by obtain ⟨h4, -⟩ := hh; exact SG.n (o_fa 0 TI24 rfl TI22 rfl h4 ⟨rfl, Only.refl No _⟩)) ?_
          refine WD.p rfl (fun e w hR hh => by obtain ⟨h111, -⟩ := hh; rw [← hwd] at hR; exact SG.n (o_ld TI22 rfl h111 (hR.cell (cell_of hTd.k4 rfl) (fun h => h)) ⟨rfl, Only.refl No _⟩)) ?_
          refine WD.p rfl (fun e w hR hh => by obtain ⟨h8, -⟩ := hh; exact SG.n (o_mvh h8 ⟨rfl, Only.refl No _⟩)) ?_
          refine WD.p rfl (fun e w hR hh => by obtain ⟨h113, h112, -⟩ := hh; exact SG.n (o_ixB (i := i) TI22 TI39 h112 h113 (by omega) ⟨rfl, Only.refl No _⟩)) ?_
          refine WD.p rfl (fun e w hR hh => by obtain ⟨h114, -⟩ := hh; exact SG.n (o_fa 2 TI39 rfl TI37 rfl h114 ⟨rfl, Only.refl No _⟩)) ?_
          refine WD.p rfl (fun e w hR hh => by obtain ⟨h115, -⟩ := hh; rw [← hwd] at hR; exact SG.n (o_ld TI37 rfl h115 (hR.cell hc2 (fun h => h)) ⟨rfl, Only.refl No _⟩)) ?_
          refine WD.p rfl (fun e w hR hh => by obtain ⟨h10, -⟩ := hh; exact SG.n (o_mvh h10 ⟨rfl, Only.refl No _⟩)) ?_
          refine WD.p rfl (fun e w hR hh => by obtain ⟨h9, -⟩ := hh; exact SG.n (o_mvh h9 ⟨rfl, Only.refl No _⟩)) ?_
          refine WD.p rfl (fun e w hR hh => by obtain ⟨h118, -⟩ := hh; exact SG.n (o_call Try.call33 (lc h118 ln) ((digits_all (L1.idxOf D[i].ty[j].label) (by omega) _).mono (fun v w' ⟨h1, h2⟩ => ⟨h1, h2⟩)))) ?_
          refine WD.p rfl (fun e w hR hh => by obtain ⟨h119, -⟩ := hh; exact SG.n (o_addT rfl h119 (by simp; omega) ⟨rfl, Only.refl No _⟩)) ?_
          rintro e w hR ⟨h120, h119, h118, h117, h116, h115, h114, h113, h112, h111, h2, h4, h5, h6, h7, h8, h9, h10, -⟩
          rw [← hwd] at hR
          replace hT := hTd.ext hR
          clear hTd
          have hrow := hT.row hhl2 hj1
          rw [hVi] at hrow
          refine WL.c rfl (o_ixB (i := j) TI37 TI26 h116 h117 (by omega) ?_)
          refine WL.c rfl (o_fa 3 TI26 rfl TI9 rfl rfl ?_)
          refine WL.u (o_stRj TI9 rfl (show 0 + j * 7 + 3 = j * 7 + 3 by omega) h120 rfl hrow rfl (by omega) ?_)
          intro wq hrq hoq hsq
          rw [← hVi] at hrq hoq
          replace hT := hT.setLabel (nm := zqN (L1.idxOf D[i].ty[j].label)) hhl2 hj1 hoq hrq
          have hex : ({ ({ D[i].ty[j] with name := rnS A1 D[i].ty[j].name } : Ex) with label := zqN (L1.idxOf D[i].ty[j].label) } : Ex) = rnE A1 L1 D[i].ty[j] := by
            have h : rnS L1 D[i].ty[j].label = zqN (L1.idxOf D[i].ty[j].label) := by unfold rnS; rw [if_neg hnl]
            unfold rnE
            rw [h]
          rw [hex] at hT
          clear hex
          refine WL.nil ?_
          refine W.region ?_
          refine WL.c rfl (o_mvh h10 ?_)
          refine WL.c rfl (o_addi rfl rfl (by omega) ?_)
          refine WL.c rfl (o_ash (show _ = Value.int _ _ from rfl) ?_)
          refine WL.nil ?_
          refine ⟨⟨j + 1, b15, lv1, lb1, A1, L1, by omega, h2, h4, h5, h6, h7, h8, rfl, ?_, hin2, hnA1, ?_, by omega, by omega⟩, ?_⟩
          · rw [← midX_next hj1]
            exact hT
          · intro x hx
            rw [List.take_succ_eq_append_getElem hj1] at hx
            rcases List.mem_append.1 hx with hx | hx
            · exact hinj2 x hx
            · rw [List.mem_singleton.1 hx]
              exact ⟨hx1, hx2⟩
          · show D[i].ty.length - ((j : Int) + 1).toNat < _
            rw [hm10]; simp [intOf]; omega
        · try simp only [decide_eq_true_eq, decide_eq_false_iff_not, Bool.not_eq_true', Bool.not_eq_false', Bool.and_eq_true, Bool.or_eq_true, Bool.and_eq_false_iff, Bool.or_eq_false_iff] at c106
          have hnl : D[i].ty[j].label = [] := by simpa using c106
          obtain ⟨L1, hL1⟩ : ∃ L1, L1 = L := ⟨_, rfl⟩
          obtain ⟨lb1, hlb1⟩ : ∃ l, l = lb := ⟨_, rfl⟩
          rw [← hlb1] at hT
          have hex : ({ D[i].ty[j] with name := rnS A1 D[i].ty[j].name } : Ex) = rnE A1 L1 D[i].ty[j] := by
            have h : rnS L1 D[i].ty[j].label = D[i].ty[j].label := by unfold rnS; rw [if_pos hnl, hnl]
            unfold rnE
            rw [h]
          rw [hex] at hT
          rw [← hL1] at hT hin1 hinj1 hLl
          have hin2 := hin1
          have hinj2 := hinj1
          have hx2 : D[i].ty[j].label = [] ∨ D[i].ty[j].label ∈ L1 := .inl hnl
          have hLl1 : L1.length ≤ sumL D i + (j + 1) := by omega
          refine W.skip ?_
          refine W.region ?_
          refine WL.c rfl (o_mvh h10 ?_)
          refine WL.c rfl (o_addi rfl rfl (by omega) ?_)
          refine WL.c rfl (o_ash (show _ = Value.int _ _ from rfl) ?_)
          refine WL.nil ?_
          refine ⟨⟨j + 1, b15, lv1, lb1, A1, L1, by omega, h2, h4, h5, h6, h7, h8, rfl, ?_, hin2, hnA1, ?_, by omega, by omega⟩, ?_⟩
          · rw [← midX_next hj1]
            exact hT
          · intro x hx
            rw [List.take_succ_eq_append_getElem hj1] at hx
            rcases List.mem_append.1 hx with hx | hx
            · exact hinj2 x hx
            · rw [List.mem_singleton.1 hx]
              exact ⟨hx1, hx2⟩
          · show D[i].ty.length - ((j : Int) + 1).toNat < _
            rw [hm10]; simp [intOf]; omega
      · try simp only [decide_eq_true_eq, decide_eq_false_iff_not, Bool.not_eq_true', Bool.not_eq_false', Bool.and_eq_true, Bool.or_eq_true, Bool.and_eq_false_iff, Bool.or_eq_false_iff] at c87
        have hne : D[i].ty[j].name = [] := by simpa using c87
        obtain ⟨A1, hA1⟩ : ∃ A1, A1 = A := ⟨_, rfl⟩
        obtain ⟨lv1, hlv1⟩ : ∃ l, l = lv := ⟨_, rfl⟩
        rw [← hlv1] at hT
        have hex : D[i].ty[j] = { D[i].ty[j] with name := rnS A1 D[i].ty[j].name } := by
          have h : rnS A1 D[i].ty[j].name = D[i].ty[j].name := by unfold rnS; rw [if_pos hne, hne]
          rw [h]
        rw [hex] at hT
        rw [← hA1] at hT hin hnA hinj hAl
        have hin1 := hin
        have hnA1 := hnA
        have hinj1 := hinj
        have hx1 : D[i].ty[j].name = [] ∨ D[i].ty[j].name ∈ A1 := .inl hne
        have hAl1 : A1.length ≤ sumL D i + 1 + (j + 1) := by omega
        have hhl1 : (hdTn D A1 L i).length = i := hdTn_len hi
        clear hex
        refine W.skip ?_
        refine W.seq ?_
        refine W.region ?_
        refine WL.c rfl (o_fa 3 TI26 rfl TI9 rfl h11 ?_)
        refine WL.c rfl (o_ld TI9 rfl rfl (cell_of hC11 rfl) ?_)
        refine WL.c rfl (o_neT rfl rfl ?_)
        refine WL.nil ?_
        refine W.cond rfl (fun c106 => ?_) (fun c106 => ?_)
        · try simp only [decide_eq_true_eq, decide_eq_false_iff_not, Bool.not_eq_true', Bool.not_eq_false', Bool.and_eq_true, Bool.or_eq_true, Bool.and_eq_false_iff, Bool.or_eq_false_iff] at c106
          have hnl : ¬ D[i].ty[j].label = [] := by simpa using c106
          refine W.seq ?_
          refine W.region ?_
          refine WL.c rfl (o_mvh h6 ?_)
          refine WL.c rfl (o_fa 3 TI26 rfl TI9 rfl h11 ?_)
          refine WL.c rfl (o_ld TI9 rfl rfl (cell_of hC11 rfl) ?_)
          refine WL.c rfl (o_call Try.call32 (lc rfl (lc rfl ln)) ((at_spec p6 B lb L D[i].ty[j].label _ hT.nl hT.size (by omega)).mono ?_))
          rintro v110 w110 ⟨rfl, lb1, hN1, hb1, ho1⟩
          replace hC11 := ho1.blk hC11 (fun hh => by
            rcases hh with hh | hh
            · exact blk_ne hC11 hT.nl.cell (by decide) hh
            · exact own_off hT.nl.row hC11 (by decide) hh)
          replace hT := hT.at6 hN1 hb1 ho1
          rw [← hdTn_addL (s := D[i].ty[j].label) hin1, ← midX_addL (s := D[i].ty[j].label) hinj1] at hT
          have hin2 : ∀ d ∈ D.take i, inD A1 (addN L D[i].ty[j].label) d := fun d hd => inD_addL (hin1 d hd)
          have hinj2 : ∀ x ∈ D[i].ty.take j, inE A1 (addN L D[i].ty[j].label) x := fun x hx => inE_addL (hinj1 x hx)
          have hmL := addN_mem L D[i].ty[j].label
          have hLl0 := addN_len L D[i].ty[j].label
          obtain ⟨L1, hL1⟩ : ∃ L1, L1 = addN L D[i].ty[j].label := ⟨_, rfl⟩
          rw [← hL1] at hT hin2 hinj2 hmL hLl0 ⊢
          have hx2 : D[i].ty[j].label = [] ∨ D[i].ty[j].label ∈ L1 := .inr hmL
          have hLl1 : L1.length ≤ sumL D i + (j + 1) := by omega
          have hhl2 : (hdTn D A1 L1 i).length = i := hdTn_len hi
          have hkl := List.idxOf_lt_length_iff.2 hmL
          have hdl := digN_len 62 (L1.idxOf D[i].ty[j].label) (Nat.lt_of_le_of_lt (show L1.idxOf D[i].ty[j].label ≤ 4611686018427387904 by omega) (by decide)) (by decide)
          clear hN1 hb1 ho1 hL1
          refine WL.c rfl (o_ash (show _ = Value.int _ _ from rfl) ?_)
          refine WL.nil ?_
          have hTd := hT.ext (Only.drew _)
          obtain ⟨wd, hwd⟩ : ∃ wd, wd = World.drew w110 := ⟨_, rfl⟩
          rw [← hwd] at hTd
          have hc2 := hTd.cells hhl2 2 _ rfl
          rw [hVi] at hc2
          refine W.drawT 10 (Ext) [(2, fun v _ => v = _), (4, fun v _ => v = _), (5, fun v _ => v = _), (6, fun v _ => v = _), (7, fun v _ => v = _), (8, fun v _ => v = _), (9, fun v _ => v = _), (10, fun v _ => v = _)] rfl (by kernel_rfl) (Only.refl No) (fun _ _ _ h k => h.trans k) ⟨Mono.eq, Mono.eq, Mono.eq, Mono.eq, Mono.eq, Mono.eq, Mono.eq, Mono.eq, trivial⟩ ⟨h2, h4, h5, h6, h7, h8, rfl, h10, trivial⟩ ?_
          refine WD.p rfl (fun e w hR hh => by obtain ⟨h4, -⟩ := hh; exact SG.n (o_fa 0 TI24 rfl TI22 rfl h4 ⟨rfl, Only.refl No _⟩)) ?_
          refine WD.p rfl (fun e w hR hh => by obtain ⟨h111, -⟩ := hh; rw [← hwd] at hR; exact SG.n (o_ld TI22 rfl h111 (hR.cell (cell_of hTd.k4 rfl) (fun h => h)) ⟨rfl, Only.refl No _⟩)) ?_
          refine WD.p rfl (fun e w hR hh => by obtain ⟨h8, -⟩ := hh; exact SG.n (o_mvh h8 ⟨rfl, Only.refl No _⟩)) ?_
          refine WD.p rfl (fun e w hR hh => by obtain ⟨h113, h112, -⟩ := hh; exact SG.n (o_ixB (i := i) TI22 TI39 h112 h113 (by omega) ⟨rfl, Only.refl No _⟩)) ?_
          refine WD.p rfl (fun e w hR hh => by obtain ⟨h114, -⟩ := hh; exact SG.n (o_fa 2 TI39 rfl TI37 rfl h114 ⟨rfl, Only.refl No _⟩)) ?_
          refine WD.p rfl (fun e w hR hh => by obtain ⟨h115, -⟩ := hh; rw [← hwd] at hR; exact SG.n (o_ld TI37 rfl h115 (hR.cell hc2 (fun h => h)) ⟨rfl, Only.refl No _⟩)) ?_
          refine WD.p rfl (fun e w hR hh => by obtain ⟨h10, -⟩ := hh; exact SG.n (o_mvh h10 ⟨rfl, Only.refl No _⟩)) ?_
          refine WD.p rfl (fun e w hR hh => by obtain ⟨h9, -⟩ := hh; exact SG.n (o_mvh h9 ⟨rfl, Only.refl No _⟩)) ?_
          refine WD.p rfl (fun e w hR hh => by obtain ⟨h118, -⟩ := hh; exact SG.n (o_call Try.call33 (lc h118 ln) ((digits_all (L1.idxOf D[i].ty[j].label) (by omega) _).mono (fun v w' ⟨h1, h2⟩ => ⟨h1, h2⟩)))) ?_
          refine WD.p rfl (fun e w hR hh => by obtain ⟨h119, -⟩ := hh; exact SG.n (o_addT rfl h119 (by simp; omega) ⟨rfl, Only.refl No _⟩)) ?_
          rintro e w hR ⟨h120, h119, h118, h117, h116, h115, h114, h113, h112, h111, h2, h4, h5, h6, h7, h8, h9, h10, -⟩
          rw [← hwd] at hR
          replace hT := hTd.ext hR
          clear hTd
          have hrow := hT.row hhl2 hj1
          rw [hVi] at hrow
          refine WL.c rfl (o_ixB (i := j) TI37 TI26 h116 h117 (by omega) ?_)
          refine WL.c rfl (o_fa 3 TI26 rfl TI9 rfl rfl ?_)
          refine WL.u (o_stRj TI9 rfl (show 0 + j * 7 + 3 = j * 7 + 3 by omega) h120 rfl hrow rfl (by omega) ?_)
          intro wq hrq hoq hsq
          rw [← hVi] at hrq hoq
          replace hT := hT.setLabel (nm := zqN (L1.idxOf D[i].ty[j].label)) hhl2 hj1 hoq hrq
          have hex : ({ ({ D[i].ty[j] with name := rnS A1 D[i].ty[j].name } : Ex) with label := zqN (L1.idxOf D[i].ty[j].label) } : Ex) = rnE A1 L1 D[i].ty[j] := by
            have h : rnS L1 D[i].ty[j].label = zqN (L1.idxOf D[i].ty[j].label) := by unfold rnS; rw [if_neg hnl]
            unfold rnE
            rw [h]
          rw [hex] at hT
          clear hex
          refine WL.nil ?_
          refine W.region ?_
          refine WL.c rfl (o_mvh h10 ?_)
          refine WL.c rfl (o_addi rfl rfl (by omega) ?_)
          refine WL.c rfl (o_ash (show _ = Value.int _ _ from rfl) ?_)
          refine WL.nil ?_
          refine ⟨⟨j + 1, b15, lv1, lb1, A1, L1, by omega, h2, h4, h5, h6, h7, h8, rfl, ?_, hin2, hnA1, ?_, by omega, by omega⟩, ?_⟩
          · rw [← midX_next hj1]
            exact hT
          · intro x hx
            rw [List.take_succ_eq_append_getElem hj1] at hx
            rcases List.mem_append.1 hx with hx | hx
            · exact hinj2 x hx
            · rw [List.mem_singleton.1 hx]
              exact ⟨hx1, hx2⟩
          · show D[i].ty.length - ((j : Int) + 1).toNat < _
            rw [hm10]; simp [intOf]; omega
        · try simp only [decide_eq_true_eq, decide_eq_false_iff_not, Bool.not_eq_true', Bool.not_eq_false', Bool.and_eq_true, Bool.or_eq_true, Bool.and_eq_false_iff, Bool.or_eq_false_iff] at c106
          have hnl : D[i].ty[j].label = [] := by simpa using c106
          obtain ⟨L1, hL1⟩ : ∃ L1, L1 = L := ⟨_, rfl⟩
          obtain ⟨lb1, hlb1⟩ : ∃ l, l = lb := ⟨_, rfl⟩
          rw [← hlb1] at hT
          have hex : ({ D[i].ty[j] with name := rnS A1 D[i].ty[j].name } : Ex) = rnE A1 L1 D[i].ty[j] := by
            have h : rnS L1 D[i].ty[j].label = D[i].ty[j].label := by unfold rnS; rw [if_pos hnl, hnl]
            unfold rnE
            rw [h]
          rw [hex] at hT
          rw [← hL1] at hT hin1 hinj1 hLl
          have hin2 := hin1
          have hinj2 := hinj1
          have hx2 : D[i].ty[j].label = [] ∨ D[i].ty[j].label ∈ L1 := .inl hnl
          have hLl1 : L1.length ≤ sumL D i + (j + 1) := by omega
          refine W.skip ?_
          refine W.region ?_
          refine WL.c rfl (o_mvh h10 ?_)
          refine WL.c rfl (o_addi rfl rfl (by omega) ?_)
          refine WL.c rfl (o_ash (show _ = Value.int _ _ from rfl) ?_)
          refine WL.nil ?_
          refine ⟨⟨j + 1, b15, lv1, lb1, A1, L1, by omega, h2, h4, h5, h6, h7, h8, rfl, ?_, hin2, hnA1, ?_, by omega, by omega⟩, ?_⟩
          · rw [← midX_next hj1]
            exact hT
          · intro x hx
            rw [List.take_succ_eq_append_getElem hj1] at hx
            rcases List.mem_append.1 hx with hx | hx
            · exact hinj2 x hx
            · rw [List.mem_singleton.1 hx]
              exact ⟨hx1, hx2⟩
          · show D[i].ty.length - ((j : Int) + 1).toNat < _
            rw [hm10]; simp [intOf]; omega
    · try simp only [decide_eq_true_eq, decide_eq_false_iff_not, Bool.not_eq_true', Bool.not_eq_false', Bool.and_eq_true, Bool.or_eq_true, Bool.and_eq_false_iff, Bool.or_eq_false_iff] at c60
      have hj1 : j = D[i].ty.length := by omega
      refine W.exit ?_
      refine W.region ?_
      refine WL.c rfl (o_mvh h8 ?_)
      refine WL.c rfl (o_addi rfl rfl (by omega) ?_)
      refine WL.c rfl (o_ash (show _ = Value.int _ _ from rfl) ?_)
      refine WL.nil ?_
      refine ⟨⟨i + 1, b, lv, lb, A, L, by omega, h2, h4, h5, h6, h7, rfl, ?_, ?_, by omega, by omega⟩, ?_⟩
      · rw [hdTn_succ hi1, List.append_assoc, ← midD_all, ← hj1]
        exact hT
      · intro d hd
        rw [List.take_succ_eq_append_getElem hi1] at hd
        rcases List.mem_append.1 hd with hd | hd
        · exact hin d hd
        · rw [List.mem_singleton.1 hd]
          rw [hj1, List.take_length] at hinj
          exact ⟨hnA, hinj⟩
      · show D.length - ((i : Int) + 1).toNat < _
        rw [hm8]; simp [intOf]; omega
  · try simp only [decide_eq_true_eq, decide_eq_false_iff_not, Bool.not_eq_true', Bool.not_eq_false', Bool.and_eq_true, Bool.or_eq_true, Bool.and_eq_false_iff, Bool.or_eq_false_iff] at c22
    have hi1 : i = D.length := by omega
    have hs2 := sumL_le hDl hDt i hi
    rw [hi1, List.drop_length, List.append_nil] at hT
    rw [hi1, List.take_length] at hin
    refine W.exit ?_
    refine W.seq ?_
    refine W.region ?_
    refine WL.c rfl (o_ldA TI24 rfl h4 (show Cells _ c4 0 [GV] from Cells.of hT.k4 0 _ (by simp)) rfl ?_)
    refine WL.c rfl (o_mvh h7 ?_)
    refine WL.u (o_stA TI24 h2 (show _ = Value.agg #[GV] from rfl) rfl (by simp [own_one hT.de.row]) hT.k2 rfl ?_)
    intro wz hCz hoz hsz
    have hde := hT.de.only hoz (fun k hk hh => by
      subst hh
      rcases hk with hk | ⟨j, hj, hk⟩
      · exact own_off hT.de.row hT.k2 (by decide) hk
      · exact own_off (hT.de.tys.row j hj) hT.k2 (by decide) hk)
    have hx := hT.old.trans' hoz (fun _ h => h) (fun b hb he => by omega)
    refine WL.c rfl (o_ash (show _ = Value.bool _ from rfl) ?_)
    refine WL.nil ?_
    refine W.ret ?_
    refine retCT rfl TI24 rfl rfl h2 (show Cells _ c2 0 [GV] from Cells.of hCz 0 _ (by simp)) rfl ?_
    exact ⟨GV, b, B, VV, A, L, rfl, by unfold hdTn at hde; rw [List.take_length] at hde; exact hde, hin, Nat.lt_of_le_of_lt (show A.length ≤ 4611686018427387904 by omega) (by decide), Nat.lt_of_le_of_lt (show L.length ≤ 4611686018427387904 by omega) (by decide), hx⟩
end Go.Proofs.Ytgcehajdldicfaa

set_option linter.unusedSimpArgs false
set_option linter.unusedVariables false
set_option maxRecDepth 100000
namespace Go.Proofs.Ytgcehajdldicfaa
open Go Go.Vc Go.RowKit Go.Proofs

theorem rnS_len {L : List (List UInt8)} (hL : L.length < 10 ^ 30) {s : List UInt8} (h : s = [] ∨ s ∈ L) : (rnS L s).length ≤ 32 := by
  unfold rnS
  split
  · exact Nat.zero_le _
  · rename_i hn
    have h1 := List.idxOf_lt_length_iff.2 (h.resolve_left hn)
    have := digN_len 30 (L.idxOf s) (Nat.lt_trans h1 hL) (by decide)
    unfold zqN
    rw [List.length_append]
    show 2 + _ ≤ 32
    omega
theorem rn_ok {D : List Df} {A L : List (List UInt8)} (h : DOk D) (hA : A.length < 10 ^ 30) (hL : L.length < 10 ^ 30) (hin : ∀ d ∈ D, inD A L d) : DOk (D.map (rnD A L)) := by
  refine ⟨by rw [List.length_map]; exact h.len, fun d hd => ?_, fun d hd => ?_, fun d hd x hx => ?_⟩
  · obtain ⟨d0, h0, rfl⟩ := List.mem_map.1 hd
    show (d0.ty.map _).length * 72 ≤ _
    rw [List.length_map]; exact h.ty d0 h0
  · obtain ⟨d0, h0, rfl⟩ := List.mem_map.1 hd
    have h1 := List.idxOf_lt_length_iff.2 (hin d0 h0).1
    have := digN_len 30 (A.idxOf d0.name) (Nat.lt_trans h1 hA) (by decide)
    show (zqN _).length ≤ _
    unfold zqN
    rw [List.length_append]
    show 2 + _ ≤ _
    omega
  · obtain ⟨d0, h0, rfl⟩ := List.mem_map.1 hd
    obtain ⟨x0, hx0, rfl⟩ := List.mem_map.1 hx
    have h1 := rnS_len hA ((hin d0 h0).2 x0 hx0).1
    have h2 := rnS_len hL ((hin d0 h0).2 x0 hx0).2
    exact ⟨Nat.le_trans h1 (by decide), Nat.le_trans h2 (by decide)⟩
theorem ord_len (D : List Df) (h : DOk D) : (ordR D).length ≤ 4611686018427387904 := by
  unfold ordR
  split
  · rename_i hf
    have hG := good_of hf
    rw [hG.ord.2]
    have := h.len; omega
  · exact Nat.zero_le _
theorem dep_len (D : List Df) (h : DOk D) : (depR D).length ≤ 4611686018427387904 := by
  unfold depR
  split
  · rw [List.length_map, List.length_range]
    have := h.len; omega
  · exact Nat.zero_le _

set_option maxHeartbeats 4000000 in
theorem renamed_walk (w0 : World) (D : List Df) (dv : Value) (V : Nat → Value) (hD : DefR w0 D dv V) (hlim : DOk D) (hDt : ∀ d ∈ D, d.ty.length ≤ 1048576) (hDl : D.length ≤ 1048576) : Ca Try.prog 5 #[.agg #[dv]] w0 (fun v w' => v = .bool true ∧ Ext w0 w') := by
  have hlen := hlim.len
  obtain ⟨er, at_, hf⟩ : ∃ er at_, flt D = (er, at_) := ⟨_, _, rfl⟩
  refine Ca.of Try.func5 Try.ntmps5 rfl rfl ?_
  refine W.seq ?_
  refine W.region ?_
  refine WL.c rfl (o_boxB rfl ?_)
  intro w1 hC1 hx1 hs1
  obtain ⟨b1, hb1⟩ : ∃ b, b = w0.heap.size := ⟨_, rfl⟩
  rw [← hb1] at hC1 ⊢
  replace hC1 : w1.heap[b1]? = some (.cells ([dv]).toArray 24 (0, 0)) := hC1
  have hx := hx1
  replace hD := hD.ext hx1
  refine WL.c rfl (o_ash (show _ = Value.bool _ from rfl) ?_)
  refine WL.nil ?_
  refine W.seq ?_
  refine W.seq ?_
  refine W.region ?_
  refine WL.c rfl (o_call Try.call9 ln ((n8_first _).mono ?_))
  rintro v14 w14 ⟨rfl, hx14⟩
  replace hx := hx.tr hx14
  replace hD := hD.ext hx14
  replace hC1 := hx14.blk hC1 (fun h => h)
  refine WL.c rfl (o_not' rfl ?_)
  refine WL.nil ?_
  refine W.condF' rfl (by simp) ?_
  refine W.skip ?_
  refine W.seq ?_
  refine W.region ?_
  refine WL.c rfl (o_ldA TI24 rfl rfl (show Cells _ b1 0 [dv] from Cells.of hC1 0 _ (by simp)) rfl ?_)
  refine WL.c rfl (o_call Try.call12 (lc rfl ln) ((check_call D dv V _ hD hlim hf).mono ?_))
  rintro v17 w17 ⟨rfl, hx17⟩
  replace hx := hx.tr hx17
  replace hD := hD.ext hx17
  replace hC1 := hx17.blk hC1 (fun h => h)
  refine WL.c rfl (o_alB TI32 ?_)
  intro wa hCa hxa hsa
  refine WL.u (o_stA TI32 rfl (show _ = Value.agg ([.int .i64 er, .int .i64 at_]).toArray from rfl) rfl rfl hCa rfl ?_)
  intro wb3 hC3 hob hsb
  have hxb := Ext.own hxa (Nat.le_refl _) hob
  obtain ⟨b3, hb3⟩ : ∃ b, b = w17.heap.size := ⟨_, rfl⟩
  rw [← hb3] at hC3 ⊢
  clear hCa hxa hsa hob hsb
  replace hx := hx.tr hxb
  replace hD := hD.ext hxb
  replace hC1 := hxb.blk hC1 (fun h => h)
  clear hxb
  refine WL.nil ?_
  refine W.seq ?_
  refine W.region ?_
  refine WL.c rfl (o_ldA TI24 rfl rfl (show Cells _ b1 0 [dv] from Cells.of hC1 0 _ (by simp)) rfl ?_)
  refine WL.c rfl (o_call Try.call20 (lc rfl ln) ((turned_spec D dv V _ hD hlim hDl hDt).mono ?_))
  rintro v20 w20 ⟨gv, b, H, VV, A, L, rfl, hde, hin, hA, hL, hx20⟩
  replace hx := hx.tr hx20
  replace hD := hD.ext hx20
  replace hC1 := hx20.blk hC1 (fun h => h)
  replace hC3 := hx20.blk hC3 (fun h => h)
  refine WL.c rfl (o_mvh (by first | exact (show _ = Value.tuple _ from rfl) | exact rfl) ?_)
  refine WL.c rfl (o_ext rfl rfl ?_)
  refine WL.c rfl (o_ext rfl rfl ?_)
  refine WL.c rfl (o_alB TI24 ?_)
  intro wa hCa hxa hsa
  refine WL.u (o_stA TI24 rfl (show _ = Value.agg #[gv] from rfl) rfl (by simp [own_one hde.row]) hCa rfl ?_)
  intro wb4 hC4 hob hsb
  have hxb := Ext.own hxa (Nat.le_refl _) hob
  obtain ⟨b4, hb4⟩ : ∃ b, b = w20.heap.size := ⟨_, rfl⟩
  rw [← hb4] at hC4 ⊢
  clear hCa hxa hsa hob hsb
  replace hC4 : wb4.heap[b4]? = some (.cells #[gv] 24 (0, 0)) := hC4
  replace hx := hx.tr hxb
  replace hD := hD.ext hxb
  replace hC1 := hxb.blk hC1 (fun h => h)
  replace hC3 := hxb.blk hC3 (fun h => h)
  replace hde := hde.ext hxb
  clear hxb
  refine WL.c rfl (o_ash (show _ = Value.bool _ from rfl) ?_)
  refine WL.nil ?_
  refine W.seq ?_
  refine W.seq ?_
  by_cases q1 : b = true
  by_cases q2 : er = 62
  · skip
    refine W.region ?_
    refine WL.c rfl (o_mvh (show _ = Value.bool _ from rfl) ?_)
    refine WL.c rfl (o_not' rfl ?_)
    refine WL.c rfl (o_mvh (show _ = Value.bool _ from rfl) ?_)
    refine WL.g rfl (by simp [q1]) rfl (o_fa 0 TI32 rfl TI30 rfl rfl ?_)
    refine WL.g rfl (by simp [q1]) rfl (o_ld TI30 rfl rfl (cell_of hC3 rfl) ?_)
    refine WL.g rfl (by simp [q1]) rfl (o_eq rfl rfl ?_)
    refine WL.c rfl (o_pickO rfl rfl ?_)
    refine WL.nil ?_
    refine W.condT' rfl (by simp [q1, q2]) ?_
    refine W.seq ?_
    refine W.region ?_
    refine WL.c rfl (o_ash (show _ = Value.bool _ from rfl) ?_)
    refine WL.nil ?_
    refine W.ret ?_
    refine ret1v rfl (show _ = Value.bool _ from rfl) ?_
    exact ⟨rfl, hx⟩
  · skip
    refine W.region ?_
    refine WL.c rfl (o_mvh (show _ = Value.bool _ from rfl) ?_)
    refine WL.c rfl (o_not' rfl ?_)
    refine WL.c rfl (o_mvh (show _ = Value.bool _ from rfl) ?_)
    refine WL.g rfl (by simp [q1]) rfl (o_fa 0 TI32 rfl TI30 rfl rfl ?_)
    refine WL.g rfl (by simp [q1]) rfl (o_ld TI30 rfl rfl (cell_of hC3 rfl) ?_)
    refine WL.g rfl (by simp [q1]) rfl (o_eq rfl rfl ?_)
    refine WL.c rfl (o_pickO rfl rfl ?_)
    refine WL.nil ?_
    refine W.condF' rfl (by simp [q1, q2]) ?_
    refine W.skip ?_
    refine W.seq ?_
    have hck := flt_src hf q2
    have hf2 : flt (D.map (rnD A L)) = (er, at_) := by rw [rn_flt hck hin hA hL]; exact hf
    have heo := rn_ordR hck hin hA hL
    have hed := rn_depR hck hin hA hL
    have hlim2 := rn_ok hlim hA hL hin
    refine W.region ?_
    refine WL.c rfl (o_ldA TI24 rfl rfl (show Cells _ b1 0 [dv] from Cells.of hC1 0 _ (by simp)) rfl ?_)
    refine WL.c rfl (o_call Try.call13 (lc rfl ln) ((order_call D dv V _ hD hlim hf).mono ?_))
    rintro v32 w32 ⟨o1, rfl, ho1, hx32⟩
    replace hx := hx.tr hx32
    replace hD := hD.ext hx32
    replace hC1 := hx32.blk hC1 (fun h => h)
    replace hC3 := hx32.blk hC3 (fun h => h)
    replace hC4 := hx32.blk hC4 (fun h => h)
    replace hde := hde.ext hx32
    refine WL.c rfl (o_mvh (by first | exact (show _ = Value.tuple _ from rfl) | exact rfl) ?_)
    refine WL.c rfl (o_ext rfl rfl ?_)
    refine WL.c rfl (o_ext rfl rfl ?_)
    refine WL.c rfl (o_alB TI32 ?_)
    intro wa hCa hxa hsa
    refine WL.c rfl (o_ash (by first | exact (show _ = Value.slice _ _ _ from rfl) | exact rfl) ?_)
    refine WL.u (o_stA TI32 rfl (show _ = Value.agg ([.int .i64 er, .int .i64 at_]).toArray from rfl) rfl rfl hCa rfl ?_)
    intro wb7 hC7 hob hsb
    have hxb := Ext.own hxa (Nat.le_refl _) hob
    obtain ⟨b7, hb7⟩ : ∃ b, b = w32.heap.size := ⟨_, rfl⟩
    rw [← hb7] at hC7 ⊢
    clear hCa hxa hsa hob hsb
    replace hx := hx.tr hxb
    replace hD := hD.ext hxb
    replace hC1 := hxb.blk hC1 (fun h => h)
    replace hC3 := hxb.blk hC3 (fun h => h)
    replace hC4 := hxb.blk hC4 (fun h => h)
    replace hde := hde.ext hxb
    replace ho1 := own_ext ho1 hxb
    clear hxb
    refine WL.nil ?_
    refine W.seq ?_
    refine W.region ?_
    refine WL.c rfl (o_ldA TI24 rfl rfl (show Cells _ b1 0 [dv] from Cells.of hC1 0 _ (by simp)) rfl ?_)
    refine WL.c rfl (o_call Try.call14 (lc rfl ln) ((depth_call D dv V _ hD hlim hf).mono ?_))
    rintro v37 w37 ⟨d1, rfl, hd1, hx37⟩
    replace hx := hx.tr hx37
    replace hC3 := hx37.blk hC3 (fun h => h)
    replace hC4 := hx37.blk hC4 (fun h => h)
    replace hde := hde.ext hx37
    replace ho1 := own_ext ho1 hx37
    replace hC7 := hx37.blk hC7 (fun h => h)
    refine WL.c rfl (o_mvh (by first | exact (show _ = Value.tuple _ from rfl) | exact rfl) ?_)
    refine WL.c rfl (o_ext rfl rfl ?_)
    refine WL.c rfl (o_ext rfl rfl ?_)
    refine WL.c rfl (o_alB TI32 ?_)
    intro wa hCa hxa hsa
    refine WL.c rfl (o_ash (by first | exact (show _ = Value.slice _ _ _ from rfl) | exact rfl) ?_)
    refine WL.u (o_stA TI32 rfl (show _ = Value.agg ([.int .i64 er, .int .i64 at_]).toArray from rfl) rfl rfl hCa rfl ?_)
    intro wb9 hC9 hob hsb
    have hxb := Ext.own hxa (Nat.le_refl _) hob
    obtain ⟨b9, hb9⟩ : ∃ b, b = w37.heap.size := ⟨_, rfl⟩
    rw [← hb9] at hC9 ⊢
    clear hCa hxa hsa hob hsb
    replace hx := hx.tr hxb
    replace hC3 := hxb.blk hC3 (fun h => h)
    replace hC4 := hxb.blk hC4 (fun h => h)
    replace hde := hde.ext hxb
    replace ho1 := own_ext ho1 hxb
    replace hd1 := own_ext hd1 hxb
    replace hC7 := hxb.blk hC7 (fun h => h)
    clear hxb
    refine WL.nil ?_
    refine W.seq ?_
    refine W.region ?_
    refine WL.c rfl (o_ldA TI24 rfl rfl (show Cells _ b4 0 [gv] from Cells.of hC4 0 _ (by simp)) rfl ?_)
    refine WL.c rfl (o_call Try.call13 (lc rfl ln) ((order_call (D.map (rnD A L)) gv VV _ hde.rd hlim2 hf2).mono ?_))
    rintro v42 w42 ⟨o2, rfl, ho2, hx42⟩
    rw [heo] at ho2
    replace hx := hx.tr hx42
    replace hC3 := hx42.blk hC3 (fun h => h)
    replace hC4 := hx42.blk hC4 (fun h => h)
    replace hde := hde.ext hx42
    replace ho1 := own_ext ho1 hx42
    replace hd1 := own_ext hd1 hx42
    replace hC7 := hx42.blk hC7 (fun h => h)
    replace hC9 := hx42.blk hC9 (fun h => h)
    refine WL.c rfl (o_mvh (by first | exact (show _ = Value.tuple _ from rfl) | exact rfl) ?_)
    refine WL.c rfl (o_ext rfl rfl ?_)
    refine WL.c rfl (o_ext rfl rfl ?_)
    refine WL.c rfl (o_alB TI32 ?_)
    intro wa hCa hxa hsa
    refine WL.c rfl (o_ash (by first | exact (show _ = Value.slice _ _ _ from rfl) | exact rfl) ?_)
    refine WL.u (o_stA TI32 rfl (show _ = Value.agg ([.int .i64 er, .int .i64 at_]).toArray from rfl) rfl rfl hCa rfl ?_)
    intro wb11 hC11 hob hsb
    have hxb := Ext.own hxa (Nat.le_refl _) hob
    obtain ⟨b11, hb11⟩ : ∃ b, b = w42.heap.size := ⟨_, rfl⟩
    rw [← hb11] at hC11 ⊢
    clear hCa hxa hsa hob hsb
    replace hx := hx.tr hxb
    replace hC3 := hxb.blk hC3 (fun h => h)
    replace hC4 := hxb.blk hC4 (fun h => h)
    replace hde := hde.ext hxb
    replace ho1 := own_ext ho1 hxb
    replace hd1 := own_ext hd1 hxb
    replace ho2 := own_ext ho2 hxb
    replace hC7 := hxb.blk hC7 (fun h => h)
    replace hC9 := hxb.blk hC9 (fun h => h)
    clear hxb
    refine WL.nil ?_
    refine W.seq ?_
    refine W.region ?_
    refine WL.c rfl (o_ldA TI24 rfl rfl (show Cells _ b4 0 [gv] from Cells.of hC4 0 _ (by simp)) rfl ?_)
    refine WL.c rfl (o_call Try.call14 (lc rfl ln) ((depth_call (D.map (rnD A L)) gv VV _ hde.rd hlim2 hf2).mono ?_))
    rintro v47 w47 ⟨d2, rfl, hd2, hx47⟩
    rw [hed] at hd2
    replace hx := hx.tr hx47
    replace hC3 := hx47.blk hC3 (fun h => h)
    replace hC4 := hx47.blk hC4 (fun h => h)
    replace hde := hde.ext hx47
    replace ho1 := own_ext ho1 hx47
    replace hd1 := own_ext hd1 hx47
    replace ho2 := own_ext ho2 hx47
    replace hC7 := hx47.blk hC7 (fun h => h)
    replace hC9 := hx47.blk hC9 (fun h => h)
    replace hC11 := hx47.blk hC11 (fun h => h)
    refine WL.c rfl (o_mvh (by first | exact (show _ = Value.tuple _ from rfl) | exact rfl) ?_)
    refine WL.c rfl (o_ext rfl rfl ?_)
    refine WL.c rfl (o_ext rfl rfl ?_)
    refine WL.c rfl (o_alB TI32 ?_)
    intro wa hCa hxa hsa
    refine WL.c rfl (o_ash (by first | exact (show _ = Value.slice _ _ _ from rfl) | exact rfl) ?_)
    refine WL.u (o_stA TI32 rfl (show _ = Value.agg ([.int .i64 er, .int .i64 at_]).toArray from rfl) rfl rfl hCa rfl ?_)
    intro wb13 hC13 hob hsb
    have hxb := Ext.own hxa (Nat.le_refl _) hob
    obtain ⟨b13, hb13⟩ : ∃ b, b = w47.heap.size := ⟨_, rfl⟩
    rw [← hb13] at hC13 ⊢
    clear hCa hxa hsa hob hsb
    replace hx := hx.tr hxb
    replace hC3 := hxb.blk hC3 (fun h => h)
    replace hC4 := hxb.blk hC4 (fun h => h)
    replace hde := hde.ext hxb
    replace ho1 := own_ext ho1 hxb
    replace hd1 := own_ext hd1 hxb
    replace ho2 := own_ext ho2 hxb
    replace hd2 := own_ext hd2 hxb
    replace hC7 := hxb.blk hC7 (fun h => h)
    replace hC9 := hxb.blk hC9 (fun h => h)
    replace hC11 := hxb.blk hC11 (fun h => h)
    clear hxb
    refine WL.nil ?_
    refine W.seq ?_
    obtain ⟨wd, hwd⟩ : ∃ wd, wd = wb13.drew := ⟨_, rfl⟩
    have hxd : Ext wb13 wd := hwd ▸ Only.drew wb13
    replace hx := hx.tr hxd
    replace hC3 := hxd.blk hC3 (fun h => h)
    replace hC4 := hxd.blk hC4 (fun h => h)
    replace hde := hde.ext hxd
    replace ho1 := own_ext ho1 hxd
    replace hd1 := own_ext hd1 hxd
    replace ho2 := own_ext ho2 hxd
    replace hd2 := own_ext hd2 hxd
    replace hC11 := hxd.blk hC11 (fun h => h)
    replace hC13 := hxd.blk hC13 (fun h => h)
    refine W.draw (Ext) [(3, fun v _ => v = (.pointer (some ⟨b3, 0, none⟩))), (4, fun v _ => v = (.pointer (some ⟨b4, 0, none⟩))), (6, fun v _ => v = (o1)), (8, fun v _ => v = (d1)), (10, fun v _ => v = (o2)), (11, fun v _ => v = (.pointer (some ⟨b11, 0, none⟩))), (12, fun v _ => v = (d2)), (13, fun v _ => v = (.pointer (some ⟨b13, 0, none⟩)))] rfl (by kernel_rfl) (Only.refl No) (fun _ _ _ h k => h.trans k) ⟨Mono.eq, Mono.eq, Mono.eq, Mono.eq, Mono.eq, Mono.eq, Mono.eq, Mono.eq, trivial⟩ ⟨rfl, rfl, rfl, rfl, rfl, rfl, rfl, rfl, trivial⟩ ?_
    refine WD.p rfl (fun e w hR hh => by obtain ⟨h4, -⟩ := hh; rw [← hwd] at hR; exact SG.n (o_ldA TI24 rfl h4 (show Cells _ b4 0 [gv] from Cells.of (hR.blk hC4 (fun h => h)) 0 _ (by simp)) rfl ⟨rfl, Only.refl No _⟩)) ?_
    refine WD.p rfl (fun e w hR hh => by obtain ⟨h50, -⟩ := hh; rw [← hwd] at hR; exact SG.n (o_call Try.call12 (lc h50 ln) ((check_call (D.map (rnD A L)) gv VV _ (hde.ext hR).rd hlim2 hf2).mono (fun v w' ⟨h1, h2⟩ => ⟨h1, h2⟩)))) ?_
    refine WD.p rfl (fun e w hR hh => by obtain ⟨h3, -⟩ := hh; rw [← hwd] at hR; exact SG.n (o_ldA TI32 rfl h3 (show Cells _ b3 0 [.int .i64 er, .int .i64 at_] from Cells.of (hR.blk hC3 (fun h => h)) 0 _ (by simp)) rfl ⟨rfl, Only.refl No _⟩)) ?_
    refine WD.p rfl (fun e w hR hh => by obtain ⟨h52, h51, -⟩ := hh; exact SG.n (o_eqR TI32 (by kernel_rfl) (by kernel_rfl) h51 h52 (.int TI30 (by decide) rfl rfl (.int TI3 (by decide) rfl rfl .nil)) ⟨rfl, Only.refl No _⟩)) ?_
    refine WD.p rfl (fun e w hR hh => by obtain ⟨h53, -⟩ := hh; exact SG.n (o_mvh h53 ⟨rfl, Only.refl No _⟩)) ?_
    refine WD.p rfl (fun e w hR hh => by obtain ⟨h54, h11, -⟩ := hh; rw [← hwd] at hR; exact SG.g h54 (by simp) (o_ldA TI32 rfl h11 (show Cells _ b11 0 [.int .i64 er, .int .i64 at_] from Cells.of (hR.blk hC11 (fun h => h)) 0 _ (by simp)) rfl ⟨rfl, Only.refl No _⟩)) ?_
    refine WD.p rfl (fun e w hR hh => by obtain ⟨h54, h3, -⟩ := hh; rw [← hwd] at hR; exact SG.g h54 (by simp) (o_ldA TI32 rfl h3 (show Cells _ b3 0 [.int .i64 er, .int .i64 at_] from Cells.of (hR.blk hC3 (fun h => h)) 0 _ (by simp)) rfl ⟨rfl, Only.refl No _⟩)) ?_
    refine WD.p rfl (fun e w hR hh => by obtain ⟨h56, h55, h54, -⟩ := hh; exact SG.g h54 (by simp) (o_eqR TI32 (by kernel_rfl) (by kernel_rfl) h55 h56 (.int TI30 (by decide) rfl rfl (.int TI3 (by decide) rfl rfl .nil)) ⟨rfl, Only.refl No _⟩)) ?_
    refine WD.p rfl (fun e w hR hh => by obtain ⟨h57, h54, -⟩ := hh; exact SG.n (o_pickA h54 h57 ⟨rfl, Only.refl No _⟩)) ?_
    refine WD.p rfl (fun e w hR hh => by obtain ⟨h58, -⟩ := hh; exact SG.n (o_mvh h58 ⟨rfl, Only.refl No _⟩)) ?_
    refine WD.p rfl (fun e w hR hh => by obtain ⟨h59, h13, -⟩ := hh; rw [← hwd] at hR; exact SG.g h59 (by simp) (o_ldA TI32 rfl h13 (show Cells _ b13 0 [.int .i64 er, .int .i64 at_] from Cells.of (hR.blk hC13 (fun h => h)) 0 _ (by simp)) rfl ⟨rfl, Only.refl No _⟩)) ?_
    refine WD.p rfl (fun e w hR hh => by obtain ⟨h59, h3, -⟩ := hh; rw [← hwd] at hR; exact SG.g h59 (by simp) (o_ldA TI32 rfl h3 (show Cells _ b3 0 [.int .i64 er, .int .i64 at_] from Cells.of (hR.blk hC3 (fun h => h)) 0 _ (by simp)) rfl ⟨rfl, Only.refl No _⟩)) ?_
    refine WD.p rfl (fun e w hR hh => by obtain ⟨h61, h60, h59, -⟩ := hh; exact SG.g h59 (by simp) (o_eqR TI32 (by kernel_rfl) (by kernel_rfl) h60 h61 (.int TI30 (by decide) rfl rfl (.int TI3 (by decide) rfl rfl .nil)) ⟨rfl, Only.refl No _⟩)) ?_
    refine WD.p rfl (fun e w hR hh => by obtain ⟨h62, h59, -⟩ := hh; exact SG.n (o_pickA h59 h62 ⟨rfl, Only.refl No _⟩)) ?_
    refine WD.p rfl (fun e w hR hh => by obtain ⟨h63, -⟩ := hh; exact SG.n (o_mvh h63 ⟨rfl, Only.refl No _⟩)) ?_
    refine WD.p rfl (fun e w hR hh => by obtain ⟨h64, h6, -⟩ := hh; exact SG.g h64 (by simp) (o_mvh h6 ⟨rfl, Only.refl No _⟩)) ?_
    refine WD.p rfl (fun e w hR hh => by obtain ⟨h64, h10, -⟩ := hh; exact SG.g h64 (by simp) (o_mvh h10 ⟨rfl, Only.refl No _⟩)) ?_
    refine WD.p rfl (fun e w hR hh => by obtain ⟨h66, h65, h64, -⟩ := hh; rw [← hwd] at hR; exact SG.g h64 (by simp) (o_call Try.call18 (lc h65 (lc h66 ln)) ((n8_intn (ordR D) (ordR D) o1 o2 _ (Sl.own (own_ext ho1 hR)) (Sl.own (own_ext ho2 hR)) (ord_len D hlim)).mono (fun v w' ⟨h1, h2⟩ => ⟨h1, h2⟩)))) ?_
    refine WD.p rfl (fun e w hR hh => by obtain ⟨h67, h64, -⟩ := hh; exact SG.n (o_pickA h64 h67 ⟨rfl, Only.refl No _⟩)) ?_
    refine WD.p rfl (fun e w hR hh => by obtain ⟨h68, -⟩ := hh; exact SG.n (o_mvh h68 ⟨rfl, Only.refl No _⟩)) ?_
    refine WD.p rfl (fun e w hR hh => by obtain ⟨h69, h8, -⟩ := hh; exact SG.g h69 (by simp) (o_mvh h8 ⟨rfl, Only.refl No _⟩)) ?_
    refine WD.p rfl (fun e w hR hh => by obtain ⟨h69, h12, -⟩ := hh; exact SG.g h69 (by simp) (o_mvh h12 ⟨rfl, Only.refl No _⟩)) ?_
    refine WD.p rfl (fun e w hR hh => by obtain ⟨h71, h70, h69, -⟩ := hh; rw [← hwd] at hR; exact SG.g h69 (by simp) (o_call Try.call18 (lc h70 (lc h71 ln)) ((n8_intn (depR D) (depR D) d1 d2 _ (Sl.own (own_ext hd1 hR)) (Sl.own (own_ext hd2 hR)) (dep_len D hlim)).mono (fun v w' ⟨h1, h2⟩ => ⟨h1, h2⟩)))) ?_
    refine WD.p rfl (fun e w hR hh => by obtain ⟨h72, h69, -⟩ := hh; exact SG.n (o_pickA h69 h72 ⟨rfl, Only.refl No _⟩)) ?_
    refine WD.p rfl (fun e w hR hh => by obtain ⟨h73, -⟩ := hh; exact SG.n (o_ash h73 ⟨rfl, Only.refl No _⟩)) ?_
    rintro e w hR ⟨h2, h73, h72, h71, h70, h69, h68, h67, h66, h65, h64, h63, h62, h61, h60, h59, h58, h57, h56, h55, h54, h53, h52, h51, h50, h3, h4, h6, h8, h10, h11, h12, h13, -⟩
    rw [← hwd] at hR
    replace hx := hx.tr hR
    refine W.ret ?_
    refine ret1v rfl h2 ?_
    exact ⟨congrArg Value.bool (by simp), hx⟩
  · skip
    refine W.region ?_
    refine WL.c rfl (o_mvh (show _ = Value.bool _ from rfl) ?_)
    refine WL.c rfl (o_not' rfl ?_)
    refine WL.c rfl (o_mvh (show _ = Value.bool _ from rfl) ?_)
    refine WL.s rfl (by simp [q1]) rfl ?_
    refine WL.s rfl (by simp [q1]) rfl ?_
    refine WL.s rfl (by simp [q1]) rfl ?_
    refine WL.c rfl (o_pickT rfl (by simp [q1]) ?_)
    refine WL.nil ?_
    refine W.condT' rfl (rfl) ?_
    refine W.seq ?_
    refine W.region ?_
    refine WL.c rfl (o_ash (show _ = Value.bool _ from rfl) ?_)
    refine WL.nil ?_
    refine W.ret ?_
    refine ret1v rfl (show _ = Value.bool _ from rfl) ?_
    exact ⟨rfl, hx⟩
end Go.Proofs.Ytgcehajdldicfaa

set_option linter.unusedSimpArgs false
set_option linter.unusedVariables false
set_option maxRecDepth 100000
namespace Go.Proofs.Ytgcehajdldicfaa
open Go Go.Vc Go.RowKit Go.Proofs

/-- its bulk is bounded -/
def Blk {H : Type} (d : DataW H) : Prop := Rows.uptoBulk d ≤ 1048576
theorem bulk_mem {H : Type} : ∀ {l : List (DataW H)} {d : DataW H}, d ∈ l → Rows.uptoBulk d ≤ Rows.uptoBulkAll l
  | d0 :: l, d, h => by
    rw [Rows.uptoBulkAll]
    rcases List.mem_cons.1 h with rfl | h
    · omega
    · have := bulk_mem h; omega
theorem bulk_pos {H : Type} (d : DataW H) : 1 ≤ Rows.uptoBulk d := by
  cases d with
  | lit x => cases x <;> simp [Rows.uptoBulk]
  | _ => simp [Rows.uptoBulk]
theorem bulk_len {H : Type} : ∀ l : List (DataW H), l.length ≤ Rows.uptoBulkAll l
  | [] => Nat.zero_le _
  | d :: l => by rw [Rows.uptoBulkAll, List.length_cons]; have := bulk_len l; have := bulk_pos d; omega
theorem Blk.elem {H : Type} {elems spare : List (DataW H)} {d : DataW H} (h : Blk (.slice elems spare)) (hd : d ∈ elems) : Blk d := by
  have := bulk_mem hd; unfold Blk at h ⊢; rw [Rows.uptoBulk] at h; omega
theorem Blk.part {H : Type} {parts : List (DataW H)} {i : Nat} {d : DataW H} (h : Blk (.agg parts)) (hd : parts[i]? = some d) : Blk d := by
  have := bulk_mem (List.mem_of_getElem? hd); unfold Blk at h ⊢; rw [Rows.uptoBulk] at h; omega
theorem Blk.size {H : Type} {elems spare : List (DataW H)} (h : Blk (.slice elems spare)) : elems.length ≤ 1048576 := by
  have := bulk_len elems; unfold Blk at h; rw [Rows.uptoBulk] at h; omega
section
variable {H : Type} {enc : TypeId × Value → H} {P : Program} {W : World} {held : Bool}
/-- a slice of what is opened by 'hc' -/
theorem open_rowsQ {α : Type} {t e : TypeId} (s : Nat) (cells : α → List Value) (p : α → Prop) (hu : P.underlying t = some (.slice e)) (hs : P.cellsOf e = s) (hs0 : 0 < s) (hlen : ∀ o, (cells o).length = s)
    (hc : ∀ (n : Nat) (cs : List Value) (y : DataW H × List MemPlace), DataW.trod enc P W 0 (fun _ => true) held n e cs = some y → Blk y.1 → ∃ o, cs = cells o ∧ p o)
    {fuel : Nat} {v : Value} {x : DataW H × List MemPlace} (h : DataW.trod enc P W 0 (fun _ => true) held fuel t [v] = some x) (hz : Blk x.1) :
    ∃ os : List α, os.length ≤ maxLen ∧ Sl W s v os.length (os.flatMap cells) ∧ ∀ o ∈ os, p o := by
  rcases DataW.trod_slice hu h with ⟨hcs, hd⟩ | ⟨a, len, cap, elems, rest, n, -, hcs, hx, -, hl, hm, hle, hel, -, -⟩
  · simp only [List.cons.injEq, and_true] at hcs
    subst hcs
    exact ⟨[], Nat.zero_le _, Sl.nil W s, fun o h => by cases h⟩
  · simp only [List.cons.injEq, and_true] at hcs
    subst hcs
    subst hx
    have key : ∀ i, i < len → ∃ o : α, (∀ j v, (cells o)[j]? = some v → W.cell? (a.add (i * s + j)) = some v) ∧ p o := by
      intro i hi
      have he := hel i hi
      rw [List.getElem?_eq_getElem (by omega), hs, Option.bind_eq_some_iff] at he
      obtain ⟨cs, h1, h2⟩ := he
      obtain ⟨-, h4, h5⟩ := World.cells?_some h1
      obtain ⟨o, ho, hp⟩ := hc n cs _ h2 (hz.elem (List.mem_map.2 ⟨_, List.getElem_mem (by omega), rfl⟩))
      subst ho
      refine ⟨o, fun j v hj => ?_, hp⟩
      have hjs : j < s := by have := (List.getElem?_eq_some_iff.1 hj).1; rw [hlen] at this; exact this
      have := h5 j hjs
      rw [← hj, ← this, addr_add]
    obtain ⟨os, ho1, ho2⟩ := list_of _ len key
    refine ⟨os, by omega, ⟨?_, ?_⟩, fun o ho => ?_⟩
    · clear ho2 ho1
      induction os with
      | nil => simp
      | cons o os ih => rw [List.flatMap_cons, List.length_append, hlen, ih, List.length_cons, Nat.add_mul]; omega
    · by_cases h0 : len = 0
      · subst h0; exact .inl ⟨ho1, _, _, rfl⟩
      · obtain ⟨b, off, spot⟩ := a
        have h00 := (ho2 0 (by omega)).1 0 ((cells (os[0]'(by omega)))[0]'(by rw [hlen]; exact hs0)) (List.getElem?_eq_getElem _)
        have hsp : spot = none := by simpa [Addr.add] using World.cell?_spot h00
        subst hsp
        refine .inr ⟨b, off, cap, by rw [ho1], by omega, fun idx u hu => ?_⟩
        obtain ⟨i, j, hi, h1, h2⟩ := flatMap_get hlen os idx u hu
        have h3 := (ho2 i hi).1 j u h2
        rw [h1, ← h3, add_none]
    · obtain ⟨i, hi, rfl⟩ := List.getElem_of_mem ho
      exact (ho2 i hi).2
/-- a struct's field -/
theorem open_fieldQ {t u : TypeId} {fs : Array Field} {f : Field} (i off s : Nat) (hu : P.underlying t = some (.struct fs)) (hf : fs[i]? = some f) (ht : f.type = u) (ho : f.offset = off) (hs : P.cellsOf u = s) {fuel : Nat} {cs : List Value} {x : DataW H × List MemPlace}
    (h : DataW.trod enc P W 0 (fun _ => true) held fuel t cs = some x) (hz : Blk x.1) : ∃ n y, DataW.trod enc P W 0 (fun _ => true) held n u ((cs.drop off).take s) = some y ∧ Blk y.1 := by
  subst ht ho hs
  obtain ⟨xs, n, -, hx, -, hl, hall⟩ := DataW.trod_struct hu h
  have hi : i < fs.size := (Array.getElem?_eq_some_iff.1 hf).1
  have h1 := hall i f hf
  rw [List.getElem?_eq_getElem (by omega)] at h1
  refine ⟨n, _, h1, ?_⟩
  subst hx
  refine hz.part (i := i) ?_
  · rw [List.getElem?_map, List.getElem?_eq_getElem (by omega)]; rfl

theorem rows_lenQ {t e : TypeId} (hu : P.underlying t = some (.slice e)) {fuel : Nat} {a : Option Addr} {n c : Nat} {x : DataW H × List MemPlace}
    (h : DataW.trod enc P W 0 (fun _ => true) held fuel t [.slice a n c] = some x) (hz : Blk x.1) : n ≤ 1048576 := by
  rcases DataW.trod_slice hu h with ⟨hcs, hd⟩ | ⟨a', len, cap, elems, rest, k, -, hcs, hx, -, hl, hm, hle, hel, -, -⟩
  · simp only [List.cons.injEq, and_true, Value.slice.injEq] at hcs
    omega
  · simp only [List.cons.injEq, and_true, Value.slice.injEq] at hcs
    subst hx
    have h1 := hz.size
    simp only [List.length_map, List.length_take] at h1
    omega
theorem open_exprQ {n : Nat} {cs : List Value} {y : DataW H × List MemPlace} (h : DataW.trod enc Try.prog W 0 (fun _ => true) held n 26 cs = some y) (hz : Blk y.1) : ∃ x : Ex, cs = exV x ∧ ExOk x := by
  have hl := open_struct_len (s := 7) Try.underlying26 (by kernel_rfl) h
  obtain ⟨a, b, c, d, e, f, g, rfl⟩ := seven_cells hl
  obtain ⟨n0, y0, h0, -⟩ := open_fieldQ 0 0 1 Try.underlying26 rfl rfl rfl (by kernel_rfl) h hz
  obtain ⟨n1, y1, h1, -⟩ := open_fieldQ 1 1 1 Try.underlying26 rfl rfl rfl (by kernel_rfl) h hz
  obtain ⟨n2, y2, h2, -⟩ := open_fieldQ 2 2 1 Try.underlying26 rfl rfl rfl (by kernel_rfl) h hz
  obtain ⟨n3, y3, h3, -⟩ := open_fieldQ 3 3 1 Try.underlying26 rfl rfl rfl (by kernel_rfl) h hz
  obtain ⟨n4, y4, h4, -⟩ := open_fieldQ 4 4 1 Try.underlying26 rfl rfl rfl (by kernel_rfl) h hz
  obtain ⟨n5, y5, h5, -⟩ := open_fieldQ 5 5 1 Try.underlying26 rfl rfl rfl (by kernel_rfl) h hz
  obtain ⟨n6, y6, h6, -⟩ := open_fieldQ 6 6 1 Try.underlying26 rfl rfl rfl (by kernel_rfl) h hz
  obtain ⟨k0, e0, -, -⟩ := DataW.trod_int Try.underlying3 h0
  obtain ⟨k1, e1, -, -⟩ := DataW.trod_int Try.underlying3 h1
  obtain ⟨k2, e2, -, l2⟩ := DataW.trod_string Try.underlying9 h2
  obtain ⟨k3, e3, -, l3⟩ := DataW.trod_string Try.underlying9 h3
  obtain ⟨k4, e4, -, -⟩ := DataW.trod_int Try.underlying3 h4
  obtain ⟨k5, e5, -, -⟩ := DataW.trod_int Try.underlying3 h5
  obtain ⟨k6, e6, -, -⟩ := DataW.trod_int Try.underlying3 h6
  simp only [List.drop_zero, List.drop_succ_cons, List.take_succ_cons, List.take_zero, List.cons.injEq, and_true] at e0 e1 e2 e3 e4 e5 e6
  refine ⟨⟨k0, k1, k2.data.toList, k3.data.toList, k4, k5, k6⟩, ?_, size_list l2, size_list l3⟩
  rw [e0, e1, e2, e3, e4, e5, e6, str_list, str_list]
  rfl

theorem open_exprsQ {n : Nat} {v : Value} {y : DataW H × List MemPlace} (h : DataW.trod enc Try.prog W 0 (fun _ => true) held n 37 [v] = some y) (hz : Blk y.1) :
    ∃ l : List Ex, Sl W 7 v l.length (exs l) ∧ l.length ≤ 1048576 ∧ ∀ x ∈ l, ExOk x := by
  obtain ⟨l, -, h1, h2⟩ := open_rowsQ 7 exV ExOk Try.underlying37 (by kernel_rfl) (by decide) (fun _ => rfl) (fun n cs y hy hz => open_exprQ hy hz) (v := v) h hz
  refine ⟨l, h1, ?_, h2⟩
  obtain ⟨a, c, rfl⟩ := h1.isSlice
  exact rows_lenQ Try.underlying37 h hz
def DfOkQ (W : World) (o : DfV) : Prop := Sl W 7 o.2 o.1.ty.length (exs o.1.ty) ∧ o.1.name.length ≤ 9223372036854775807 ∧ o.1.ty.length ≤ 1048576 ∧ ∀ x ∈ o.1.ty, ExOk x
theorem open_defQ {n : Nat} {cs : List Value} {y : DataW H × List MemPlace} (h : DataW.trod enc Try.prog W 0 (fun _ => true) held n 39 cs = some y) (hz : Blk y.1) : ∃ o : DfV, cs = dfV o ∧ DfOkQ W o := by
  have hl := open_struct_len (s := 3) Try.underlying39 (by kernel_rfl) h
  obtain ⟨a, b, c, rfl⟩ := three_cells hl
  obtain ⟨n0, y0, h0, -⟩ := open_fieldQ 0 0 1 Try.underlying39 rfl rfl rfl (by kernel_rfl) h hz
  obtain ⟨n1, y1, h1, -⟩ := open_fieldQ 1 1 1 Try.underlying39 rfl rfl rfl (by kernel_rfl) h hz
  obtain ⟨n2, y2, h2, z2⟩ := open_fieldQ 2 2 1 Try.underlying39 rfl rfl rfl (by kernel_rfl) h hz
  obtain ⟨k0, e0, -, l0⟩ := DataW.trod_string Try.underlying9 h0
  obtain ⟨k1, e1, -, -⟩ := DataW.trod_int Try.underlying3 h1
  obtain ⟨l, hS, hb, hok⟩ := open_exprsQ h2 z2
  simp only [List.drop_zero, List.drop_succ_cons, List.take_succ_cons, List.take_zero, List.cons.injEq, and_true] at e0 e1
  refine ⟨(⟨k0.data.toList, k1, l⟩, c), ?_, hS, size_list l0, hb, hok⟩
  rw [e0, e1, str_list]
  rfl
theorem open_sourceQ {n : Nat} {cs : List Value} {y : DataW H × List MemPlace} (h : DataW.trod enc Try.prog W 0 (fun _ => true) held n 24 cs = some y) (hz : Blk y.1) : ∃ D dv V, cs = [dv] ∧ DefR W D dv V ∧ DOk D ∧ (∀ d ∈ D, d.ty.length ≤ 1048576) ∧ D.length ≤ 1048576 := by
  have hl := open_struct_len (s := 1) Try.underlying24 (by kernel_rfl) h
  obtain ⟨a, rfl⟩ := List.length_eq_one_iff.1 hl
  obtain ⟨n0, y0, h0, z0⟩ := open_fieldQ 0 0 1 Try.underlying24 rfl rfl rfl (by kernel_rfl) h hz
  simp only [List.drop_zero, List.take_succ_cons, List.take_zero] at h0
  obtain ⟨os, -, h1, h2⟩ := open_rowsQ 3 dfV (DfOkQ W) Try.underlying22 (by kernel_rfl) (by decide) (fun _ => rfl) (fun n cs y hy hz => open_defQ hy hz) (v := a) h0 z0
  have hb : os.length * 48 ≤ 140737488351232 := by
    obtain ⟨b, c, rfl⟩ := h1.isSlice
    have := rows_lenQ Try.underlying22 h0 z0
    omega
  have hb2 : os.length ≤ 1048576 := by
    obtain ⟨b, c, rfl⟩ := h1.isSlice
    exact rows_lenQ Try.underlying22 h0 z0
  have hg : ∀ j (hj : j < os.length), (os.map Prod.fst).getD j df0 = os[j].1 := fun j hj => by simp [List.getD_eq_getElem?_getD, hj]
  have hr : drows (os.map Prod.fst) (fun j => (os.getD j (df0, undef)).2) = os.flatMap dfV := by
    rw [drows, List.length_map]
    have : ∀ (n : Nat), n ≤ os.length → ((List.range n).flatMap fun j => dcell ((os.map Prod.fst).getD j df0) ((os.getD j (df0, undef)).2)) = (os.take n).flatMap dfV := by
      intro n
      induction n with
      | zero => intro _; rfl
      | succ n ih =>
        intro hn
        rw [List.range_succ, List.flatMap_append, ih (by omega), List.flatMap_singleton, hg n hn, List.take_add_one, List.flatMap_append]
        simp [List.getD_eq_getElem?_getD, List.getElem?_eq_getElem (show n < os.length by omega), dfV]
    rw [this _ (Nat.le_refl _), List.take_length]
  refine ⟨os.map Prod.fst, a, fun j => (os.getD j (df0, undef)).2, rfl, ⟨?_, fun j hj => ?_⟩, ⟨by rw [List.length_map]; exact hb, ?_, ?_, ?_⟩, ?_, by rw [List.length_map]; exact hb2⟩
  · rw [hr, List.length_map]; exact h1
  · have hj' : j < os.length := by simpa using hj
    have := h2 os[j] (List.getElem_mem hj')
    rw [tyD, hg j hj']
    have e : (os.getD j (df0, undef)) = os[j] := by simp [List.getD_eq_getElem?_getD, hj']
    rw [e]
    exact this.1
  all_goals
    intro d hd
    obtain ⟨o, ho, rfl⟩ := List.mem_map.1 hd
    obtain ⟨-, g1, g2, g3⟩ := h2 o ho
    first | omega | exact g1 | exact g3
end

end Go.Proofs.Ytgcehajdldicfaa
