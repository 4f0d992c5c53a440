/-
  Walks and lemmas. Written by program out of specs of mine.
-/
import Derived.WalkKit
import Derived.WalkSpells
import Derived.WalkLawsBesides
import Derived.Deep.Quiet
import Derived.StillTail
import Derived.StringKeys
import Derived.Laws.StructEq
import Derived.Laws.Externs
import Derived.Laws.Tables
import Derived.Scope
import Derived.Test.YtgcehajdldicfaaProg
import Derived.Laws.AppendOwn
import Derived.Maps.AppendAt
import Derived.Recover
import Derived.Lib.Bytealg
import Derived.SizedLaws
import Derived.ChangeArms
import Derived.ChangeSlices
import Derived.Maps.OwnSet
import Derived.Test.YtgcehajdldicfaaRows
import Derived.ProofKit
import Derived.OpenShut
import Derived.ShutString
import Derived.ChangeOld
import Derived.Below
import Derived.Test.YtgcehajdldicfaaKe5
set_option linter.unusedSimpArgs false
set_option linter.unusedVariables false
set_option maxRecDepth 100000
set_option linter.unusedSimpArgs false
set_option linter.unusedVariables false
set_option maxRecDepth 100000
namespace Go.Proofs.Ytgcehajdldicfaa
open Go Go.Vc Go.RowKit Go.Proofs
set_option maxHeartbeats 2000000 in
theorem n8_lent (D : List Df) (dv : Value) (V : Nat → Value) (w0 : World) (hD0 : DefR w0 D dv V) (hlim : DOk D) : Ca Try.prog 11 #[.agg #[dv]] w0 (fun r w' => ∃ gv U, r = .agg #[shr gv] ∧ Lent w' w0.heap.size D gv U ∧ Ext w0 w') := by
  obtain ⟨BB, hBB⟩ : ∃ B, B = w0.heap.size := ⟨_, rfl⟩
  rw [← hBB]
  have hlen := hlim.len
  refine Ca.of Try.func11 Try.ntmps11 rfl rfl ?_
  refine W.seq ?_
  refine W.region ?_
  refine WL.c rfl (o_boxB rfl ?_)
  intro w1 hC1 hx1 hs1
  have hx := hx1
  replace hC1 : w1.heap[w0.heap.size]? = some (.cells #[dv] 24 (0, 0)) := hC1
  obtain ⟨c1, hc1⟩ : ∃ c, c = w0.heap.size := ⟨_, rfl⟩
  rw [← hc1] at hC1 ⊢
  refine WL.c rfl (o_alB TI24 ?_)
  intro w2 hC2 hx2 hs2
  replace hx := hx.tr hx2
  replace hC1 := hx2.blk hC1 (fun h => h)
  replace hC2 : w2.heap[w1.heap.size]? = some (.cells #[.slice none 0 0] 24 (0, 0)) := hC2
  obtain ⟨c2, hc2⟩ : ∃ c, c = w1.heap.size := ⟨_, rfl⟩
  rw [← hc2] at hC2 ⊢
  refine WL.nil ?_
  refine W.seq ?_
  refine W.region ?_
  refine WL.c rfl (o_alB TI24 ?_)
  intro w3 hC3 hx3 hs3
  replace hx := hx.tr hx3
  replace hC1 := hx3.blk hC1 (fun h => h)
  replace hC2 := hx3.blk hC2 (fun h => h)
  replace hC3 : w3.heap[w2.heap.size]? = some (.cells #[.slice none 0 0] 24 (0, 0)) := hC3
  obtain ⟨c3, hc3⟩ : ∃ c, c = w2.heap.size := ⟨_, rfl⟩
  rw [← hc3] at hC3 ⊢
  have hB1 : BB ≤ c1 := by omega
  have hB2 : BB ≤ c2 := by omega
  have hB3 : BB ≤ c3 := by omega
  have hc12 : ¬ c1 = c2 := by omega
  have hc13 : ¬ c1 = c3 := by omega
  have hc23 : ¬ c2 = c3 := by omega
  refine WL.nil ?_
  refine W.seq ?_
  refine W.seq ?_
  refine W.region ?_
  refine WL.c rfl (o_ash (show _ = Value.int _ _ from rfl) ?_)
  refine WL.nil ?_
  refine W.block ?_
  refine W.loop (fun e w => ∃ (k : Nat) (gv : Value) (U : Nat → Value), k ≤ D.length ∧ e 1 = .pointer (some ⟨c1, 0, none⟩) ∧ e 2 = .pointer (some ⟨c2, 0, none⟩) ∧ e 3 = .pointer (some ⟨c3, 0, none⟩) ∧ e 4 = .int .i64 (k : Int) ∧ w.heap[c1]? = some (.cells #[dv] 24 (0, 0)) ∧ w.heap[c2]? = some (.cells #[.slice none 0 0] 24 (0, 0)) ∧ w.heap[c3]? = some (.cells #[gv] 24 (0, 0)) ∧ w.ownsRow BB 39 3 gv k (drowsK D (fun j => shr (U j)) k) ∧ Many w BB 26 7 k U (lenM D) (rowM D) ∧ Ext w0 w) (fun e w => D.length - (intOf (e 4)).toNat) ?_ ?_
  · exact ⟨0, .slice none 0 0, fun _ => undef, Nat.zero_le _, rfl, rfl, rfl, rfl, hC1, hC2, hC3, World.ownsRow_nil _ _ _ _, Many.zero, hx⟩
  rintro e w ⟨k, gv, U, hk, h1, h2, h3, h4, hC1, hC2, hC3, hrow, htys, hx⟩
  have hm4 := h4
  have hxs := hx.size
  refine W.seq ?_
  refine W.seq ?_
  refine W.region ?_
  refine WL.c rfl (o_mvh h4 ?_)
  refine WL.c rfl (o_fa 0 TI24 rfl TI22 rfl h1 ?_)
  refine WL.c rfl (o_ld TI22 rfl rfl (cell_of hC1 rfl) ?_)
  refine WL.c rfl (o_lenR TI22 rfl (hD0.ext hx).row ?_)
  refine WL.c rfl (o_lt rfl rfl ?_)
  refine WL.nil ?_
  refine W.cond rfl (fun c10 => ?_) (fun c10 => ?_)
  · try simp only [cs8] at c10
    have hk1 : k < D.length := by omega
    obtain ⟨tb, to_, tc, rfl, htc, hty⟩ := (hD0.ext hx).atk hk1
    have htl := hlim.ty _ (List.getElem_mem hk1)
    refine W.skip ?_
    refine W.seq ?_
    refine W.block ?_
    refine W.seq ?_
    refine W.region ?_
    refine WL.c rfl (o_ash (by first | exact (show _ = Value.slice _ _ _ from rfl) | exact rfl) ?_)
    refine WL.nil ?_
    refine W.seq ?_
    refine W.region ?_
    refine WL.c rfl (o_mvh (by first | exact (show _ = Value.slice _ _ _ from rfl) | exact rfl) ?_)
    refine WL.c rfl (o_fa 0 TI24 rfl TI22 rfl h1 ?_)
    refine WL.c rfl (o_ld TI22 rfl rfl (cell_of hC1 rfl) ?_)
    refine WL.c rfl (o_mvh h4 ?_)
    refine WL.c rfl (o_ixB TI22 TI39 rfl rfl (by omega) ?_)
    refine WL.c rfl (o_fa 2 TI39 rfl TI37 rfl rfl ?_)
    refine WL.c rfl (o_ld TI37 rfl rfl (htc 2 _ rfl) ?_)
    refine WL.c rfl (o_apO (w.heap.size) TI37 TI26 rfl rfl (World.ownsRow_nil _ _ _ _) hty rfl (by decide) (one_exs _) (by rw [maxLen_eq]; omega) (by omega) (Nat.le_refl _) ?_)
    intro v20 w20 hown20 ho20 hb20 hk20
    rw [Nat.zero_add, List.nil_append] at hown20
    have hx20 : Ext w w20 := ho20.mono (fun j _ h => by cases h)
    clear ho20 hb20 hk20
    replace hC1 := hx20.blk hC1 (fun h => h)
    replace hC2 := hx20.blk hC2 (fun h => h)
    replace hC3 := hx20.blk hC3 (fun h => h)
    have hrow20 := own_ext hrow hx20
    have htys20 := htys.ext hx20
    replace hx := hx.tr hx20
    have hs20 := hx20.size
    refine WL.c rfl (o_ash (by first | exact (show _ = Value.slice _ _ _ from rfl) | exact rfl) ?_)
    refine WL.nil ?_
    refine W.seq ?_
    refine W.region ?_
    refine WL.c rfl (o_mvh (by first | exact (show _ = Value.slice _ _ _ from rfl) | exact rfl) ?_)
    refine WL.c rfl (o_bldC (cs := [(.int .i64 (-77)), (.int .i64 0), (.string ⟨#[]⟩), (.string ⟨#[]⟩), (.int .i64 0), (.int .i64 0), (.int .i64 0)]) TI26 (Sizes.cons TI3 (Sizes.cons TI3 (Sizes.cons TI9 (Sizes.cons TI9 (Sizes.cons TI3 (Sizes.cons TI3 (Sizes.cons TI3 Sizes.nil))))))) rfl (lcp (show _ = Value.int _ _ from rfl) lnp) rfl rfl ?_)
    refine WL.apO (w.heap.size) rfl rfl TI37 TI26 (show _ = Value.agg (exV exK).toArray from rfl) (show _ = v20 from rfl) hown20 (by decide) (by decide) rfl (fun a ha => List.all_eq_true.1 (show List.all _ (fun a => a.oneCell') = true from rfl) a ha) rfl (by rw [maxLen_eq]; omega) (by omega) hs20 ?_
    intro v24 w24 hown24 ho24 hb24 _
    replace hown24 : w24.ownsRow w.heap.size 26 7 v24 (D[k].ty.length + 1) (exs D[k].ty ++ exV exK) := hown24
    replace ho24 : Only (fun k => v20.ownBlock = some k) w20 w24 := ho24
    have hlt20 : ∀ b, v20.ownBlock = some b → w.heap.size ≤ b := fun b hb => (hown20.lt b hb).1
    have hc1l := (Array.getElem?_eq_some_iff.1 hC1).1
    replace hC1 := ho24.blk hC1 (fun he => own_off hown20 hC1 (by decide) he)
    replace hC2 := ho24.blk hC2 (fun he => own_off hown20 hC2 (by decide) he)
    replace hC3 := ho24.blk hC3 (fun he => own_off hown20 hC3 (by decide) he)
    replace hrow := own_only hrow20 ho24 (fun b hb hF => by have := hlt20 b hF; have := (hrow.lt b hb).2; omega)
    have htl2 : ∀ j, j < k → ∀ b, (U j).ownBlock = some b → b < w.heap.size := fun j hj b hb => (htys.lt hj hb).2
    replace htys := htys20.only ho24 (fun j hj b hb hF => by have := hlt20 b hF; have := htl2 j hj b hb; omega)
    replace hx := hx.trans' ho24 (fun _ h => h) (fun b hb he => by have := hlt20 b he; omega)
    have hs24 := hx.size
    have hs25 := ho24.size
    obtain ⟨g, cap, rfl, hgb⟩ := own_some hown24 (by omega)
    refine WL.c rfl (o_ash (by first | exact (show _ = Value.slice _ _ _ from rfl) | exact rfl) ?_)
    refine WL.nil ?_
    obtain ⟨wd, hwd⟩ : ∃ wd, wd = w24.drew := ⟨_, rfl⟩
    have hxd : Ext w24 wd := hwd ▸ Only.drew w24
    replace hx := hx.tr hxd
    replace hown24 := own_ext hown24 hxd
    replace hC1 := hxd.blk hC1 (fun h => h)
    replace hC2 := hxd.blk hC2 (fun h => h)
    replace hC3 := hxd.blk hC3 (fun h => h)
    replace hrow := own_ext hrow hxd
    replace htys := htys.ext hxd
    obtain ⟨_, _, _, hvd, htcd, -⟩ := (hD0.ext hx).atk hk1
    cases hvd
    refine W.drawT 21 (Ext) [(1, fun v _ => v = _), (2, fun v _ => v = _), (3, fun v _ => v = _), (4, fun v _ => v = _), (5, fun v _ => v = _)] rfl (by kernel_rfl) (Only.refl No) (fun _ _ _ h k => h.trans k) ⟨Mono.eq, Mono.eq, Mono.eq, Mono.eq, Mono.eq, trivial⟩ ⟨h1, h2, h3, h4, rfl, trivial⟩ ?_
    refine WD.p rfl (fun e w hR hh => by obtain ⟨h3, -⟩ := hh; exact SG.n (o_fa 0 TI24 rfl TI22 rfl h3 ⟨rfl, Only.refl No _⟩)) ?_
    refine WD.p rfl (fun e w hR hh => by obtain ⟨h25, -⟩ := hh; rw [← hwd] at hR; exact SG.n (o_ld TI22 rfl h25 (cell_of (hR.blk hC3 (fun h => h)) rfl) ⟨rfl, Only.refl No _⟩)) ?_
    refine WD.p rfl (fun e w hR hh => by obtain ⟨h1, -⟩ := hh; exact SG.n (o_fa 0 TI24 rfl TI22 rfl h1 ⟨rfl, Only.refl No _⟩)) ?_
    refine WD.p rfl (fun e w hR hh => by obtain ⟨h27, -⟩ := hh; rw [← hwd] at hR; exact SG.n (o_ld TI22 rfl h27 (cell_of (hR.blk hC1 (fun h => h)) rfl) ⟨rfl, Only.refl No _⟩)) ?_
    refine WD.p rfl (fun e w hR hh => by obtain ⟨h4, -⟩ := hh; exact SG.n (o_mvh h4 ⟨rfl, Only.refl No _⟩)) ?_
    refine WD.p rfl (fun e w hR hh => by obtain ⟨h29, h28, -⟩ := hh; exact SG.n (o_ixB TI22 TI39 h28 h29 (by omega) ⟨rfl, Only.refl No _⟩)) ?_
    refine WD.p rfl (fun e w hR hh => by obtain ⟨h30, -⟩ := hh; exact SG.n (o_fa 0 TI39 rfl TI9 rfl h30 ⟨rfl, Only.refl No _⟩)) ?_
    refine WD.p rfl (fun e w hR hh => by obtain ⟨h31, -⟩ := hh; rw [← hwd] at hR; exact SG.n (o_ld TI9 rfl h31 (Cells.only htcd hR (fun h => h) 0 _ rfl) ⟨rfl, Only.refl No _⟩)) ?_
    refine WD.p rfl (fun e w hR hh => by obtain ⟨h1, -⟩ := hh; exact SG.n (o_fa 0 TI24 rfl TI22 rfl h1 ⟨rfl, Only.refl No _⟩)) ?_
    refine WD.p rfl (fun e w hR hh => by obtain ⟨h33, -⟩ := hh; rw [← hwd] at hR; exact SG.n (o_ld TI22 rfl h33 (cell_of (hR.blk hC1 (fun h => h)) rfl) ⟨rfl, Only.refl No _⟩)) ?_
    refine WD.p rfl (fun e w hR hh => by obtain ⟨h4, -⟩ := hh; exact SG.n (o_mvh h4 ⟨rfl, Only.refl No _⟩)) ?_
    refine WD.p rfl (fun e w hR hh => by obtain ⟨h35, h34, -⟩ := hh; exact SG.n (o_ixB TI22 TI39 h34 h35 (by omega) ⟨rfl, Only.refl No _⟩)) ?_
    refine WD.p rfl (fun e w hR hh => by obtain ⟨h36, -⟩ := hh; exact SG.n (o_fa 1 TI39 rfl TI3 rfl h36 ⟨rfl, Only.refl No _⟩)) ?_
    refine WD.p rfl (fun e w hR hh => by obtain ⟨h37, -⟩ := hh; rw [← hwd] at hR; exact SG.n (o_ld TI3 rfl h37 (Cells.only htcd hR (fun h => h) 1 _ rfl) ⟨rfl, Only.refl No _⟩)) ?_
    refine WD.p rfl (fun e w hR hh => by obtain ⟨h5, -⟩ := hh; exact SG.n (o_mvh h5 ⟨rfl, Only.refl No _⟩)) ?_
    refine WD.p rfl (fun e w hR hh => by obtain ⟨h5, -⟩ := hh; exact SG.n (o_mvh h5 ⟨rfl, Only.refl No _⟩)) ?_
    refine WD.p rfl (fun e w hR hh => by obtain ⟨h40, -⟩ := hh; exact SG.n (o_len TI37 h40 ⟨rfl, Only.refl No _⟩)) ?_
    refine WD.p rfl (fun e w hR hh => by obtain ⟨h41, -⟩ := hh; exact SG.n (o_subi h41 rfl (by omega) ⟨rfl, Only.refl No _⟩)) ?_
    refine WD.p rfl (fun e w hR hh => by obtain ⟨h42, h39, -⟩ := hh; exact SG.n (o_slv (h := D[k].ty.length) TI37 TI26 h39 Lo.n (Hi.s (h42.trans (by congr 1; omega))) (Nat.zero_le _) (by obtain ⟨_, _, hv, hh⟩ := own_form hown24; cases hv; omega) ⟨sliced0 _ _ _ _, Only.refl No _⟩)) ?_
    refine WD.p rfl (fun e w hR hh => by obtain ⟨h43, h38, h32, -⟩ := hh; exact SG.n (o_bldC (cs := [_, _, _]) TI39 (Sizes.cons TI9 (Sizes.cons TI3 (Sizes.cons TI37 Sizes.nil))) rfl (lcp h32 (lcp h38 (lcp h43 lnp))) rfl rfl ⟨rfl, Only.refl No _⟩)) ?_
    refine WD.q (fun u w => w.ownsRow wd.heap.size 39 3 u 1 (dcell D[k] (.slice (some ⟨g, 0, none⟩) D[k].ty.length cap))) (fun u w w2 hR hh => own_ext hh hR) rfl (fun e w hR hh => by obtain ⟨h44, -⟩ := hh; rw [← hwd] at hR; exact SG.n (o_bs1 TI22 TI39 h44 (by decide) (by decide) rfl ⟨own_mono (own_new1 rfl) hR.size, Only.alloc w _⟩)) ?_
    rintro e w hR ⟨h45, h44, h43, h42, h41, h40, h39, h38, h37, h36, h35, h34, h33, h32, h31, h30, h29, h28, h27, h26, h25, h1, h2, h3, h4, h5, -⟩
    rw [← hwd] at hR
    replace hx := hx.tr hR
    replace hown24 := own_ext hown24 hR
    replace hC1 := hR.blk hC1 (fun h => h)
    replace hC2 := hR.blk hC2 (fun h => h)
    replace hC3 := hR.blk hC3 (fun h => h)
    replace hrow := own_ext hrow hR
    replace htys := htys.ext hR
    refine WL.c rfl (o_apO (BB) TI22 TI39 h26 rfl hrow (Sl.own h45) rfl (by decide) (by simp [dcell, Value.oneCell', st]) (by rw [maxLen_eq]; omega) (by omega) (by rw [hBB]; exact hx.size) ?_)
    intro v46 w46 hrow46 ho46 hb46 _
    have hrl : ∀ b, gv.ownBlock = some b → BB ≤ b := fun b hb => (hrow.lt b hb).1
    replace hC1 := ho46.blk hC1 (fun he => own_off hrow hC1 (by decide) he)
    replace hC2 := ho46.blk hC2 (fun he => own_off hrow hC2 (by decide) he)
    replace hC3 := ho46.blk hC3 (fun he => own_off hrow hC3 (by decide) he)
    have htys2 := htys.other hrow (by decide) ho46
    replace hown24 := own_only hown24 ho46 (fun b hb hF => own_row_off hrow hown24 (by decide) b hb hF)
    replace hx := hx.trans' ho46 (fun _ h => h) (fun b hb he => by have := hrl b he; omega)
    have htys3 := lent_snoc (D := D) htys2 (by rw [lenM, rowM, tyD_at hk1]; exact hown24) (by omega) htl2
    refine WL.c rfl (o_fa 0 TI24 rfl TI22 rfl h3 ?_)
    refine WL.u (o_stB TI22 rfl (show _ = v46 from rfl) (own_one hrow46) hC3 (show 0 < 1 by decide) ?_)
    intro w47 hC3' ho47 hs47
    replace hrow46 := own_only hrow46 ho47 (fun b hb he => by subst he; exact own_off hrow46 hC3 (by decide) hb)
    have hC3q := hC3
    replace hC3 : w47.heap[c3]? = some (.cells #[v46] 24 (0, 0)) := hC3'
    replace hC1 := ho47.blk hC1 hc13
    replace hC2 := ho47.blk hC2 hc23
    replace htys3 := htys3.only ho47 (fun j hj b hb he => by subst he; exact own_off (htys3.row j hj) hC3q (by decide) hb)
    replace hx := hx.trans' ho47 (fun _ h => h) (fun b hb he => by omega)
    refine WL.nil ?_
    refine W.region ?_
    refine WL.c rfl (o_mvh h4 ?_)
    refine WL.c rfl (o_addi rfl rfl (by omega) ?_)
    refine WL.c rfl (o_ash (show _ = Value.int _ _ from rfl) ?_)
    refine WL.nil ?_
    refine ⟨⟨k + 1, v46, fun j => if j = k then (.slice (some ⟨g, 0, none⟩) (D[k].ty.length + 1) cap) else U j, by omega, h1, h2, h3, rfl, hC1, hC2, hC3, ?_, htys3, hx⟩, ?_⟩
    · rw [show (fun j => shr (if j = k then (.slice (some ⟨g, 0, none⟩) (D[k].ty.length + 1) cap) else U j)) = (fun j => if j = k then shr (.slice (some ⟨g, 0, none⟩) (D[k].ty.length + 1) cap) else (fun j => shr (U j)) j) from by funext j; split <;> rfl, drowsK_succ, getD_at hk1]
      exact hrow46
    · show D.length - ((k : Int) + 1).toNat < _
      rw [hm4]; simp [intOf]; omega
  · try simp only [cs8] at c10
    have hk1 : k = D.length := by omega
    subst hk1
    refine W.exit ?_
    refine W.seq ?_
    refine W.region ?_
    refine WL.c rfl (o_fa 0 TI24 rfl TI22 rfl h3 ?_)
    refine WL.c rfl (o_ld TI22 rfl rfl (cell_of hC3 rfl) ?_)
    refine WL.c rfl (o_bldC (cs := [(st [109, 97, 114, 107]), (.int .i64 (-78)), (.slice none 0 0)]) TI39 (Sizes.cons TI9 (Sizes.cons TI3 (Sizes.cons TI37 Sizes.nil))) rfl (lcp (show _ = Value.string _ from rfl) (lcp (show _ = Value.int _ _ from rfl) lnp)) rfl rfl ?_)
    refine WL.apO (BB) rfl rfl TI22 TI39 (show _ = Value.agg #[st [109, 97, 114, 107], .int .i64 (-78), .slice none 0 0] from rfl) rfl hrow (by decide) (by decide) rfl (fun a ha => List.all_eq_true.1 (show List.all _ (fun a => a.oneCell') = true from rfl) a ha) rfl (by rw [maxLen_eq]; omega) (by omega) (by rw [hBB]; exact hx.size) ?_
    intro v52 w52 hrow52 ho52 hb52 _
    replace hrow52 : w52.ownsRow BB 39 3 v52 (D.length + 1) (drows D (fun j => shr (U j)) ++ markD) := hrow52
    replace ho52 : Only (fun k => gv.ownBlock = some k) w w52 := ho52
    have hrl : ∀ b, gv.ownBlock = some b → BB ≤ b := fun b hb => (hrow.lt b hb).1
    replace hC1 := ho52.blk hC1 (fun he => own_off hrow hC1 (by decide) he)
    replace hC2 := ho52.blk hC2 (fun he => own_off hrow hC2 (by decide) he)
    replace hC3 := ho52.blk hC3 (fun he => own_off hrow hC3 (by decide) he)
    replace htys := htys.other hrow (by decide) ho52
    replace hx := hx.trans' ho52 (fun _ h => h) (fun b hb he => by have := hrl b he; omega)
    refine WL.c rfl (o_fa 0 TI24 rfl TI22 rfl h3 ?_)
    refine WL.u (o_stB TI22 rfl (show _ = v52 from rfl) (own_one hrow52) hC3 (show 0 < 1 by decide) ?_)
    intro w53 hC3' ho53 hs53
    replace hrow52 := own_only hrow52 ho53 (fun b hb he => by subst he; exact own_off hrow52 hC3 (by decide) hb)
    replace htys := htys.only ho53 (fun j hj b hb he => by subst he; exact own_off (htys.row j hj) hC3 (by decide) hb)
    replace hC3 : w53.heap[c3]? = some (.cells #[v52] 24 (0, 0)) := hC3'
    replace hC1 := ho53.blk hC1 hc13
    replace hC2 := ho53.blk hC2 hc23
    replace hx := hx.trans' ho53 (fun _ h => h) (fun b hb he => by omega)
    obtain ⟨g, cap, rfl, hgb⟩ := own_some hrow52 (by omega)
    refine WL.nil ?_
    refine W.seq ?_
    refine W.region ?_
    refine WL.c rfl (o_fa 0 TI24 rfl TI22 rfl h3 ?_)
    refine WL.c rfl (o_ld TI22 rfl rfl (cell_of hC3 rfl) ?_)
    refine WL.c rfl (o_fa 0 TI24 rfl TI22 rfl h1 ?_)
    refine WL.c rfl (o_ld TI22 rfl rfl (cell_of hC1 rfl) ?_)
    refine WL.c rfl (o_lenR TI22 rfl (hD0.ext hx).row ?_)
    refine WL.c rfl (o_slv (h := D.length) TI22 TI39 rfl Lo.n (Hi.s rfl) (Nat.zero_le _) (by obtain ⟨_, _, hv, hh⟩ := own_form hrow52; cases hv; omega) ?_)
    rw [sliced0]
    refine WL.c rfl (o_fa 0 TI24 rfl TI22 rfl h3 ?_)
    refine WL.u (o_stB TI22 rfl (show _ = Value.slice (some ⟨g, 0, none⟩) D.length cap from rfl) rfl hC3 (show 0 < 1 by decide) ?_)
    intro w60 hC3' ho60 hs60
    replace hrow52 := own_only hrow52 ho60 (fun b hb he => by subst he; exact own_off hrow52 hC3 (by decide) hb)
    replace htys := htys.only ho60 (fun j hj b hb he => by subst he; exact own_off (htys.row j hj) hC3 (by decide) hb)
    replace hC3 : w60.heap[c3]? = some (.cells #[.slice (some ⟨g, 0, none⟩) D.length cap] 24 (0, 0)) := hC3'
    replace hC1 := ho60.blk hC1 hc13
    replace hC2 := ho60.blk hC2 hc23
    replace hx := hx.trans' ho60 (fun _ h => h) (fun b hb he => by omega)
    refine WL.nil ?_
    refine W.seq ?_
    refine W.region ?_
    refine WL.c rfl (o_ldA TI24 rfl h3 (show Cells _ c3 0 [.slice (some ⟨g, 0, none⟩) D.length cap] from Cells.of hC3 0 _ (by simp)) rfl ?_)
    refine WL.u (o_stA TI24 h2 (show _ = Value.agg #[.slice (some ⟨g, 0, none⟩) D.length cap] from rfl) rfl rfl hC2 rfl ?_)
    intro w62 hC2' ho62 hs62
    replace hrow52 := own_only hrow52 ho62 (fun b hb he => by subst he; exact own_off hrow52 hC2 (by decide) hb)
    replace htys := htys.only ho62 (fun j hj b hb he => by subst he; exact own_off (htys.row j hj) hC2 (by decide) hb)
    replace hC2 : w62.heap[c2]? = some (.cells #[.slice (some ⟨g, 0, none⟩) D.length cap] 24 (0, 0)) := hC2'
    replace hx := hx.trans' ho62 (fun _ h => h) (fun b hb he => by omega)
    refine WL.nil ?_
    refine W.ret ?_
    refine retC rfl TI24 rfl h2 ((show Cells _ c2 0 [.slice (some ⟨g, 0, none⟩) D.length cap] from Cells.of hC2 0 _ (by simp))) rfl ?_
    exact ⟨_, U, rfl, ⟨hrow52, htys⟩, hx⟩
set_option maxHeartbeats 2000000 in
theorem n8_kept (D : List Df) (H : Nat) (gv dv : Value) (U V : Nat → Value) (w0 : World) (hL0 : Lent w0 H D gv U) (hD0 : DefR w0 D dv V) (hlim : DOk D) : Ca Try.prog 23 #[.agg #[shr gv], .agg #[dv]] w0 (fun r w' => r = .bool true ∧ Ext w0 w') := by
  have hlen := hlim.len
  obtain ⟨gg, capg, rfl, hgb⟩ := own_some hL0.row (by omega)
  have hcg : D.length + 1 ≤ capg := by obtain ⟨_, _, hv, hh⟩ := own_form hL0.row; cases hv; exact hh
  refine Ca.of Try.func23 Try.ntmps23 rfl rfl ?_
  refine W.seq ?_
  refine W.region ?_
  refine WL.c rfl (o_boxB rfl ?_)
  intro w1 hC2 hx1 hs1
  have hx := hx1
  replace hC2 : w1.heap[w0.heap.size]? = some (.cells #[.slice (some ⟨gg, 0, none⟩) D.length capg] 24 (0, 0)) := hC2
  obtain ⟨c2, hc2⟩ : ∃ c, c = w0.heap.size := ⟨_, rfl⟩
  rw [← hc2] at hC2 ⊢
  refine WL.c rfl (o_boxB rfl ?_)
  intro w2 hC3 hx2 hs2
  replace hx := hx.tr hx2
  replace hC2 := hx2.blk hC2 (fun h => h)
  replace hC3 : w2.heap[w1.heap.size]? = some (.cells #[dv] 24 (0, 0)) := hC3
  obtain ⟨c3, hc3⟩ : ∃ c, c = w1.heap.size := ⟨_, rfl⟩
  rw [← hc3] at hC3 ⊢
  refine WL.c rfl (o_ash (show _ = Value.bool _ from rfl) ?_)
  refine WL.nil ?_
  refine W.seq ?_
  refine W.seq ?_
  refine W.region ?_
  refine WL.c rfl (o_ldA TI24 rfl rfl (show Cells _ c2 0 [.slice (some ⟨gg, 0, none⟩) D.length capg] from Cells.of hC2 0 _ (by simp)) rfl ?_)
  refine WL.c rfl (o_ldA TI24 rfl rfl (show Cells _ c3 0 [dv] from Cells.of hC3 0 _ (by simp)) rfl ?_)
  refine WL.c rfl (o_call Try.call34 (lc rfl (lc rfl (lc rfl ln))) ((same_spec D D (.slice (some ⟨gg, 0, none⟩) D.length capg) dv (fun j => shr (U j)) V _ (hL0.ext hx).defs.rd (hD0.ext hx) (by omega) (fun d hd => by have := hlim.ty d hd; omega)).mono ?_))
  rintro v10 w10 ⟨rfl, hx10⟩
  replace hx := hx.tr hx10
  replace hC2 := hx10.blk hC2 (fun h => h)
  replace hC3 := hx10.blk hC3 (fun h => h)
  refine WL.c rfl (o_not' rfl ?_)
  refine WL.nil ?_
  refine W.condF' rfl (by simp) ?_
  refine W.skip ?_
  refine W.seq ?_
  refine W.seq ?_
  refine W.region ?_
  refine WL.c rfl (o_ash (show _ = Value.int _ _ from rfl) ?_)
  refine WL.nil ?_
  refine W.block ?_
  refine W.loop (fun e w => ∃ k : Nat, k ≤ D.length ∧ e 2 = .pointer (some ⟨c2, 0, none⟩) ∧ e 3 = .pointer (some ⟨c3, 0, none⟩) ∧ e 5 = .int .i64 (k : Int) ∧ w.heap[c2]? = some (.cells #[.slice (some ⟨gg, 0, none⟩) D.length capg] 24 (0, 0)) ∧ w.heap[c3]? = some (.cells #[dv] 24 (0, 0)) ∧ Ext w0 w) (fun e w => D.length - (intOf (e 5)).toNat) ?_ ?_
  · exact ⟨0, Nat.zero_le _, rfl, rfl, rfl, hC2, hC3, hx⟩
  rintro e w ⟨k, hk, h2, h3, h5, hC2, hC3, hx⟩
  have hm5 := h5
  refine W.seq ?_
  refine W.seq ?_
  refine W.region ?_
  refine WL.c rfl (o_mvh h5 ?_)
  refine WL.c rfl (o_fa 0 TI24 rfl TI22 rfl h3 ?_)
  refine WL.c rfl (o_ld TI22 rfl rfl (cell_of hC3 rfl) ?_)
  refine WL.c rfl (o_lenR TI22 rfl (hD0.ext hx).row ?_)
  refine WL.c rfl (o_lt rfl rfl ?_)
  refine WL.nil ?_
  refine W.cond rfl (fun c16 => ?_) (fun c16 => ?_)
  · try simp only [cs8] at c16
    have hk1 : k < D.length := by omega
    obtain ⟨tb, to_, tc, rfl, htc, hty⟩ := (hD0.ext hx).atk hk1
    obtain ⟨_, _, _, hv1, htc1, -⟩ := (hL0.ext hx).defs.rd.atk hk1
    cases hv1
    have hrw := (hL0.ext hx).tys.row k hk1
    obtain ⟨g2, cap2, hU, hgb2⟩ := own_some hrw (by show 0 < (tyD D k).length + 1; omega)
    rw [hU] at htc1 hrw
    have hcp2 : (tyD D k).length + 1 ≤ cap2 := by obtain ⟨_, _, hv, hh⟩ := own_form hrw; cases hv; exact hh
    rw [lenM, rowM, tyD_at hk1] at hrw
    rw [lenM, tyD_at hk1] at htc1
    rw [tyD_at hk1] at hcp2
    have htl := hlim.ty _ (List.getElem_mem hk1)
    replace htc1 : Cells w gg (0 + k * 3) (dcell D[k] (.slice (some ⟨g2, 0, none⟩) D[k].ty.length cap2)) := htc1
    refine W.skip ?_
    refine W.seq ?_
    refine W.block ?_
    refine W.seq ?_
    refine W.quiet rfl (by kernel_rfl) ?_
    refine WQ.c rfl ((QO.o rfl fun _ => o_fa 0 TI24 rfl TI22 rfl h2 ⟨rfl, rfl⟩)) ?_
    refine WQ.c rfl ((QO.o rfl fun _ => o_ld TI22 rfl rfl (cell_of hC2 rfl) ⟨rfl, rfl⟩)) ?_
    refine WQ.c rfl ((QO.o rfl fun _ => o_mvh h5 ⟨rfl, rfl⟩)) ?_
    refine WQ.c rfl ((QO.o rfl fun _ => o_ixB TI22 TI39 rfl rfl (by omega) ⟨rfl, rfl⟩)) ?_
    refine WQ.c rfl ((QO.o rfl fun _ => o_fa 2 TI39 rfl TI37 rfl rfl ⟨rfl, rfl⟩)) ?_
    refine WQ.c rfl ((QO.o rfl fun _ => o_ld TI37 rfl rfl (htc1 2 _ rfl) ⟨rfl, rfl⟩)) ?_
    refine WQ.c rfl ((QO.o rfl fun _ => o_fa 0 TI24 rfl TI22 rfl h3 ⟨rfl, rfl⟩)) ?_
    refine WQ.c rfl ((QO.o rfl fun _ => o_ld TI22 rfl rfl (cell_of hC3 rfl) ⟨rfl, rfl⟩)) ?_
    refine WQ.c rfl ((QO.o rfl fun _ => o_mvh h5 ⟨rfl, rfl⟩)) ?_
    refine WQ.c rfl ((QO.o rfl fun _ => o_ixB TI22 TI39 rfl rfl (by omega) ⟨rfl, rfl⟩)) ?_
    refine WQ.c rfl ((QO.o rfl fun _ => o_fa 2 TI39 rfl TI37 rfl rfl ⟨rfl, rfl⟩)) ?_
    refine WQ.c rfl ((QO.o rfl fun _ => o_ld TI37 rfl rfl (htc 2 _ rfl) ⟨rfl, rfl⟩)) ?_
    refine WQ.c rfl ((QO.r fun _ => r_lenR TI37 rfl hty)) ?_
    refine WQ.c rfl ((QO.o rfl fun _ => o_addi rfl rfl (by omega) ⟨rfl, rfl⟩)) ?_
    refine WQ.c rfl ((QO.o rfl fun _ => o_slv (h := D[k].ty.length + 1) TI37 TI26 rfl Lo.n (Hi.s rfl) (Nat.zero_le _) (by omega) ⟨rfl, (sliced0 _ _ _ _).symm⟩)) ?_
    refine WQ.c rfl ((QO.o rfl fun _ => o_ash (by first | exact (show _ = Value.slice _ _ _ from rfl) | exact rfl) ⟨rfl, rfl⟩)) ?_
    refine WQ.nil ?_
    intro nq
    have hxq := Only.drewN w nq
    replace hx := hx.tr hxq
    replace hC2 := hxq.blk hC2 (fun h => h)
    replace hC3 := hxq.blk hC3 (fun h => h)
    replace hty := hty.ext hxq
    replace htc := Cells.only htc hxq (fun h => h)
    replace hrw := own_ext hrw hxq
    clear hxq
    generalize w.drewN nq = wq at *
    refine W.seq ?_
    refine W.region ?_
    refine WL.c rfl (o_mvh (by first | exact (show _ = Value.slice _ _ _ from rfl) | exact rfl) ?_)
    refine WL.c rfl (o_fa 0 TI24 rfl TI22 rfl h3 ?_)
    refine WL.c rfl (o_ld TI22 rfl rfl (cell_of hC3 rfl) ?_)
    refine WL.c rfl (o_mvh h5 ?_)
    refine WL.c rfl (o_ixB TI22 TI39 rfl rfl (by omega) ?_)
    refine WL.c rfl (o_fa 2 TI39 rfl TI37 rfl rfl ?_)
    refine WL.c rfl (o_ld TI37 rfl rfl (htc 2 _ rfl) ?_)
    refine WL.c rfl (o_lenR TI37 rfl hty ?_)
    refine WL.c rfl (o_ixB (i := D[k].ty.length) TI37 TI26 (show _ = Value.slice (some ⟨g2, 0, none⟩) (D[k].ty.length + 1) cap2 from rfl) rfl (by omega) ?_)
    refine WL.c rfl (o_fa 0 TI26 rfl TI3 rfl rfl ?_)
    refine WL.c rfl (o_ld TI3 rfl rfl (own_cell (j := 0 + D[k].ty.length * 7 + 0) hrw (by rw [Nat.zero_add]; exact rowM_get _ rfl)) ?_)
    refine WL.c rfl (o_ne rfl rfl ?_)
    refine WL.nil ?_
    refine W.condF' rfl (by decide) ?_
    refine W.skip ?_
    refine W.region ?_
    refine WL.c rfl (o_mvh h5 ?_)
    refine WL.c rfl (o_addi rfl rfl (by omega) ?_)
    refine WL.c rfl (o_ash (show _ = Value.int _ _ from rfl) ?_)
    refine WL.nil ?_
    refine ⟨⟨k + 1, by omega, h2, h3, rfl, hC2, hC3, hx⟩, ?_⟩
    show D.length - ((k : Int) + 1).toNat < _
    rw [hm5]; simp [intOf]; omega
  · try simp only [cs8] at c16
    have hk1 : k = D.length := by omega
    subst hk1
    refine W.exit ?_
    refine W.seq ?_
    refine W.region ?_
    refine WL.c rfl (o_fa 0 TI24 rfl TI22 rfl h2 ?_)
    refine WL.c rfl (o_ld TI22 rfl rfl (cell_of hC2 rfl) ?_)
    refine WL.c rfl (o_fa 0 TI24 rfl TI22 rfl h3 ?_)
    refine WL.c rfl (o_ld TI22 rfl rfl (cell_of hC3 rfl) ?_)
    refine WL.c rfl (o_lenR TI22 rfl (hD0.ext hx).row ?_)
    refine WL.c rfl (o_addi rfl rfl (by omega) ?_)
    refine WL.c rfl (o_slv (h := D.length + 1) TI22 TI39 rfl Lo.n (Hi.s rfl) (Nat.zero_le _) (by omega) ?_)
    rw [sliced0]
    refine WL.c rfl (o_ash (by first | exact (show _ = Value.slice _ _ _ from rfl) | exact rfl) ?_)
    refine WL.nil ?_
    refine W.seq ?_
    refine W.region ?_
    refine WL.c rfl (o_mvh (by first | exact (show _ = Value.slice _ _ _ from rfl) | exact rfl) ?_)
    refine WL.c rfl (o_fa 0 TI24 rfl TI22 rfl h3 ?_)
    refine WL.c rfl (o_ld TI22 rfl rfl (cell_of hC3 rfl) ?_)
    refine WL.c rfl (o_lenR TI22 rfl (hD0.ext hx).row ?_)
    refine WL.c rfl (o_ixB (i := D.length) TI22 TI39 (show _ = Value.slice (some ⟨gg, 0, none⟩) (D.length + 1) capg from rfl) rfl (by omega) ?_)
    refine WL.c rfl (o_fa 1 TI39 rfl TI3 rfl rfl ?_)
    refine WL.c rfl (o_ld TI3 rfl rfl (own_cell (j := 0 + D.length * 3 + 1) (hL0.ext hx).row (by rw [Nat.zero_add]; exact drowsM_get _ rfl)) ?_)
    refine WL.c rfl (o_eq rfl rfl ?_)
    refine WL.c rfl (o_ash (show _ = Value.bool _ from rfl) ?_)
    refine WL.nil ?_
    refine W.ret ?_
    refine ret1v rfl (show _ = Value.bool _ from rfl) ?_
    exact ⟨rfl, hx⟩
end Go.Proofs.Ytgcehajdldicfaa

set_option linter.unusedSimpArgs false
set_option linter.unusedVariables false
set_option maxRecDepth 100000
namespace Go.Proofs.Ytgcehajdldicfaa
open Go Go.Vc Go.RowKit Go.Proofs
set_option maxHeartbeats 1000000 in
theorem rfind_spec (D : List Df) (dv : Value) (V : Nat → Value) (nm : List UInt8) (w0 : World) (hD : DefR w0 D dv V) (hlen : D.length * 48 ≤ 140737488351232) : Ca Try.prog 22 #[.agg #[dv], st nm] w0 (fun v w' => v = .tuple #[.int .i64 (((whereN D nm).getD 0 : Nat) : Int), .int .i64 (if (whereN D nm).isSome then 0 else 81)] ∧ Ext w0 w') := by
  refine Ca.of Try.func22 Try.ntmps22 rfl rfl ?_
  refine W.seq ?_
  refine W.region ?_
  refine WL.c rfl (o_boxB rfl ?_)
  intro w2 hC2 hx2 hs2
  obtain ⟨b2, hb2⟩ : ∃ b, b = w0.heap.size := ⟨_, rfl⟩
  rw [← hb2] at hC2 ⊢
  replace hC2 : w2.heap[b2]? = some (.cells ([dv]).toArray 24 (0, 0)) := hC2
  have hx := hx2
  replace hD := hD.ext hx2
  refine WL.c rfl (o_ash (show _ = Value.int _ _ from rfl) ?_)
  refine WL.c rfl (o_ash (show _ = Value.int _ _ from rfl) ?_)
  refine WL.nil ?_
  refine W.seq ?_
  refine W.seq ?_
  refine W.region ?_
  refine WL.c rfl (o_ash (show _ = Value.int _ _ from rfl) ?_)
  refine WL.nil ?_
  refine W.block ?_
  refine W.loop (fun e w => ∃ k : Nat, k ≤ D.length ∧ e 1 = st nm ∧ e 2 = .pointer (some ⟨b2, 0, none⟩) ∧ e 6 = .int .i64 (k : Int) ∧ DefR w D dv V ∧ w.heap[b2]? = some (.cells #[dv] 24 (0, 0)) ∧ (∀ j, j < k → ¬ (D.getD j df0).name = nm) ∧ Ext w0 w) (fun e w => D.length - (intOf (e 6)).toNat) ?_ ?_
  · exact ⟨0, Nat.zero_le _, rfl, rfl, rfl, hD, hC2, fun j hj => by omega, hx⟩
  rintro e w ⟨k, hk, h1, h2, h6, hD, hC2, hno, hx⟩
  have hm6 := h6
  refine W.seq ?_
  refine W.seq ?_
  refine W.region ?_
  refine WL.c rfl (o_mvh h6 ?_)
  refine WL.c rfl (o_fa 0 TI24 rfl TI22 rfl h2 ?_)
  refine WL.c rfl (o_ld TI22 rfl rfl (cell_of hC2 rfl) ?_)
  refine WL.c rfl (o_lenR TI22 rfl hD.row ?_)
  refine WL.c rfl (o_lt rfl rfl ?_)
  refine WL.nil ?_
  refine W.cond rfl (fun c11 => ?_) (fun c11 => ?_)
  · try simp only [cs8] at c11
    have hk1 : k < D.length := by omega
    obtain ⟨tb, to_, tc, rfl, htc, hty⟩ := hD.atk hk1
    refine W.skip ?_
    refine W.seq ?_
    refine W.block ?_
    refine W.seq ?_
    refine W.region ?_
    refine WL.c rfl (o_fa 0 TI24 rfl TI22 rfl h2 ?_)
    refine WL.c rfl (o_ld TI22 rfl rfl (cell_of hC2 rfl) ?_)
    refine WL.c rfl (o_mvh h6 ?_)
    refine WL.c rfl (o_ixB TI22 TI39 rfl rfl (by omega) ?_)
    refine WL.c rfl (o_fa 0 TI39 rfl TI9 rfl rfl ?_)
    refine WL.c rfl (o_ld TI9 rfl rfl (htc 0 _ rfl) ?_)
    refine WL.c rfl (o_mvh h1 ?_)
    refine WL.c rfl (o_eqT rfl rfl ?_)
    refine WL.nil ?_
    refine W.cond rfl (fun c21 => ?_) (fun c21 => ?_)
    · try simp only [cs8] at c21
      refine W.seq ?_
      refine W.region ?_
      refine WL.c rfl (o_mvh h6 ?_)
      refine WL.c rfl (o_ash (show _ = Value.int _ _ from rfl) ?_)
      refine WL.c rfl (o_ash (show _ = Value.int _ _ from rfl) ?_)
      refine WL.nil ?_
      refine W.ret ?_
      refine ret2v rfl (show _ = Value.int _ _ from rfl) (show _ = Value.int _ _ from rfl) ?_
      exact ⟨by rw [where_hit hk1 (by simpa using c21) hno]; rfl, hx⟩
    · try simp only [cs8] at c21
      refine W.skip ?_
      refine W.region ?_
      refine WL.c rfl (o_mvh h6 ?_)
      refine WL.c rfl (o_addi rfl rfl (by omega) ?_)
      refine WL.c rfl (o_ash (show _ = Value.int _ _ from rfl) ?_)
      refine WL.nil ?_
      refine ⟨⟨k + 1, by omega, h1, h2, rfl, hD, hC2, fun j hj => ?_, hx⟩, ?_⟩
      · rcases Nat.lt_or_ge j k with h | h
        · exact hno j h
        · rw [show j = k by omega, getD_at hk1]; simpa using c21
      · show D.length - ((k : Int) + 1).toNat < _
        rw [hm6]; simp [intOf]; omega
  · try simp only [cs8] at c11
    have hk1 : k = D.length := by omega
    refine W.exit ?_
    refine W.seq ?_
    refine W.region ?_
    refine WL.c rfl (o_ash (show _ = Value.int _ _ from rfl) ?_)
    refine WL.c rfl (o_ash (show _ = Value.int _ _ from rfl) ?_)
    refine WL.nil ?_
    refine W.ret ?_
    refine ret2v rfl (show _ = Value.int _ _ from rfl) (show _ = Value.int _ _ from rfl) ?_
    exact ⟨by rw [where_miss (fun j hj => hno j (by omega))]; rfl, hx⟩

/-- at a node: what lies behind it -/
def SBh (t : Tr) : Prop := ∀ (L rest : List Ex) (v : Value) (at_ : Nat) (a : Int) (d : Nat) (w0 : World), t.wf a d → L.drop at_ = t.flat ++ rest → Sl w0 7 v L.length (exs L) → L.length * 72 ≤ 140737488351232 →
  Ca Try.prog 58 #[v, .int .i64 (at_ : Int)] w0 (fun u w' => u = .int .i64 ((at_ + t.flat.length : Nat) : Int) ∧ Ext w0 w')

set_option maxHeartbeats 1000000 in
theorem behind_step (y : Ex) (ks : Trs) (IH : ∀ t : Tr, t.flat.length < (Tr.node y ks).flat.length → SBh t) (L rest : List Ex) (v : Value) (at_ : Nat) (a : Int) (d : Nat) (w0 : World) (hw : (Tr.node y ks).wf a d) (hL : L.drop at_ = (Tr.node y ks).flat ++ rest) (hS : Sl w0 7 v L.length (exs L)) (hLl : L.length * 72 ≤ 140737488351232) : Ca Try.prog 58 #[v, .int .i64 (at_ : Int)] w0 (fun u w' => u = .int .i64 ((at_ + (Tr.node y ks).flat.length : Nat) : Int) ∧ Ext w0 w') := by
  have hx : Ext w0 w0 := Only.refl _ _
  obtain ⟨hat, hya, hL1⟩ := drop_at (show L.drop at_ = y :: (ks.flat ++ rest) from hL)
  obtain ⟨ub, uo, uc, rfl, huc⟩ := Sl.exq hS hat
  clear huc
  have hkk : y.kids = (ks.len : Int) := hw.2.2.2.1.symm
  have hksl : ks.flat.length ≤ L.length := by have h1 := congrArg List.length hL1; simp at h1; omega
  have hlk := trs_len_le ks
  have hfl : (Tr.node y ks).flat.length = ks.flat.length + 1 := rfl
  refine Ca.of Try.func58 Try.ntmps58 rfl rfl ?_
  refine W.seq ?_
  refine W.region ?_
  refine WL.c rfl (o_ash (show _ = Value.int _ _ from rfl) ?_)
  refine WL.nil ?_
  refine W.seq ?_
  refine W.region ?_
  refine WL.c rfl (o_mvh (show _ = Value.int _ _ from rfl) ?_)
  refine WL.c rfl (o_addi rfl rfl (by omega) ?_)
  refine WL.c rfl (o_ash (show _ = Value.int _ _ from rfl) ?_)
  refine WL.nil ?_
  refine W.seq ?_
  refine W.seq ?_
  refine W.region ?_
  refine WL.c rfl (o_ash (show _ = Value.int _ _ from rfl) ?_)
  refine WL.nil ?_
  refine W.block ?_
  refine W.loop (fun e w => ∃ (k next : Nat) (ts : Trs), ks.len = k + ts.len ∧ e 0 = (Value.slice (some ⟨ub, uo, none⟩) L.length uc) ∧ e 1 = .int .i64 (at_ : Int) ∧ e 5 = .int .i64 (next : Int) ∧ e 6 = .int .i64 (k : Int) ∧ Sl w 7 (Value.slice (some ⟨ub, uo, none⟩) L.length uc) L.length (exs L) ∧ ts.wf y.kind (d + 1) ∧ L.drop next = ts.flat ++ rest ∧ next + ts.flat.length = at_ + 1 + ks.flat.length ∧ ts.flat.length ≤ ks.flat.length ∧ Ext w0 w) (fun e w => ks.len - (intOf (e 6)).toNat) ?_ ?_
  · exact ⟨0, at_ + 1, ks, by omega, rfl, rfl, rfl, rfl, hS, hw.2.2.2.2, hL1, rfl, Nat.le_refl _, hx⟩
  rintro e w ⟨k, next, ts, hks, h0, h1, h5, h6, hS, hwt, hLn, hnx, htl, hx⟩
  have hm6 := h6
  have huc := Sl.exw hS hat
  rw [hya] at huc
  have hcK : w.cell? ⟨ub, uo + at_ * 7 + 5, none⟩ = some (.int .i64 (ks.len : Int)) := by rw [← hkk]; exact huc 5 _ rfl
  refine W.seq ?_
  refine W.seq ?_
  refine W.region ?_
  refine WL.c rfl (o_mvh h6 ?_)
  refine WL.c rfl (o_mvh h0 ?_)
  refine WL.c rfl (o_mvh h1 ?_)
  refine WL.c rfl (o_ixB TI37 TI26 rfl rfl (by omega) ?_)
  refine WL.c rfl (o_fa 5 TI26 rfl TI3 rfl rfl ?_)
  refine WL.c rfl (o_ld TI3 rfl rfl hcK ?_)
  refine WL.c rfl (o_lt rfl rfl ?_)
  refine WL.nil ?_
  refine W.cond rfl (fun c15 => ?_) (fun c15 => ?_)
  · try simp only [cs8] at c15
    have hk1 : k < ks.len := by omega
    obtain ⟨t, ts2, rfl⟩ := Trs.split hks hk1
    simp only [Trs.len] at hks
    have hfl2 : (Trs.cons t ts2).flat.length = t.flat.length + ts2.flat.length := by simp [Trs.flat]
    have htp := tr_pos t
    rw [hfl2] at hnx htl
    have hdr : L.drop next = t.flat ++ (ts2.flat ++ rest) := by rw [hLn]; simp [Trs.flat]
    have hdr2 : L.drop (next + t.flat.length) = ts2.flat ++ rest := by rw [← List.drop_drop, hdr, List.drop_left]
    refine W.skip ?_
    refine W.seq ?_
    refine W.block ?_
    refine W.region ?_
    refine WL.c rfl (o_mvh h0 ?_)
    refine WL.c rfl (o_mvh h5 ?_)
    refine WL.c rfl (o_call Try.call58 (lc rfl (lc rfl ln)) ((IH t (by rw [hfl]; omega) L (ts2.flat ++ rest) (Value.slice (some ⟨ub, uo, none⟩) L.length uc) next _ _ _ hwt.1 hdr hS hLl).mono ?_))
    rintro v20 w20 ⟨rfl, hx20⟩
    replace hx := hx.tr hx20
    replace hS := hS.ext hx20
    refine WL.c rfl (o_ash (show _ = Value.int _ _ from rfl) ?_)
    refine WL.nil ?_
    refine W.region ?_
    refine WL.c rfl (o_mvh h6 ?_)
    refine WL.c rfl (o_addi rfl rfl (by omega) ?_)
    refine WL.c rfl (o_ash (show _ = Value.int _ _ from rfl) ?_)
    refine WL.nil ?_
    refine ⟨⟨k + 1, next + t.flat.length, ts2, by omega, h0, h1, rfl, rfl, hS, hwt.2, hdr2, by omega, by omega, hx⟩, ?_⟩
    show ks.len - ((k : Int) + 1).toNat < _
    rw [hm6]; simp [intOf]; omega
  · try simp only [cs8] at c15
    have hk1 : k = ks.len := by omega
    have hnil := Trs.none hks hk1
    subst hnil
    refine W.exit ?_
    refine W.seq ?_
    refine W.region ?_
    refine WL.c rfl (o_mvh h5 ?_)
    refine WL.c rfl (o_ash (show _ = Value.int _ _ from rfl) ?_)
    refine WL.nil ?_
    refine W.ret ?_
    refine ret1v rfl (show _ = Value.int _ _ from rfl) ?_
    exact ⟨congrArg (Value.int .i64) (by rw [hfl]; simp [Trs.flat] at hnx; omega), hx⟩

theorem behind_all : ∀ (m : Nat) (t : Tr), t.flat.length ≤ m → SBh t
  | 0, .node y ks, h => by simp [Tr.flat] at h
  | m + 1, .node y ks, h => fun L rest v at_ a d w0 h1 h2 h3 h4 => behind_step y ks (fun t ht => behind_all m t (by omega)) L rest v at_ a d w0 h1 h2 h3 h4
/-- a kid: its parent's place, its own, its parent's kind, the heads of the kids ahead, its head -/
structure KE where
  i : Nat
  p : Nat
  kind : Int
  seen : List Ex
  x : Ex
def topK (i : Nat) (kind : Int) : Trs → Nat → List Ex → List KE
  | .nil, _, _ => []
  | .cons t ts, next, seen => ⟨i, next, kind, seen, t.top⟩ :: topK i kind ts (next + t.flat.length) (seen ++ [t.top])
mutual
def kidT : Tr → Nat → List KE
  | .node y ks, a => kidK a y.kind ks (a + 1) []
def kidK (i : Nat) (kind : Int) : Trs → Nat → List Ex → List KE
  | .nil, _, _ => []
  | .cons t ts, next, seen => ⟨i, next, kind, seen, t.top⟩ :: (kidT t next ++ kidK i kind ts (next + t.flat.length) (seen ++ [t.top]))
end
mutual
theorem dup_kid : ∀ (t : Tr) (a p : Nat), p ∈ dupT t a ↔ ∃ e ∈ kidT t a, e.p = p ∧ dupB e.kind e.seen e.x = true
  | .node y ks, a, p => by
    rw [dupT, kidT]
    exact dupK_kid a y.kind ks (a + 1) [] p
theorem dupK_kid (i : Nat) (kind : Int) : ∀ (ts : Trs) (a : Nat) (seen : List Ex) (p : Nat), p ∈ dupK kind ts a seen ↔ ∃ e ∈ kidK i kind ts a seen, e.p = p ∧ dupB e.kind e.seen e.x = true
  | .nil, a, seen, p => by simp [dupK, kidK]
  | .cons t ts, a, seen, p => by
    rw [dupK, kidK, List.mem_append, List.mem_append, dup_kid t a p, dupK_kid i kind ts _ _ p]
    constructor
    · rintro (h | ⟨e, he, h⟩ | ⟨e, he, h⟩)
      · split at h
        · rename_i hd
          rw [List.mem_singleton.1 h]
          exact ⟨_, List.mem_cons_self .., rfl, hd⟩
        · cases h
      · exact ⟨e, List.mem_cons_of_mem _ (List.mem_append_left _ he), h⟩
      · exact ⟨e, List.mem_cons_of_mem _ (List.mem_append_right _ he), h⟩
    · rintro ⟨e, he, hp, hd⟩
      rcases List.mem_cons.1 he with rfl | he
      · left
        rw [if_pos hd, ← hp]
        exact List.mem_singleton.2 rfl
      · rcases List.mem_append.1 he with he | he
        · exact .inr (.inl ⟨e, he, hp, hd⟩)
        · exact .inr (.inr ⟨e, he, hp, hd⟩)
end
mutual
theorem kid_range : ∀ (t : Tr) (a : Nat), (kidT t a).map (fun e => e.p) = List.range' (a + 1) (t.flat.length - 1)
  | .node y ks, a => by
    rw [kidT, kidK_range a y.kind ks (a + 1) []]
    rfl
theorem kidK_range (i : Nat) (kind : Int) : ∀ (ts : Trs) (a : Nat) (seen : List Ex), (kidK i kind ts a seen).map (fun e => e.p) = List.range' a ts.flat.length
  | .nil, a, seen => rfl
  | .cons t ts, a, seen => by
    rw [kidK, List.map_cons, List.map_append, kid_range t a, kidK_range i kind ts _ _]
    have hp := tr_pos t
    rw [show (Trs.cons t ts).flat.length = 1 + ((t.flat.length - 1) + ts.flat.length) by simp [Trs.flat]; omega]
    rw [← List.range'_append_1, ← List.range'_append_1, show a + 1 + (t.flat.length - 1) = a + t.flat.length by omega]
    rfl
end
theorem kid_uniq {t : Tr} {a : Nat} {e e' : KE} (h : e ∈ kidT t a) (h' : e' ∈ kidT t a) (hp : e.p = e'.p) : e = e' := by
  have hn : ((kidT t a).map (fun e => e.p)).Nodup := by rw [kid_range]; exact List.nodup_range'
  obtain ⟨i, hi, rfl⟩ := List.getElem_of_mem h
  obtain ⟨j, hj, rfl⟩ := List.getElem_of_mem h'
  have h1 : ((kidT t a).map (fun e => e.p))[i]'(by simpa using hi) = ((kidT t a).map (fun e => e.p))[j]'(by simpa using hj) := by simpa using hp
  have h2 := (List.getElem_inj hn).1 h1
  subst h2
  rfl
theorem topK_kid {i : Nat} {kind : Int} : ∀ {ts : Trs} {a : Nat} {seen : List Ex} {e : KE}, e ∈ topK i kind ts a seen → e ∈ kidK i kind ts a seen
  | .nil, _, _, _, h => by cases h
  | .cons t ts, a, seen, e, h => by
    rw [topK] at h
    rw [kidK]
    rcases List.mem_cons.1 h with rfl | h
    · exact List.mem_cons_self ..
    · exact List.mem_cons_of_mem _ (List.mem_append_right _ (topK_kid h))
theorem drop_cat {α : Type} {A B R : List α} {k : Nat} {S : List α} (hk : k < A.length) (h : A.drop k = S ++ R) : (A ++ B).drop k = S ++ (R ++ B) := by
  rw [List.drop_append_of_le_length (by omega), h, List.append_assoc]
mutual
/-- each place is a node's, whose kids are kids of the whole -/
theorem sub_kid : ∀ (t : Tr) (a i : Nat) (aa : Int) (dd : Nat), t.wf aa dd → a ≤ i → i < a + t.flat.length → ∃ y ks r a2 d2, (Tr.node y ks).wf a2 d2 ∧ t.flat.drop (i - a) = (Tr.node y ks).flat ++ r ∧ ∀ e ∈ topK i y.kind ks (i + 1) [], e ∈ kidT t a
  | .node y ks, a, i, aa, dd, hw, h1, h2 => by
    by_cases he : i = a
    · subst he
      exact ⟨y, ks, [], aa, dd, hw, by rw [Nat.sub_self, List.append_nil]; rfl, fun e he => by rw [kidT]; exact topK_kid he⟩
    · have hfl : (Tr.node y ks).flat.length = ks.flat.length + 1 := rfl
      obtain ⟨y2, ks2, r, a2, d2, g1, g2, g3⟩ := subs_kid a y.kind ks (a + 1) [] i _ _ hw.2.2.2.2 (by omega) (by omega)
      refine ⟨y2, ks2, r, a2, d2, g1, ?_, fun e he => by rw [kidT]; exact g3 e he⟩
      rw [show i - a = (i - (a + 1)) + 1 by omega]
      exact g2
theorem subs_kid (i0 : Nat) (kind : Int) : ∀ (ts : Trs) (a : Nat) (seen : List Ex) (i : Nat) (aa : Int) (dd : Nat), ts.wf aa dd → a ≤ i → i < a + ts.flat.length → ∃ y ks r a2 d2, (Tr.node y ks).wf a2 d2 ∧ ts.flat.drop (i - a) = (Tr.node y ks).flat ++ r ∧ ∀ e ∈ topK i y.kind ks (i + 1) [], e ∈ kidK i0 kind ts a seen
  | .nil, a, seen, i, aa, dd, hw, h1, h2 => by
    simp [Trs.flat] at h2; omega
  | .cons t ts, a, seen, i, aa, dd, hw, h1, h2 => by
    rw [show (Trs.cons t ts).flat.length = t.flat.length + ts.flat.length by simp [Trs.flat]] at h2
    by_cases hi : i < a + t.flat.length
    · obtain ⟨y2, ks2, r, a2, d2, g1, g2, g3⟩ := sub_kid t a i _ _ hw.1 h1 hi
      refine ⟨y2, ks2, r ++ ts.flat, a2, d2, g1, drop_cat (by omega) g2, fun e he => ?_⟩
      rw [kidK]
      exact List.mem_cons_of_mem _ (List.mem_append_left _ (g3 e he))
    · obtain ⟨y2, ks2, r, a2, d2, g1, g2, g3⟩ := subs_kid i0 kind ts (a + t.flat.length) (seen ++ [t.top]) i _ _ hw.2 (by omega) (by omega)
      refine ⟨y2, ks2, r, a2, d2, g1, ?_, fun e he => ?_⟩
      · rw [show (Trs.cons t ts).flat = t.flat ++ ts.flat from rfl, show i - a = t.flat.length + (i - (a + t.flat.length)) by omega, ← List.drop_drop, List.drop_left]
        exact g2
      · rw [kidK]
        exact List.mem_cons_of_mem _ (List.mem_append_right _ (g3 e he))
end
mutual
/-- a kid of the whole is a kid of the node at its parent's place -/
theorem kid_sub : ∀ (t : Tr) (a : Nat) (aa : Int) (dd : Nat) (e : KE), t.wf aa dd → e ∈ kidT t a → ∃ y ks r a2 d2, (Tr.node y ks).wf a2 d2 ∧ a ≤ e.i ∧ e.i < a + t.flat.length ∧ t.flat.drop (e.i - a) = (Tr.node y ks).flat ++ r ∧ e ∈ topK e.i y.kind ks (e.i + 1) []
  | .node y ks, a, aa, dd, e, hw, h => by
    have hfl : (Tr.node y ks).flat.length = ks.flat.length + 1 := rfl
    rw [kidT] at h
    rcases kids_sub a y.kind ks (a + 1) [] _ _ e hw.2.2.2.2 h with ⟨h1, h2⟩ | ⟨y2, ks2, r, a2, d2, g1, g2, g3, g4, g5⟩
    · refine ⟨y, ks, [], aa, dd, hw, by omega, by omega, ?_, ?_⟩
      · rw [h2, Nat.sub_self, List.append_nil]; rfl
      · rw [h2]; exact h1
    · refine ⟨y2, ks2, r, a2, d2, g1, by omega, by omega, ?_, g5⟩
      rw [show e.i - a = (e.i - (a + 1)) + 1 by omega]
      exact g4
theorem kids_sub (i0 : Nat) (kind : Int) : ∀ (ts : Trs) (a : Nat) (seen : List Ex) (aa : Int) (dd : Nat) (e : KE), ts.wf aa dd → e ∈ kidK i0 kind ts a seen → (e ∈ topK i0 kind ts a seen ∧ e.i = i0) ∨ ∃ y ks r a2 d2, (Tr.node y ks).wf a2 d2 ∧ a ≤ e.i ∧ e.i < a + ts.flat.length ∧ ts.flat.drop (e.i - a) = (Tr.node y ks).flat ++ r ∧ e ∈ topK e.i y.kind ks (e.i + 1) []
  | .nil, a, seen, aa, dd, e, hw, h => by cases h
  | .cons t ts, a, seen, aa, dd, e, hw, h => by
    have hfl : (Trs.cons t ts).flat.length = t.flat.length + ts.flat.length := by simp [Trs.flat]
    rw [kidK] at h
    rcases List.mem_cons.1 h with rfl | h
    · exact .inl ⟨by rw [topK]; exact List.mem_cons_self .., rfl⟩
    · rcases List.mem_append.1 h with h | h
      · obtain ⟨y2, ks2, r, a2, d2, g1, g2, g3, g4, g5⟩ := kid_sub t a _ _ e hw.1 h
        exact .inr ⟨y2, ks2, r ++ ts.flat, a2, d2, g1, g2, by omega, drop_cat (by omega) g4, g5⟩
      · rcases kids_sub i0 kind ts (a + t.flat.length) (seen ++ [t.top]) _ _ e hw.2 h with ⟨h1, h2⟩ | ⟨y2, ks2, r, a2, d2, g1, g2, g3, g4, g5⟩
        · exact .inl ⟨by rw [topK]; exact List.mem_cons_of_mem _ h1, h2⟩
        · refine .inr ⟨y2, ks2, r, a2, d2, g1, by omega, by omega, ?_, g5⟩
          rw [show (Trs.cons t ts).flat = t.flat ++ ts.flat from rfl, show e.i - a = t.flat.length + (e.i - (a + t.flat.length)) by omega, ← List.drop_drop, List.drop_left]
          exact g4
end
theorem topK_kind {i : Nat} {kind : Int} : ∀ {ts : Trs} {a : Nat} {seen : List Ex} {e : KE}, e ∈ topK i kind ts a seen → e.kind = kind ∧ e.i = i ∧ a ≤ e.p ∧ e.p < a + ts.flat.length ∧ (e.p = a ∨ ∃ t t2, ts = .cons t t2 ∧ e ∈ topK i kind t2 (a + t.flat.length) (seen ++ [t.top])) ∧ ∀ x ∈ seen, x ∈ e.seen
  | .nil, _, _, _, h => by cases h
  | .cons t ts, a, seen, e, h => by
    have hfl : (Trs.cons t ts).flat.length = t.flat.length + ts.flat.length := by simp [Trs.flat]
    have hp := tr_pos t
    rw [topK] at h
    rcases List.mem_cons.1 h with rfl | h
    · exact ⟨rfl, rfl, Nat.le_refl _, by show a < _; omega, .inl rfl, fun x hx => hx⟩
    · obtain ⟨h1, h2, h3, h4, -, h6⟩ := topK_kind h
      exact ⟨h1, h2, by omega, by omega, .inr ⟨t, ts, rfl, h⟩, fun x hx => h6 x (List.mem_append_left _ hx)⟩
theorem topK_at {i : Nat} {kind : Int} {L rest : List Ex} : ∀ {ts : Trs} {a : Nat} {seen : List Ex} {e : KE}, L.drop a = ts.flat ++ rest → e ∈ topK i kind ts a seen → L[e.p]? = some e.x
  | .nil, _, _, _, _, h => by cases h
  | .cons t ts, a, seen, e, hL, h => by
    have hdr : L.drop a = t.flat ++ (ts.flat ++ rest) := by rw [hL]; simp [Trs.flat]
    rw [topK] at h
    rcases List.mem_cons.1 h with rfl | h
    · obtain ⟨r, hr⟩ := top_flat t
      obtain ⟨hi, hx, -⟩ := drop_at (show L.drop a = t.top :: (r ++ (ts.flat ++ rest)) by rw [hdr, hr]; rfl)
      show L[a]? = some t.top
      rw [List.getElem?_eq_getElem hi, hx]
    · exact topK_at (by rw [← List.drop_drop, hdr, List.drop_left]) h

end Go.Proofs.Ytgcehajdldicfaa

set_option linter.unusedSimpArgs false
set_option linter.unusedVariables false
set_option maxRecDepth 100000
namespace Go.Proofs.Ytgcehajdldicfaa
open Go Go.Vc Go.RowKit Go.Proofs

theorem kcases (k : Int) : k = 8 ∨ k = 7 ∨ (¬ k = 8 ∧ ¬ k = 7) := by omega
theorem dupB_snoc (k : Int) (seen : List Ex) (t x : Ex) : dupB k (seen ++ [t]) x = (dupB k seen x || dupB k [t] x) := by
  unfold dupB
  split
  · rw [List.any_append]
  · split
    · rw [List.any_append]
    · rfl
theorem dupB_mem {k : Int} {seen : List Ex} {t x : Ex} (hm : t ∈ seen) (h : dupB k [t] x = true) : dupB k seen x = true := by
  unfold dupB at h ⊢
  split
  · rename_i h8
    rw [if_pos h8] at h
    simp only [List.any_cons, List.any_nil, Bool.or_false, decide_eq_true_eq] at h
    exact List.any_eq_true.2 ⟨t, hm, by simpa using h⟩
  · rename_i h8
    rw [if_neg h8] at h
    split
    · rename_i h7
      rw [if_pos h7] at h
      simp only [List.any_cons, List.any_nil, Bool.or_false, decide_eq_true_eq] at h
      exact List.any_eq_true.2 ⟨t, hm, by simpa using h⟩
    · rename_i h7
      rw [if_neg h7] at h; cases h
theorem topK_head {i : Nat} {kind : Int} {ts : Trs} {a : Nat} {seen : List Ex} {q : KE} (h : q ∈ topK i kind ts a seen) (hp : q.p = a) : q.seen = seen := by
  cases ts with
  | nil => cases h
  | cons t ts =>
    rw [topK] at h
    rcases List.mem_cons.1 h with rfl | h
    · rfl
    · have := (topK_kind h).2.2.1
      have := tr_pos t
      omega
def pz (n : Nat) (f : Nat → Int) : List Value := (List.range n).map (fun j => zv (f j))
theorem pz_at {n k : Nat} {f : Nat → Int} (hk : k < n) : (pz n f)[k]? = some (zv (f k)) := by
  unfold pz
  rw [List.getElem?_map, List.getElem?_range hk]
  rfl
def updI (f : Nat → Int) (i : Nat) (v : Int) : Nat → Int := fun j => if j = i then v else f j
theorem pz_set {n i : Nat} {v : Int} {f : Nat → Int} : (pz n f).set i (zv v) = pz n (updI f i v) := by
  apply List.ext_getElem?
  intro j
  rw [List.getElem?_set]
  by_cases hj : j < n
  · rw [pz_at hj, pz_at hj]
    unfold updI
    by_cases e : i = j
    · subst e
      rw [if_pos rfl, if_pos (by simpa [pz] using hj), if_pos rfl]
    · rw [if_neg e, if_neg (fun h => e h.symm)]
  · have h1 : ∀ o, (pz n o)[j]? = none := fun o => List.getElem?_eq_none (by simp [pz]; omega)
    rw [h1, h1]
    split
    · rw [if_neg (by simp [pz]; omega)]
    · rfl
theorem pz_zero (n : Nat) : pz n (fun _ => 0) = List.replicate n (.int .i64 0) := by
  unfold pz
  rw [List.eq_replicate_iff]
  refine ⟨by simp, fun b hb => ?_⟩
  obtain ⟨j, -, rfl⟩ := List.mem_map.1 hb
  rfl
def k78 (e : KE) : Prop := e.kind = 8 ∨ e.kind = 7
/-- what parents has told so far is a parent's place -/
def Snd (t : Tr) (n : Nat) (f : Nat → Int) : Prop := ∀ j, j < n → f j = -1 ∨ ∃ e ∈ kidT t 0, e.p = j ∧ k78 e ∧ f j = (e.i : Int)
/-- the kids of the places below i are told -/
def Cmp (t : Tr) (i : Nat) (f : Nat → Int) : Prop := ∀ e ∈ kidT t 0, k78 e → e.i < i → f e.p = (e.i : Int)
theorem Snd.set {t : Tr} {n : Nat} {f : Nat → Int} (h : Snd t n f) {e : KE} (he : e ∈ kidT t 0) (hk : k78 e) : Snd t n (updI f e.p (e.i : Int)) := by
  intro j hj
  unfold updI
  by_cases hp : j = e.p
  · rw [if_pos hp]; exact .inr ⟨e, he, hp.symm, hk, rfl⟩
  · rw [if_neg hp]; exact h j hj
theorem Cmp.set {t : Tr} {i : Nat} {f : Nat → Int} (h : Cmp t i f) {e : KE} (he : e ∈ kidT t 0) : Cmp t i (updI f e.p (e.i : Int)) := by
  intro q hq hk hi
  unfold updI
  by_cases hp : q.p = e.p
  · rw [if_pos hp, kid_uniq hq he hp]
  · rw [if_neg hp]; exact h q hq hk hi
def k8 (k : Int) : Prop := k = 8 ∨ k = 7
theorem Cmp.next {t : Tr} {i : Nat} {f : Nat → Int} (h : Cmp t i f) {y : Ex} {ks : Trs} {r : List Ex} {a2 aa : Int} {d2 dd : Nat} (hw0 : t.wf aa dd) (hw : (Tr.node y ks).wf a2 d2) (hd : t.flat.drop i = (Tr.node y ks).flat ++ r) (hall : k8 y.kind → ∀ e ∈ topK i y.kind ks (i + 1) [], f e.p = (i : Int)) : Cmp t (i + 1) f := by
  intro e he hk hi
  by_cases hlt : e.i < i
  · exact h e he hk hlt
  · have hei : e.i = i := by omega
    obtain ⟨y2, ks2, r2, a3, d3, g1, -, -, g4, g5⟩ := kid_sub t 0 _ _ e hw0 he
    rw [Nat.sub_zero, hei] at g4
    rw [hei] at g5
    have hu := tr_uniq _ _ _ _ _ _ _ _ g1 hw (g4.symm.trans hd)
    have he1 := hu.1
    simp only [Tr.node.injEq] at he1
    obtain ⟨rfl, rfl⟩ := he1
    rw [hei]
    refine hall ?_ e g5
    have := (topK_kind g5).1
    unfold k8
    rw [← this]; exact hk

set_option maxHeartbeats 2000000 in
theorem rtwice_spec (y : Ex) (ks : Trs) (L rest : List Ex) (v : Value) (i : Nat) (a : Int) (d : Nat) (q : KE) (w0 : World) (hw : (Tr.node y ks).wf a d) (hL : L.drop i = (Tr.node y ks).flat ++ rest) (hS : Sl w0 7 v L.length (exs L)) (hLl : L.length * 72 ≤ 140737488351232) (hq : q ∈ topK i y.kind ks (i + 1) []) : Ca Try.prog 45 #[v, .int .i64 (i : Int), .int .i64 (q.p : Int)] w0 (fun u w' => u = .bool (dupB q.kind q.seen q.x) ∧ Ext w0 w') := by
  have hx : Ext w0 w0 := Only.refl _ _
  obtain ⟨hat, hya, hL1⟩ := drop_at (show L.drop i = y :: (ks.flat ++ rest) from hL)
  obtain ⟨ub, uo, uc, rfl, huc⟩ := Sl.exq hS hat
  clear huc
  have hqk := (topK_kind hq).1
  have hqp := topK_at hL1 hq
  obtain ⟨hqL, hqx⟩ := List.getElem?_eq_some_iff.1 hqp
  have h0d : dupB y.kind [] q.x = false := by
    unfold dupB
    split
    · rfl
    · split <;> rfl
  refine Ca.of Try.func45 Try.ntmps45 rfl rfl ?_
  refine W.seq ?_
  refine W.region ?_
  refine WL.c rfl (o_ash (show _ = Value.bool _ from rfl) ?_)
  refine WL.nil ?_
  refine W.seq ?_
  refine W.region ?_
  refine WL.c rfl (o_mvh (show _ = Value.int _ _ from rfl) ?_)
  refine WL.c rfl (o_addi rfl rfl (by omega) ?_)
  refine WL.c rfl (o_ash (show _ = Value.int _ _ from rfl) ?_)
  refine WL.nil ?_
  refine W.seq ?_
  refine W.block ?_
  refine W.loop (fun e w => ∃ (next : Nat) (ts : Trs) (seen : List Ex) (aa : Int) (dd : Nat), e 0 = (Value.slice (some ⟨ub, uo, none⟩) L.length uc) ∧ e 1 = .int .i64 (i : Int) ∧ e 2 = .int .i64 (q.p : Int) ∧ e 7 = .int .i64 (next : Int) ∧ Sl w 7 (Value.slice (some ⟨ub, uo, none⟩) L.length uc) L.length (exs L) ∧ ts.wf aa dd ∧ L.drop next = ts.flat ++ rest ∧ q ∈ topK i y.kind ts next seen ∧ dupB y.kind seen q.x = false ∧ Ext w0 w) (fun e w => q.p - (intOf (e 7)).toNat) ?_ ?_
  · exact ⟨i + 1, ks, [], _, _, rfl, rfl, rfl, rfl, hS, hw.2.2.2.2, hL1, hq, h0d, hx⟩
  rintro e w ⟨next, ts, seen, aa, dd, h0, h1, h2, h7, hS, hwt, hLn, hq, hds, hx⟩
  have hm7 := h7
  refine W.seq ?_
  refine W.seq ?_
  refine W.region ?_
  refine WL.c rfl (o_mvh h7 ?_)
  refine WL.c rfl (o_mvh h2 ?_)
  refine WL.c rfl (o_lt rfl rfl ?_)
  refine WL.nil ?_
  refine W.cond rfl (fun c12 => ?_) (fun c12 => ?_)
  · try simp only [cs8] at c12
    have hlt : next < q.p := by omega
    obtain ⟨t, ts2, rfl, hq2⟩ : ∃ t t2, ts = .cons t t2 ∧ q ∈ topK i y.kind t2 (next + t.flat.length) (seen ++ [t.top]) := by
      rcases (topK_kind hq).2.2.2.2.1 with h | ⟨t, t2, h1, h2⟩
      · omega
      · exact ⟨t, t2, h1, h2⟩
    have htp := tr_pos t
    have hdr : L.drop next = t.flat ++ (ts2.flat ++ rest) := by rw [hLn]; simp [Trs.flat]
    have hdr2 : L.drop (next + t.flat.length) = ts2.flat ++ rest := by rw [← List.drop_drop, hdr, List.drop_left]
    obtain ⟨r, hr⟩ := top_flat t
    obtain ⟨hnl1, hxe, -⟩ := drop_at (show L.drop next = t.top :: (r ++ (ts2.flat ++ rest)) by rw [hdr, hr]; rfl)
    have hcy := Sl.exw hS hat
    rw [hya] at hcy
    have hct := Sl.exw hS hnl1
    rw [hxe] at hct
    have hcq := Sl.exw hS hqL
    rw [hqx] at hcq
    have hq2p := (topK_kind hq2).2.2.1
    have hmem : t.top ∈ q.seen := (topK_kind hq2).2.2.2.2.2 _ (by simp)
    refine W.skip ?_
    refine W.block ?_
    refine W.seq ?_
    refine W.seq ?_
    rcases kcases y.kind with hk | hk | ⟨hk8, hk7⟩
    rcases Classical.em (t.top.label = q.x.label) with hl | hl
    rotate_left 2
    rcases Classical.em (t.top.tag = q.x.tag) with hl | hl
    rotate_left 3
    · skip
      have hlike : dupB y.kind [t.top] q.x = true := by unfold dupB; rw [if_pos hk]; simp [hl]
      refine W.quiet rfl (by kernel_rfl) ?_
      refine WQ.c rfl ((QO.o rfl fun _ => o_mvh h0 ⟨rfl, rfl⟩)) ?_
      refine WQ.c rfl ((QO.o rfl fun _ => o_mvh h1 ⟨rfl, rfl⟩)) ?_
      refine WQ.c rfl ((QO.o rfl fun _ => o_ixB (i := i) TI37 TI26 (show _ = Value.slice (some ⟨ub, uo, none⟩) L.length uc from rfl) (show _ = Value.int .i64 (i : Int) from rfl) (by omega) ⟨rfl, rfl⟩)) ?_
      refine WQ.c rfl ((QO.o rfl fun _ => o_fa 0 TI26 rfl TI3 rfl rfl ⟨rfl, rfl⟩)) ?_
      refine WQ.c rfl ((QO.o rfl fun _ => o_ld TI3 rfl rfl (hcy 0 _ rfl) ⟨rfl, rfl⟩)) ?_
      refine WQ.c rfl ((QO.o rfl fun _ => o_eq rfl rfl ⟨rfl, rfl⟩)) ?_
      refine WQ.c rfl ((QO.o rfl fun _ => o_mvh (show _ = Value.bool _ from rfl) ⟨rfl, rfl⟩)) ?_
      refine WQ.g rfl (by simp [hk]) rfl ((QO.o rfl fun _ => o_mvh h0 ⟨rfl, rfl⟩)) ?_
      refine WQ.g rfl (by simp [hk]) rfl ((QO.o rfl fun _ => o_mvh h7 ⟨rfl, rfl⟩)) ?_
      refine WQ.g rfl (by simp [hk]) rfl ((QO.o rfl fun _ => o_ixB (i := next) TI37 TI26 (show _ = Value.slice (some ⟨ub, uo, none⟩) L.length uc from rfl) (show _ = Value.int .i64 (next : Int) from rfl) (by omega) ⟨rfl, rfl⟩)) ?_
      refine WQ.g rfl (by simp [hk]) rfl ((QO.o rfl fun _ => o_fa 3 TI26 rfl TI9 rfl rfl ⟨rfl, rfl⟩)) ?_
      refine WQ.g rfl (by simp [hk]) rfl ((QO.o rfl fun _ => o_ld TI9 rfl rfl (hct 3 _ rfl) ⟨rfl, rfl⟩)) ?_
      refine WQ.g rfl (by simp [hk]) rfl ((QO.o rfl fun _ => o_mvh h0 ⟨rfl, rfl⟩)) ?_
      refine WQ.g rfl (by simp [hk]) rfl ((QO.o rfl fun _ => o_mvh h2 ⟨rfl, rfl⟩)) ?_
      refine WQ.g rfl (by simp [hk]) rfl ((QO.o rfl fun _ => o_ixB (i := q.p) TI37 TI26 (show _ = Value.slice (some ⟨ub, uo, none⟩) L.length uc from rfl) (show _ = Value.int .i64 (q.p : Int) from rfl) (by omega) ⟨rfl, rfl⟩)) ?_
      refine WQ.g rfl (by simp [hk]) rfl ((QO.o rfl fun _ => o_fa 3 TI26 rfl TI9 rfl rfl ⟨rfl, rfl⟩)) ?_
      refine WQ.g rfl (by simp [hk]) rfl ((QO.o rfl fun _ => o_ld TI9 rfl rfl (hcq 3 _ rfl) ⟨rfl, rfl⟩)) ?_
      refine WQ.g rfl (by simp [hk]) rfl ((QO.o rfl fun _ => o_eqT rfl rfl ⟨rfl, rfl⟩)) ?_
      refine WQ.c rfl ((QO.r fun _ => r_pickA rfl rfl)) ?_
      refine WQ.c rfl ((QO.o rfl fun _ => o_mvh (show _ = Value.bool _ from rfl) ⟨rfl, rfl⟩)) ?_
      refine WQ.s rfl (by simp [hk, hl]) rfl ?_
      refine WQ.s rfl (by simp [hk, hl]) rfl ?_
      refine WQ.s rfl (by simp [hk, hl]) rfl ?_
      refine WQ.s rfl (by simp [hk, hl]) rfl ?_
      refine WQ.s rfl (by simp [hk, hl]) rfl ?_
      refine WQ.s rfl (by simp [hk, hl]) rfl ?_
      refine WQ.s rfl (by simp [hk, hl]) rfl ?_
      refine WQ.z rfl rfl ?_
      refine WQ.z rfl rfl ?_
      refine WQ.z rfl rfl ?_
      refine WQ.z rfl rfl ?_
      refine WQ.z rfl rfl ?_
      refine WQ.z rfl rfl ?_
      refine WQ.z rfl rfl ?_
      refine WQ.z rfl rfl ?_
      refine WQ.z rfl rfl ?_
      refine WQ.z rfl rfl ?_
      refine WQ.z rfl rfl ?_
      refine WQ.s rfl (by simp [hk, hl]) rfl ?_
      refine WQ.c rfl ((QO.r fun _ => r_pickT rfl (by simp [hk, hl]))) ?_
      refine WQ.nil ?_
      intro nq
      replace hx := hx.tr (Only.drewN w nq)
      replace hS := hS.ext (Only.drewN w nq)
      refine W.condT' rfl (rfl) ?_
      refine W.seq ?_
      refine W.region ?_
      refine WL.c rfl (o_ash (show _ = Value.bool _ from rfl) ?_)
      refine WL.nil ?_
      refine W.ret ?_
      refine ret1v rfl (show _ = Value.bool _ from rfl) ?_
      exact ⟨congrArg Value.bool (by rw [hqk]; exact (dupB_mem hmem hlike).symm), hx⟩
    · skip
      have hlike : dupB y.kind [t.top] q.x = false := by unfold dupB; rw [if_pos hk]; simp [hl]
      refine W.quiet rfl (by kernel_rfl) ?_
      refine WQ.c rfl ((QO.o rfl fun _ => o_mvh h0 ⟨rfl, rfl⟩)) ?_
      refine WQ.c rfl ((QO.o rfl fun _ => o_mvh h1 ⟨rfl, rfl⟩)) ?_
      refine WQ.c rfl ((QO.o rfl fun _ => o_ixB (i := i) TI37 TI26 (show _ = Value.slice (some ⟨ub, uo, none⟩) L.length uc from rfl) (show _ = Value.int .i64 (i : Int) from rfl) (by omega) ⟨rfl, rfl⟩)) ?_
      refine WQ.c rfl ((QO.o rfl fun _ => o_fa 0 TI26 rfl TI3 rfl rfl ⟨rfl, rfl⟩)) ?_
      refine WQ.c rfl ((QO.o rfl fun _ => o_ld TI3 rfl rfl (hcy 0 _ rfl) ⟨rfl, rfl⟩)) ?_
      refine WQ.c rfl ((QO.o rfl fun _ => o_eq rfl rfl ⟨rfl, rfl⟩)) ?_
      refine WQ.c rfl ((QO.o rfl fun _ => o_mvh (show _ = Value.bool _ from rfl) ⟨rfl, rfl⟩)) ?_
      refine WQ.g rfl (by simp [hk]) rfl ((QO.o rfl fun _ => o_mvh h0 ⟨rfl, rfl⟩)) ?_
      refine WQ.g rfl (by simp [hk]) rfl ((QO.o rfl fun _ => o_mvh h7 ⟨rfl, rfl⟩)) ?_
      refine WQ.g rfl (by simp [hk]) rfl ((QO.o rfl fun _ => o_ixB (i := next) TI37 TI26 (show _ = Value.slice (some ⟨ub, uo, none⟩) L.length uc from rfl) (show _ = Value.int .i64 (next : Int) from rfl) (by omega) ⟨rfl, rfl⟩)) ?_
      refine WQ.g rfl (by simp [hk]) rfl ((QO.o rfl fun _ => o_fa 3 TI26 rfl TI9 rfl rfl ⟨rfl, rfl⟩)) ?_
      refine WQ.g rfl (by simp [hk]) rfl ((QO.o rfl fun _ => o_ld TI9 rfl rfl (hct 3 _ rfl) ⟨rfl, rfl⟩)) ?_
      refine WQ.g rfl (by simp [hk]) rfl ((QO.o rfl fun _ => o_mvh h0 ⟨rfl, rfl⟩)) ?_
      refine WQ.g rfl (by simp [hk]) rfl ((QO.o rfl fun _ => o_mvh h2 ⟨rfl, rfl⟩)) ?_
      refine WQ.g rfl (by simp [hk]) rfl ((QO.o rfl fun _ => o_ixB (i := q.p) TI37 TI26 (show _ = Value.slice (some ⟨ub, uo, none⟩) L.length uc from rfl) (show _ = Value.int .i64 (q.p : Int) from rfl) (by omega) ⟨rfl, rfl⟩)) ?_
      refine WQ.g rfl (by simp [hk]) rfl ((QO.o rfl fun _ => o_fa 3 TI26 rfl TI9 rfl rfl ⟨rfl, rfl⟩)) ?_
      refine WQ.g rfl (by simp [hk]) rfl ((QO.o rfl fun _ => o_ld TI9 rfl rfl (hcq 3 _ rfl) ⟨rfl, rfl⟩)) ?_
      refine WQ.g rfl (by simp [hk]) rfl ((QO.o rfl fun _ => o_eqT rfl rfl ⟨rfl, rfl⟩)) ?_
      refine WQ.c rfl ((QO.r fun _ => r_pickA rfl rfl)) ?_
      refine WQ.c rfl ((QO.o rfl fun _ => o_mvh (show _ = Value.bool _ from rfl) ⟨rfl, rfl⟩)) ?_
      refine WQ.g rfl (by simp [hk, hl]) rfl ((QO.o rfl fun _ => o_mvh h0 ⟨rfl, rfl⟩)) ?_
      refine WQ.g rfl (by simp [hk, hl]) rfl ((QO.o rfl fun _ => o_mvh h1 ⟨rfl, rfl⟩)) ?_
      refine WQ.g rfl (by simp [hk, hl]) rfl ((QO.o rfl fun _ => o_ixB (i := i) TI37 TI26 (show _ = Value.slice (some ⟨ub, uo, none⟩) L.length uc from rfl) (show _ = Value.int .i64 (i : Int) from rfl) (by omega) ⟨rfl, rfl⟩)) ?_
      refine WQ.g rfl (by simp [hk, hl]) rfl ((QO.o rfl fun _ => o_fa 0 TI26 rfl TI3 rfl rfl ⟨rfl, rfl⟩)) ?_
      refine WQ.g rfl (by simp [hk, hl]) rfl ((QO.o rfl fun _ => o_ld TI3 rfl rfl (hcy 0 _ rfl) ⟨rfl, rfl⟩)) ?_
      refine WQ.g rfl (by simp [hk, hl]) rfl ((QO.o rfl fun _ => o_eq rfl rfl ⟨rfl, rfl⟩)) ?_
      refine WQ.g rfl (by simp [hk, hl]) rfl ((QO.o rfl fun _ => o_mvh (show _ = Value.bool _ from rfl) ⟨rfl, rfl⟩)) ?_
      refine WQ.s rfl (by simp [hk]) rfl ?_
      refine WQ.s rfl (by simp [hk]) rfl ?_
      refine WQ.s rfl (by simp [hk]) rfl ?_
      refine WQ.s rfl (by simp [hk]) rfl ?_
      refine WQ.s rfl (by simp [hk]) rfl ?_
      refine WQ.s rfl (by simp [hk]) rfl ?_
      refine WQ.s rfl (by simp [hk]) rfl ?_
      refine WQ.s rfl (by simp [hk]) rfl ?_
      refine WQ.s rfl (by simp [hk]) rfl ?_
      refine WQ.s rfl (by simp [hk]) rfl ?_
      refine WQ.s rfl (by simp [hk]) rfl ?_
      refine WQ.g rfl (by simp [hk, hl]) rfl ((QO.r fun _ => r_pickF rfl (by simp [hk]))) ?_
      refine WQ.c rfl ((QO.r fun _ => r_pickO rfl rfl)) ?_
      refine WQ.nil ?_
      intro nq
      replace hx := hx.tr (Only.drewN w nq)
      replace hS := hS.ext (Only.drewN w nq)
      refine W.condF' rfl (by simp [hk, hl]) ?_
      refine W.skip ?_
      refine W.region ?_
      refine WL.c rfl (o_mvh h0 ?_)
      refine WL.c rfl (o_mvh h7 ?_)
      refine WL.c rfl (o_call Try.call58 (lc rfl (lc rfl ln)) ((behind_all _ t (Nat.le_refl _) L (ts2.flat ++ rest) (Value.slice (some ⟨ub, uo, none⟩) L.length uc) next _ _ _ hwt.1 hdr hS hLl).mono ?_))
      rintro v55 w55 ⟨rfl, hx55⟩
      replace hx := hx.tr hx55
      replace hS := hS.ext hx55
      refine WL.c rfl (o_ash (show _ = Value.int _ _ from rfl) ?_)
      refine WL.nil ?_
      refine ⟨⟨next + t.flat.length, ts2, seen ++ [t.top], aa, dd, h0, h1, h2, rfl, hS, hwt.2, hdr2, hq2, by rw [dupB_snoc, hds, hlike]; rfl, hx⟩, ?_⟩
      show q.p - ((next + t.flat.length : Nat) : Int).toNat < _
      rw [hm7]; simp [intOf]; omega
    · skip
      have hlike : dupB y.kind [t.top] q.x = true := by unfold dupB; rw [if_neg (by omega), if_pos hk]; simp [hl]
      refine W.quiet rfl (by kernel_rfl) ?_
      refine WQ.c rfl ((QO.o rfl fun _ => o_mvh h0 ⟨rfl, rfl⟩)) ?_
      refine WQ.c rfl ((QO.o rfl fun _ => o_mvh h1 ⟨rfl, rfl⟩)) ?_
      refine WQ.c rfl ((QO.o rfl fun _ => o_ixB (i := i) TI37 TI26 (show _ = Value.slice (some ⟨ub, uo, none⟩) L.length uc from rfl) (show _ = Value.int .i64 (i : Int) from rfl) (by omega) ⟨rfl, rfl⟩)) ?_
      refine WQ.c rfl ((QO.o rfl fun _ => o_fa 0 TI26 rfl TI3 rfl rfl ⟨rfl, rfl⟩)) ?_
      refine WQ.c rfl ((QO.o rfl fun _ => o_ld TI3 rfl rfl (hcy 0 _ rfl) ⟨rfl, rfl⟩)) ?_
      refine WQ.c rfl ((QO.o rfl fun _ => o_eq rfl rfl ⟨rfl, rfl⟩)) ?_
      refine WQ.c rfl ((QO.o rfl fun _ => o_mvh (show _ = Value.bool _ from rfl) ⟨rfl, rfl⟩)) ?_
      refine WQ.s rfl (by simp [hk]) rfl ?_
      refine WQ.s rfl (by simp [hk]) rfl ?_
      refine WQ.s rfl (by simp [hk]) rfl ?_
      refine WQ.s rfl (by simp [hk]) rfl ?_
      refine WQ.s rfl (by simp [hk]) rfl ?_
      refine WQ.s rfl (by simp [hk]) rfl ?_
      refine WQ.s rfl (by simp [hk]) rfl ?_
      refine WQ.s rfl (by simp [hk]) rfl ?_
      refine WQ.s rfl (by simp [hk]) rfl ?_
      refine WQ.s rfl (by simp [hk]) rfl ?_
      refine WQ.s rfl (by simp [hk]) rfl ?_
      refine WQ.c rfl ((QO.r fun _ => r_pickF rfl (by simp [hk]))) ?_
      refine WQ.c rfl ((QO.o rfl fun _ => o_mvh (show _ = Value.bool _ from rfl) ⟨rfl, rfl⟩)) ?_
      refine WQ.g rfl (rfl) rfl ((QO.o rfl fun _ => o_mvh h0 ⟨rfl, rfl⟩)) ?_
      refine WQ.g rfl (rfl) rfl ((QO.o rfl fun _ => o_mvh h1 ⟨rfl, rfl⟩)) ?_
      refine WQ.g rfl (rfl) rfl ((QO.o rfl fun _ => o_ixB (i := i) TI37 TI26 (show _ = Value.slice (some ⟨ub, uo, none⟩) L.length uc from rfl) (show _ = Value.int .i64 (i : Int) from rfl) (by omega) ⟨rfl, rfl⟩)) ?_
      refine WQ.g rfl (rfl) rfl ((QO.o rfl fun _ => o_fa 0 TI26 rfl TI3 rfl rfl ⟨rfl, rfl⟩)) ?_
      refine WQ.g rfl (rfl) rfl ((QO.o rfl fun _ => o_ld TI3 rfl rfl (hcy 0 _ rfl) ⟨rfl, rfl⟩)) ?_
      refine WQ.g rfl (rfl) rfl ((QO.o rfl fun _ => o_eq rfl rfl ⟨rfl, rfl⟩)) ?_
      refine WQ.g rfl (rfl) rfl ((QO.o rfl fun _ => o_mvh (show _ = Value.bool _ from rfl) ⟨rfl, rfl⟩)) ?_
      refine WQ.g rfl (by simp [hk]) rfl ((QO.o rfl fun _ => o_mvh h0 ⟨rfl, rfl⟩)) ?_
      refine WQ.g rfl (by simp [hk]) rfl ((QO.o rfl fun _ => o_mvh h7 ⟨rfl, rfl⟩)) ?_
      refine WQ.g rfl (by simp [hk]) rfl ((QO.o rfl fun _ => o_ixB (i := next) TI37 TI26 (show _ = Value.slice (some ⟨ub, uo, none⟩) L.length uc from rfl) (show _ = Value.int .i64 (next : Int) from rfl) (by omega) ⟨rfl, rfl⟩)) ?_
      refine WQ.g rfl (by simp [hk]) rfl ((QO.o rfl fun _ => o_fa 4 TI26 rfl TI3 rfl rfl ⟨rfl, rfl⟩)) ?_
      refine WQ.g rfl (by simp [hk]) rfl ((QO.o rfl fun _ => o_ld TI3 rfl rfl (hct 4 _ rfl) ⟨rfl, rfl⟩)) ?_
      refine WQ.g rfl (by simp [hk]) rfl ((QO.o rfl fun _ => o_mvh h0 ⟨rfl, rfl⟩)) ?_
      refine WQ.g rfl (by simp [hk]) rfl ((QO.o rfl fun _ => o_mvh h2 ⟨rfl, rfl⟩)) ?_
      refine WQ.g rfl (by simp [hk]) rfl ((QO.o rfl fun _ => o_ixB (i := q.p) TI37 TI26 (show _ = Value.slice (some ⟨ub, uo, none⟩) L.length uc from rfl) (show _ = Value.int .i64 (q.p : Int) from rfl) (by omega) ⟨rfl, rfl⟩)) ?_
      refine WQ.g rfl (by simp [hk]) rfl ((QO.o rfl fun _ => o_fa 4 TI26 rfl TI3 rfl rfl ⟨rfl, rfl⟩)) ?_
      refine WQ.g rfl (by simp [hk]) rfl ((QO.o rfl fun _ => o_ld TI3 rfl rfl (hcq 4 _ rfl) ⟨rfl, rfl⟩)) ?_
      refine WQ.g rfl (by simp [hk]) rfl ((QO.o rfl fun _ => o_eq rfl rfl ⟨rfl, rfl⟩)) ?_
      refine WQ.g rfl (rfl) rfl ((QO.r fun _ => r_pickA rfl rfl)) ?_
      refine WQ.c rfl ((QO.r fun _ => r_pickO rfl rfl)) ?_
      refine WQ.nil ?_
      intro nq
      replace hx := hx.tr (Only.drewN w nq)
      replace hS := hS.ext (Only.drewN w nq)
      refine W.condT' rfl (by simp [hk, hl]) ?_
      refine W.seq ?_
      refine W.region ?_
      refine WL.c rfl (o_ash (show _ = Value.bool _ from rfl) ?_)
      refine WL.nil ?_
      refine W.ret ?_
      refine ret1v rfl (show _ = Value.bool _ from rfl) ?_
      exact ⟨congrArg Value.bool (by rw [hqk]; exact (dupB_mem hmem hlike).symm), hx⟩
    · skip
      have hlike : dupB y.kind [t.top] q.x = false := by unfold dupB; rw [if_neg (by omega), if_pos hk]; simp [hl]
      refine W.quiet rfl (by kernel_rfl) ?_
      refine WQ.c rfl ((QO.o rfl fun _ => o_mvh h0 ⟨rfl, rfl⟩)) ?_
      refine WQ.c rfl ((QO.o rfl fun _ => o_mvh h1 ⟨rfl, rfl⟩)) ?_
      refine WQ.c rfl ((QO.o rfl fun _ => o_ixB (i := i) TI37 TI26 (show _ = Value.slice (some ⟨ub, uo, none⟩) L.length uc from rfl) (show _ = Value.int .i64 (i : Int) from rfl) (by omega) ⟨rfl, rfl⟩)) ?_
      refine WQ.c rfl ((QO.o rfl fun _ => o_fa 0 TI26 rfl TI3 rfl rfl ⟨rfl, rfl⟩)) ?_
      refine WQ.c rfl ((QO.o rfl fun _ => o_ld TI3 rfl rfl (hcy 0 _ rfl) ⟨rfl, rfl⟩)) ?_
      refine WQ.c rfl ((QO.o rfl fun _ => o_eq rfl rfl ⟨rfl, rfl⟩)) ?_
      refine WQ.c rfl ((QO.o rfl fun _ => o_mvh (show _ = Value.bool _ from rfl) ⟨rfl, rfl⟩)) ?_
      refine WQ.s rfl (by simp [hk]) rfl ?_
      refine WQ.s rfl (by simp [hk]) rfl ?_
      refine WQ.s rfl (by simp [hk]) rfl ?_
      refine WQ.s rfl (by simp [hk]) rfl ?_
      refine WQ.s rfl (by simp [hk]) rfl ?_
      refine WQ.s rfl (by simp [hk]) rfl ?_
      refine WQ.s rfl (by simp [hk]) rfl ?_
      refine WQ.s rfl (by simp [hk]) rfl ?_
      refine WQ.s rfl (by simp [hk]) rfl ?_
      refine WQ.s rfl (by simp [hk]) rfl ?_
      refine WQ.s rfl (by simp [hk]) rfl ?_
      refine WQ.c rfl ((QO.r fun _ => r_pickF rfl (by simp [hk]))) ?_
      refine WQ.c rfl ((QO.o rfl fun _ => o_mvh (show _ = Value.bool _ from rfl) ⟨rfl, rfl⟩)) ?_
      refine WQ.g rfl (rfl) rfl ((QO.o rfl fun _ => o_mvh h0 ⟨rfl, rfl⟩)) ?_
      refine WQ.g rfl (rfl) rfl ((QO.o rfl fun _ => o_mvh h1 ⟨rfl, rfl⟩)) ?_
      refine WQ.g rfl (rfl) rfl ((QO.o rfl fun _ => o_ixB (i := i) TI37 TI26 (show _ = Value.slice (some ⟨ub, uo, none⟩) L.length uc from rfl) (show _ = Value.int .i64 (i : Int) from rfl) (by omega) ⟨rfl, rfl⟩)) ?_
      refine WQ.g rfl (rfl) rfl ((QO.o rfl fun _ => o_fa 0 TI26 rfl TI3 rfl rfl ⟨rfl, rfl⟩)) ?_
      refine WQ.g rfl (rfl) rfl ((QO.o rfl fun _ => o_ld TI3 rfl rfl (hcy 0 _ rfl) ⟨rfl, rfl⟩)) ?_
      refine WQ.g rfl (rfl) rfl ((QO.o rfl fun _ => o_eq rfl rfl ⟨rfl, rfl⟩)) ?_
      refine WQ.g rfl (rfl) rfl ((QO.o rfl fun _ => o_mvh (show _ = Value.bool _ from rfl) ⟨rfl, rfl⟩)) ?_
      refine WQ.g rfl (by simp [hk]) rfl ((QO.o rfl fun _ => o_mvh h0 ⟨rfl, rfl⟩)) ?_
      refine WQ.g rfl (by simp [hk]) rfl ((QO.o rfl fun _ => o_mvh h7 ⟨rfl, rfl⟩)) ?_
      refine WQ.g rfl (by simp [hk]) rfl ((QO.o rfl fun _ => o_ixB (i := next) TI37 TI26 (show _ = Value.slice (some ⟨ub, uo, none⟩) L.length uc from rfl) (show _ = Value.int .i64 (next : Int) from rfl) (by omega) ⟨rfl, rfl⟩)) ?_
      refine WQ.g rfl (by simp [hk]) rfl ((QO.o rfl fun _ => o_fa 4 TI26 rfl TI3 rfl rfl ⟨rfl, rfl⟩)) ?_
      refine WQ.g rfl (by simp [hk]) rfl ((QO.o rfl fun _ => o_ld TI3 rfl rfl (hct 4 _ rfl) ⟨rfl, rfl⟩)) ?_
      refine WQ.g rfl (by simp [hk]) rfl ((QO.o rfl fun _ => o_mvh h0 ⟨rfl, rfl⟩)) ?_
      refine WQ.g rfl (by simp [hk]) rfl ((QO.o rfl fun _ => o_mvh h2 ⟨rfl, rfl⟩)) ?_
      refine WQ.g rfl (by simp [hk]) rfl ((QO.o rfl fun _ => o_ixB (i := q.p) TI37 TI26 (show _ = Value.slice (some ⟨ub, uo, none⟩) L.length uc from rfl) (show _ = Value.int .i64 (q.p : Int) from rfl) (by omega) ⟨rfl, rfl⟩)) ?_
      refine WQ.g rfl (by simp [hk]) rfl ((QO.o rfl fun _ => o_fa 4 TI26 rfl TI3 rfl rfl ⟨rfl, rfl⟩)) ?_
      refine WQ.g rfl (by simp [hk]) rfl ((QO.o rfl fun _ => o_ld TI3 rfl rfl (hcq 4 _ rfl) ⟨rfl, rfl⟩)) ?_
      refine WQ.g rfl (by simp [hk]) rfl ((QO.o rfl fun _ => o_eq rfl rfl ⟨rfl, rfl⟩)) ?_
      refine WQ.g rfl (rfl) rfl ((QO.r fun _ => r_pickA rfl rfl)) ?_
      refine WQ.c rfl ((QO.r fun _ => r_pickO rfl rfl)) ?_
      refine WQ.nil ?_
      intro nq
      replace hx := hx.tr (Only.drewN w nq)
      replace hS := hS.ext (Only.drewN w nq)
      refine W.condF' rfl (by simp [hk, hl]) ?_
      refine W.skip ?_
      refine W.region ?_
      refine WL.c rfl (o_mvh h0 ?_)
      refine WL.c rfl (o_mvh h7 ?_)
      refine WL.c rfl (o_call Try.call58 (lc rfl (lc rfl ln)) ((behind_all _ t (Nat.le_refl _) L (ts2.flat ++ rest) (Value.slice (some ⟨ub, uo, none⟩) L.length uc) next _ _ _ hwt.1 hdr hS hLl).mono ?_))
      rintro v55 w55 ⟨rfl, hx55⟩
      replace hx := hx.tr hx55
      replace hS := hS.ext hx55
      refine WL.c rfl (o_ash (show _ = Value.int _ _ from rfl) ?_)
      refine WL.nil ?_
      refine ⟨⟨next + t.flat.length, ts2, seen ++ [t.top], aa, dd, h0, h1, h2, rfl, hS, hwt.2, hdr2, hq2, by rw [dupB_snoc, hds, hlike]; rfl, hx⟩, ?_⟩
      show q.p - ((next + t.flat.length : Nat) : Int).toNat < _
      rw [hm7]; simp [intOf]; omega
    · skip
      have hlike : dupB y.kind [t.top] q.x = false := by unfold dupB; rw [if_neg hk8, if_neg hk7]
      refine W.quiet rfl (by kernel_rfl) ?_
      refine WQ.c rfl ((QO.o rfl fun _ => o_mvh h0 ⟨rfl, rfl⟩)) ?_
      refine WQ.c rfl ((QO.o rfl fun _ => o_mvh h1 ⟨rfl, rfl⟩)) ?_
      refine WQ.c rfl ((QO.o rfl fun _ => o_ixB (i := i) TI37 TI26 (show _ = Value.slice (some ⟨ub, uo, none⟩) L.length uc from rfl) (show _ = Value.int .i64 (i : Int) from rfl) (by omega) ⟨rfl, rfl⟩)) ?_
      refine WQ.c rfl ((QO.o rfl fun _ => o_fa 0 TI26 rfl TI3 rfl rfl ⟨rfl, rfl⟩)) ?_
      refine WQ.c rfl ((QO.o rfl fun _ => o_ld TI3 rfl rfl (hcy 0 _ rfl) ⟨rfl, rfl⟩)) ?_
      refine WQ.c rfl ((QO.o rfl fun _ => o_eq rfl rfl ⟨rfl, rfl⟩)) ?_
      refine WQ.c rfl ((QO.o rfl fun _ => o_mvh (show _ = Value.bool _ from rfl) ⟨rfl, rfl⟩)) ?_
      refine WQ.s rfl (by simp [hk8]) rfl ?_
      refine WQ.s rfl (by simp [hk8]) rfl ?_
      refine WQ.s rfl (by simp [hk8]) rfl ?_
      refine WQ.s rfl (by simp [hk8]) rfl ?_
      refine WQ.s rfl (by simp [hk8]) rfl ?_
      refine WQ.s rfl (by simp [hk8]) rfl ?_
      refine WQ.s rfl (by simp [hk8]) rfl ?_
      refine WQ.s rfl (by simp [hk8]) rfl ?_
      refine WQ.s rfl (by simp [hk8]) rfl ?_
      refine WQ.s rfl (by simp [hk8]) rfl ?_
      refine WQ.s rfl (by simp [hk8]) rfl ?_
      refine WQ.c rfl ((QO.r fun _ => r_pickF rfl (by simp [hk8]))) ?_
      refine WQ.c rfl ((QO.o rfl fun _ => o_mvh (show _ = Value.bool _ from rfl) ⟨rfl, rfl⟩)) ?_
      refine WQ.g rfl (rfl) rfl ((QO.o rfl fun _ => o_mvh h0 ⟨rfl, rfl⟩)) ?_
      refine WQ.g rfl (rfl) rfl ((QO.o rfl fun _ => o_mvh h1 ⟨rfl, rfl⟩)) ?_
      refine WQ.g rfl (rfl) rfl ((QO.o rfl fun _ => o_ixB (i := i) TI37 TI26 (show _ = Value.slice (some ⟨ub, uo, none⟩) L.length uc from rfl) (show _ = Value.int .i64 (i : Int) from rfl) (by omega) ⟨rfl, rfl⟩)) ?_
      refine WQ.g rfl (rfl) rfl ((QO.o rfl fun _ => o_fa 0 TI26 rfl TI3 rfl rfl ⟨rfl, rfl⟩)) ?_
      refine WQ.g rfl (rfl) rfl ((QO.o rfl fun _ => o_ld TI3 rfl rfl (hcy 0 _ rfl) ⟨rfl, rfl⟩)) ?_
      refine WQ.g rfl (rfl) rfl ((QO.o rfl fun _ => o_eq rfl rfl ⟨rfl, rfl⟩)) ?_
      refine WQ.g rfl (rfl) rfl ((QO.o rfl fun _ => o_mvh (show _ = Value.bool _ from rfl) ⟨rfl, rfl⟩)) ?_
      refine WQ.s rfl (by simp [hk7]) rfl ?_
      refine WQ.s rfl (by simp [hk7]) rfl ?_
      refine WQ.s rfl (by simp [hk7]) rfl ?_
      refine WQ.s rfl (by simp [hk7]) rfl ?_
      refine WQ.s rfl (by simp [hk7]) rfl ?_
      refine WQ.s rfl (by simp [hk7]) rfl ?_
      refine WQ.s rfl (by simp [hk7]) rfl ?_
      refine WQ.s rfl (by simp [hk7]) rfl ?_
      refine WQ.s rfl (by simp [hk7]) rfl ?_
      refine WQ.s rfl (by simp [hk7]) rfl ?_
      refine WQ.s rfl (by simp [hk7]) rfl ?_
      refine WQ.g rfl (rfl) rfl ((QO.r fun _ => r_pickF rfl (by simp [hk7]))) ?_
      refine WQ.c rfl ((QO.r fun _ => r_pickO rfl rfl)) ?_
      refine WQ.nil ?_
      intro nq
      replace hx := hx.tr (Only.drewN w nq)
      replace hS := hS.ext (Only.drewN w nq)
      refine W.condF' rfl (by simp [hk8, hk7]) ?_
      refine W.skip ?_
      refine W.region ?_
      refine WL.c rfl (o_mvh h0 ?_)
      refine WL.c rfl (o_mvh h7 ?_)
      refine WL.c rfl (o_call Try.call58 (lc rfl (lc rfl ln)) ((behind_all _ t (Nat.le_refl _) L (ts2.flat ++ rest) (Value.slice (some ⟨ub, uo, none⟩) L.length uc) next _ _ _ hwt.1 hdr hS hLl).mono ?_))
      rintro v55 w55 ⟨rfl, hx55⟩
      replace hx := hx.tr hx55
      replace hS := hS.ext hx55
      refine WL.c rfl (o_ash (show _ = Value.int _ _ from rfl) ?_)
      refine WL.nil ?_
      refine ⟨⟨next + t.flat.length, ts2, seen ++ [t.top], aa, dd, h0, h1, h2, rfl, hS, hwt.2, hdr2, hq2, by rw [dupB_snoc, hds, hlike]; rfl, hx⟩, ?_⟩
      show q.p - ((next + t.flat.length : Nat) : Int).toNat < _
      rw [hm7]; simp [intOf]; omega
  · try simp only [cs8] at c12
    have hpe : q.p = next := by have := (topK_kind hq).2.2.1; omega
    have hse := topK_head hq hpe
    refine W.exit ?_
    refine W.seq ?_
    refine W.region ?_
    refine WL.c rfl (o_ash (show _ = Value.bool _ from rfl) ?_)
    refine WL.nil ?_
    refine W.ret ?_
    refine ret1v rfl (show _ = Value.bool _ from rfl) ?_
    exact ⟨congrArg Value.bool (by rw [hqk, hse]; exact hds.symm), hx⟩
set_option maxHeartbeats 2000000 in
theorem parents_spec (t : Tr) (L : List Ex) (v : Value) (aa : Int) (dd : Nat) (w0 : World) (hw : t.wf aa dd) (hL : L = t.flat) (hS : Sl w0 7 v L.length (exs L)) (hLl : L.length * 72 ≤ 140737488351232) : Ca Try.prog 44 #[v] w0 (fun u w' => ∃ f : Nat → Int, w'.ownsRow w0.heap.size 3 1 u L.length (pz L.length f) ∧ Snd t L.length f ∧ Cmp t L.length f ∧ Ext w0 w') := by
  have hx : Ext w0 w0 := Only.refl _ _
  have hL0 : 0 < L.length := by rw [hL]; exact tr_pos t
  obtain ⟨ub, uo, uc, rfl, huc⟩ := Sl.exq hS hL0
  clear huc
  have hS00 := hS
  obtain ⟨B, hB⟩ : ∃ B, B = w0.heap.size := ⟨_, rfl⟩
  rw [← hB]
  refine Ca.of Try.func44 Try.ntmps44 rfl rfl ?_
  refine W.seq ?_
  refine W.region ?_
  refine WL.c rfl (o_ash (by first | exact (show _ = Value.slice _ _ _ from rfl) | exact rfl) ?_)
  refine WL.nil ?_
  refine W.seq ?_
  refine W.region ?_
  refine WL.c rfl (o_mvh (by first | exact (show _ = Value.slice _ _ _ from rfl) | exact rfl) ?_)
  refine WL.c rfl (o_len TI37 rfl ?_)
  refine WL.c rfl (o_mk2 TI34 TI3 (l := L.length) (n := L.length) rfl rfl (Nat.le_refl _) (by omega) (by omega) ?_)
  have hro := own_made1 (w := w0) (el := 3) (l := L.length) (n := L.length) (z := .int .i64 0) rfl (Nat.le_refl _) (by omega)
  have hxb : Ext w0 (w0.alloc (.cells (madeCells (Value.int .i64 0).cells (L.length * 1)) 3)) := Only.alloc w0 _
  generalize w0.alloc (.cells (madeCells (Value.int .i64 0).cells (L.length * 1)) 3) = wt at hro hxb ⊢
  rw [← pz_zero, ← hB] at hro
  rw [← hB]
  replace hx := hx.tr hxb
  replace hS := hS.ext hxb
  have hBt : w0.heap.size ≤ B := by omega
  refine WL.c rfl (o_ash (by first | exact (show _ = Value.slice _ _ _ from rfl) | exact rfl) ?_)
  refine WL.nil ?_
  refine W.seq ?_
  refine W.seq ?_
  refine W.region ?_
  refine WL.c rfl (o_ash (show _ = Value.int _ _ from rfl) ?_)
  refine WL.nil ?_
  refine W.block ?_
  refine W.loop (fun e w => ∃ (i : Nat) (f : Nat → Int), i ≤ L.length ∧ e 0 = (Value.slice (some ⟨ub, uo, none⟩) L.length uc) ∧ e 3 = .slice (some ⟨B, 0, none⟩) L.length L.length ∧ e 4 = .int .i64 (i : Int) ∧ w.ownsRow B 3 1 (.slice (some ⟨B, 0, none⟩) L.length L.length) L.length (pz L.length f) ∧ (∀ j, j < i → f j = -1) ∧ Sl w 7 (Value.slice (some ⟨ub, uo, none⟩) L.length uc) L.length (exs L) ∧ Ext w0 w) (fun e w => L.length - (intOf (e 4)).toNat) ?_ ?_
  · exact ⟨0, _, Nat.zero_le _, rfl, rfl, rfl, hro, fun j hj => by omega, hS, hx⟩
  rintro e w ⟨i, f, hi, h0, h3, h4, hro, hf, hS, hx⟩
  have hm4 := h4
  refine W.seq ?_
  refine W.seq ?_
  refine W.region ?_
  refine WL.c rfl (o_mvh h4 ?_)
  refine WL.c rfl (o_mvh h0 ?_)
  refine WL.c rfl (o_len TI37 rfl ?_)
  refine WL.c rfl (o_lt rfl rfl ?_)
  refine WL.nil ?_
  refine W.cond rfl (fun c14 => ?_) (fun c14 => ?_)
  · try simp only [cs8] at c14
    have hi1 : i < L.length := by omega
    refine W.skip ?_
    refine W.seq ?_
    refine W.block ?_
    refine W.region ?_
    refine WL.c rfl (o_mvh h3 ?_)
    refine WL.c rfl (o_mvh h4 ?_)
    refine WL.c rfl (o_ixB (i := i) TI34 TI3 (show _ = Value.slice (some ⟨B, 0, none⟩) L.length L.length from rfl) (show _ = Value.int .i64 (i : Int) from rfl) (by omega) ?_)
    refine WL.u (o_stR1 (i := i) TI3 rfl (by omega) (show _ = zv (-1) from rfl) rfl hro rfl hi1 ?_)
    intro wq hrq hoq hsq
    rw [pz_set] at hrq
    replace hx := hx.trans' hoq (fun _ h => h) (fun b hb he => by
      have : B = b := by simpa [Value.ownBlock] using he
      omega)
    replace hS := hS00.ext hx
    clear hro
    have hro := hrq
    refine WL.nil ?_
    refine W.region ?_
    refine WL.c rfl (o_mvh h4 ?_)
    refine WL.c rfl (o_addi rfl rfl (by omega) ?_)
    refine WL.c rfl (o_ash (show _ = Value.int _ _ from rfl) ?_)
    refine WL.nil ?_
    refine ⟨⟨i + 1, _, by omega, h0, h3, rfl, hro, fun j hj => ?_, hS, hx⟩, ?_⟩
    · unfold updI
      by_cases e : j = i
      · rw [if_pos e]
      · rw [if_neg e]; exact hf j (by omega)
    · show L.length - ((i : Int) + 1).toNat < _
      rw [hm4]; simp [intOf]; omega
  · try simp only [cs8] at c14
    have hi1 : i = L.length := by omega
    have hsnd : Snd t L.length f := fun j hj => .inl (hf j (by omega))
    have hcmp : Cmp t 0 f := fun e he hk hi => by omega
    refine W.exit ?_
    refine W.seq ?_
    refine W.seq ?_
    refine W.region ?_
    refine WL.c rfl (o_ash (show _ = Value.int _ _ from rfl) ?_)
    refine WL.nil ?_
    refine W.block ?_
    refine W.loop (fun e w => ∃ (i : Nat) (f : Nat → Int), i ≤ L.length ∧ e 0 = (Value.slice (some ⟨ub, uo, none⟩) L.length uc) ∧ e 3 = .slice (some ⟨B, 0, none⟩) L.length L.length ∧ e 5 = .int .i64 (i : Int) ∧ w.ownsRow B 3 1 (.slice (some ⟨B, 0, none⟩) L.length L.length) L.length (pz L.length f) ∧ Snd t L.length f ∧ Cmp t i f ∧ Sl w 7 (Value.slice (some ⟨ub, uo, none⟩) L.length uc) L.length (exs L) ∧ Ext w0 w) (fun e w => L.length - (intOf (e 5)).toNat) ?_ ?_
    · exact ⟨0, f, Nat.zero_le _, h0, h3, rfl, hro, hsnd, hcmp, hS, hx⟩
    rintro e w ⟨i, f, hi, h0, h3, h5, hro, hsnd, hcmp, hS, hx⟩
    have hm5 := h5
    refine W.seq ?_
    refine W.seq ?_
    refine W.region ?_
    refine WL.c rfl (o_mvh h5 ?_)
    refine WL.c rfl (o_mvh h0 ?_)
    refine WL.c rfl (o_len TI37 rfl ?_)
    refine WL.c rfl (o_lt rfl rfl ?_)
    refine WL.nil ?_
    refine W.cond rfl (fun c23 => ?_) (fun c23 => ?_)
    · try simp only [cs8] at c23
      have hi1 : i < L.length := by omega
      obtain ⟨y, ks, r, a2, d2, hwn, hdn, hkid⟩ := sub_kid t 0 i aa dd hw (Nat.zero_le _) (by rw [Nat.zero_add, ← hL]; exact hi1)
      rw [Nat.sub_zero, ← hL] at hdn
      obtain ⟨hat, hya, hL1⟩ := drop_at (show L.drop i = y :: (ks.flat ++ r) from hdn)
      have hkk : y.kids = (ks.len : Int) := hwn.2.2.2.1.symm
      have hksl : ks.flat.length ≤ L.length := by have h1 := congrArg List.length hL1; simp at h1; omega
      have hlk := trs_len_le ks
      refine W.skip ?_
      refine W.seq ?_
      refine W.block ?_
      refine W.seq ?_
      refine W.region ?_
      refine WL.c rfl (o_mvh h5 ?_)
      refine WL.c rfl (o_addi rfl rfl (by omega) ?_)
      refine WL.c rfl (o_ash (show _ = Value.int _ _ from rfl) ?_)
      refine WL.nil ?_
      refine W.seq ?_
      refine W.region ?_
      refine WL.c rfl (o_ash (show _ = Value.int _ _ from rfl) ?_)
      refine WL.nil ?_
      refine W.block ?_
      refine W.loop (fun e w => ∃ (k next : Nat) (ts : Trs) (seen : List Ex) (f : Nat → Int), ks.len = k + ts.len ∧ e 0 = (Value.slice (some ⟨ub, uo, none⟩) L.length uc) ∧ e 3 = .slice (some ⟨B, 0, none⟩) L.length L.length ∧ e 5 = .int .i64 (i : Int) ∧ e 6 = .int .i64 (next : Int) ∧ e 7 = .int .i64 (k : Int) ∧ w.ownsRow B 3 1 (.slice (some ⟨B, 0, none⟩) L.length L.length) L.length (pz L.length f) ∧ Snd t L.length f ∧ Cmp t i f ∧ ts.wf y.kind (d2 + 1) ∧ L.drop next = ts.flat ++ r ∧ (∀ e ∈ topK i y.kind ts next seen, e ∈ topK i y.kind ks (i + 1) []) ∧ (k8 y.kind → ∀ e ∈ topK i y.kind ks (i + 1) [], e ∈ topK i y.kind ts next seen ∨ f e.p = (i : Int)) ∧ Sl w 7 (Value.slice (some ⟨ub, uo, none⟩) L.length uc) L.length (exs L) ∧ Ext w0 w) (fun e w => ks.len - (intOf (e 7)).toNat) ?_ ?_
      · exact ⟨0, i + 1, ks, [], f, by omega, h0, h3, h5, rfl, rfl, hro, hsnd, hcmp, hwn.2.2.2.2, hL1, fun e he => he, fun _ e he => .inl he, hS, hx⟩
      rintro e w ⟨k, next, ts, seen, f, hks, h0, h3, h5, h6, h7, hro, hsnd, hcmp, hwt, hLn, hsub, hdone, hS, hx⟩
      have hm7 := h7
      have huc := Sl.exw hS hat
      rw [hya] at huc
      have hcK : w.cell? ⟨ub, uo + i * 7 + 5, none⟩ = some (.int .i64 (ks.len : Int)) := by rw [← hkk]; exact huc 5 _ rfl
      refine W.seq ?_
      refine W.seq ?_
      refine W.region ?_
      refine WL.c rfl (o_mvh h7 ?_)
      refine WL.c rfl (o_mvh h0 ?_)
      refine WL.c rfl (o_mvh h5 ?_)
      refine WL.c rfl (o_ixB (i := i) TI37 TI26 (show _ = Value.slice (some ⟨ub, uo, none⟩) L.length uc from rfl) (show _ = Value.int .i64 (i : Int) from rfl) (by omega) ?_)
      refine WL.c rfl (o_fa 5 TI26 rfl TI3 rfl rfl ?_)
      refine WL.c rfl (o_ld TI3 rfl rfl hcK ?_)
      refine WL.c rfl (o_lt rfl rfl ?_)
      refine WL.nil ?_
      refine W.cond rfl (fun c34 => ?_) (fun c34 => ?_)
      · try simp only [cs8] at c34
        have hk1 : k < ks.len := by omega
        obtain ⟨t2, ts2, rfl⟩ := Trs.split hks hk1
        simp only [Trs.len] at hks
        have htp := tr_pos t2
        have hdr : L.drop next = t2.flat ++ (ts2.flat ++ r) := by rw [hLn]; simp [Trs.flat]
        have hdr2 : L.drop (next + t2.flat.length) = ts2.flat ++ r := by rw [← List.drop_drop, hdr, List.drop_left]
        have hnl1 : next < L.length := by
          have h1 := congrArg List.length hdr
          simp at h1
          omega
        have hte : (⟨i, next, y.kind, seen, t2.top⟩ : KE) ∈ topK i y.kind (.cons t2 ts2) next seen := by rw [topK]; exact List.mem_cons_self ..
        have hkt := hkid _ (hsub _ hte)
        refine W.skip ?_
        refine W.seq ?_
        refine W.block ?_
        refine W.seq ?_
        refine W.seq ?_
        rcases kcases y.kind with hk | hk | ⟨hk8, hk7⟩
        · skip
          have hk8 : k8 y.kind := .inl hk
          refine W.region ?_
          refine WL.c rfl (o_mvh h0 ?_)
          refine WL.c rfl (o_mvh h5 ?_)
          refine WL.c rfl (o_ixB (i := i) TI37 TI26 (show _ = Value.slice (some ⟨ub, uo, none⟩) L.length uc from rfl) (show _ = Value.int .i64 (i : Int) from rfl) (by omega) ?_)
          refine WL.c rfl (o_fa 0 TI26 rfl TI3 rfl rfl ?_)
          refine WL.c rfl (o_ld TI3 rfl rfl (huc 0 _ rfl) ?_)
          refine WL.c rfl (o_eq rfl rfl ?_)
          refine WL.c rfl (o_mvh (show _ = Value.bool _ from rfl) ?_)
          refine WL.s rfl (by simp [hk]) rfl ?_
          refine WL.s rfl (by simp [hk]) rfl ?_
          refine WL.s rfl (by simp [hk]) rfl ?_
          refine WL.s rfl (by simp [hk]) rfl ?_
          refine WL.s rfl (by simp [hk]) rfl ?_
          refine WL.s rfl (by simp [hk]) rfl ?_
          refine WL.c rfl (o_pickT rfl (by simp [hk]) ?_)
          refine WL.nil ?_
          refine W.condT' rfl (rfl) ?_
          refine W.region ?_
          refine WL.c rfl (o_mvh h3 ?_)
          refine WL.c rfl (o_mvh h6 ?_)
          refine WL.c rfl (o_mvh h5 ?_)
          refine WL.c rfl (o_ixB (i := next) TI34 TI3 (show _ = Value.slice (some ⟨B, 0, none⟩) L.length L.length from rfl) (show _ = Value.int .i64 (next : Int) from rfl) (by omega) ?_)
          refine WL.u (o_stR1 (i := next) TI3 rfl (by omega) (show _ = zv (i : Int) from rfl) rfl hro rfl hnl1 ?_)
          intro wq hrq hoq hsq
          rw [pz_set] at hrq
          replace hx := hx.trans' hoq (fun _ h => h) (fun b hb he => by
            have : B = b := by simpa [Value.ownBlock] using he
            omega)
          replace hS := hS00.ext hx
          clear hro
          have hro := hrq
          have hsndN := hsnd.set hkt hk8
          have hcmpN := hcmp.set hkt
          obtain ⟨fN, hfN⟩ : ∃ g, g = updI f next (i : Int) := ⟨_, rfl⟩
          replace hsndN : Snd t L.length fN := by rw [hfN]; exact hsndN
          replace hcmpN : Cmp t i fN := by rw [hfN]; exact hcmpN
          rw [← hfN] at hro
          have hdoneN : k8 y.kind → ∀ e ∈ topK i y.kind ks (i + 1) [], e ∈ topK i y.kind ts2 (next + t2.flat.length) (seen ++ [t2.top]) ∨ fN e.p = (i : Int) := fun hk e he => by
            by_cases hp : e.p = next
            · right
              rw [hfN, updI, if_pos hp]
            · rcases hdone hk e he with h | h
              · rw [topK] at h
                rcases List.mem_cons.1 h with h | h
                · exact absurd (by rw [h]) hp
                · exact .inl h
              · right
                rw [hfN, updI, if_neg hp]; exact h
          refine WL.nil ?_
          refine W.region ?_
          refine WL.c rfl (o_mvh h0 ?_)
          refine WL.c rfl (o_mvh h6 ?_)
          refine WL.c rfl (o_call Try.call58 (lc rfl (lc rfl ln)) ((behind_all _ t2 (Nat.le_refl _) L (ts2.flat ++ r) (Value.slice (some ⟨ub, uo, none⟩) L.length uc) next _ _ _ hwt.1 hdr hS hLl).mono ?_))
          rintro v57 w57 ⟨rfl, hx57⟩
          replace hx := hx.tr hx57
          replace hS := hS.ext hx57
          replace hro := own_ext hro hx57
          refine WL.c rfl (o_ash (show _ = Value.int _ _ from rfl) ?_)
          refine WL.nil ?_
          refine W.region ?_
          refine WL.c rfl (o_mvh h7 ?_)
          refine WL.c rfl (o_addi rfl rfl (by omega) ?_)
          refine WL.c rfl (o_ash (show _ = Value.int _ _ from rfl) ?_)
          refine WL.nil ?_
          refine ⟨⟨k + 1, next + t2.flat.length, ts2, seen ++ [t2.top], fN, by omega, h0, h3, h5, rfl, rfl, hro, hsndN, hcmpN, hwt.2, hdr2, fun e he => hsub e (by rw [topK]; exact List.mem_cons_of_mem _ he), hdoneN, hS, hx⟩, ?_⟩
          show ks.len - ((k : Int) + 1).toNat < _
          rw [hm7]; simp [intOf]; omega
        · skip
          have hk8 : k8 y.kind := .inr hk
          refine W.region ?_
          refine WL.c rfl (o_mvh h0 ?_)
          refine WL.c rfl (o_mvh h5 ?_)
          refine WL.c rfl (o_ixB (i := i) TI37 TI26 (show _ = Value.slice (some ⟨ub, uo, none⟩) L.length uc from rfl) (show _ = Value.int .i64 (i : Int) from rfl) (by omega) ?_)
          refine WL.c rfl (o_fa 0 TI26 rfl TI3 rfl rfl ?_)
          refine WL.c rfl (o_ld TI3 rfl rfl (huc 0 _ rfl) ?_)
          refine WL.c rfl (o_eq rfl rfl ?_)
          refine WL.c rfl (o_mvh (show _ = Value.bool _ from rfl) ?_)
          refine WL.g rfl (by simp [hk]) rfl (o_mvh h0 ?_)
          refine WL.g rfl (by simp [hk]) rfl (o_mvh h5 ?_)
          refine WL.g rfl (by simp [hk]) rfl (o_ixB (i := i) TI37 TI26 (show _ = Value.slice (some ⟨ub, uo, none⟩) L.length uc from rfl) (show _ = Value.int .i64 (i : Int) from rfl) (by omega) ?_)
          refine WL.g rfl (by simp [hk]) rfl (o_fa 0 TI26 rfl TI3 rfl rfl ?_)
          refine WL.g rfl (by simp [hk]) rfl (o_ld TI3 rfl rfl (huc 0 _ rfl) ?_)
          refine WL.g rfl (by simp [hk]) rfl (o_eq rfl rfl ?_)
          refine WL.c rfl (o_pickO rfl rfl ?_)
          refine WL.nil ?_
          refine W.condT' rfl (by simp [hk]) ?_
          refine W.region ?_
          refine WL.c rfl (o_mvh h3 ?_)
          refine WL.c rfl (o_mvh h6 ?_)
          refine WL.c rfl (o_mvh h5 ?_)
          refine WL.c rfl (o_ixB (i := next) TI34 TI3 (show _ = Value.slice (some ⟨B, 0, none⟩) L.length L.length from rfl) (show _ = Value.int .i64 (next : Int) from rfl) (by omega) ?_)
          refine WL.u (o_stR1 (i := next) TI3 rfl (by omega) (show _ = zv (i : Int) from rfl) rfl hro rfl hnl1 ?_)
          intro wq hrq hoq hsq
          rw [pz_set] at hrq
          replace hx := hx.trans' hoq (fun _ h => h) (fun b hb he => by
            have : B = b := by simpa [Value.ownBlock] using he
            omega)
          replace hS := hS00.ext hx
          clear hro
          have hro := hrq
          have hsndN := hsnd.set hkt hk8
          have hcmpN := hcmp.set hkt
          obtain ⟨fN, hfN⟩ : ∃ g, g = updI f next (i : Int) := ⟨_, rfl⟩
          replace hsndN : Snd t L.length fN := by rw [hfN]; exact hsndN
          replace hcmpN : Cmp t i fN := by rw [hfN]; exact hcmpN
          rw [← hfN] at hro
          have hdoneN : k8 y.kind → ∀ e ∈ topK i y.kind ks (i + 1) [], e ∈ topK i y.kind ts2 (next + t2.flat.length) (seen ++ [t2.top]) ∨ fN e.p = (i : Int) := fun hk e he => by
            by_cases hp : e.p = next
            · right
              rw [hfN, updI, if_pos hp]
            · rcases hdone hk e he with h | h
              · rw [topK] at h
                rcases List.mem_cons.1 h with h | h
                · exact absurd (by rw [h]) hp
                · exact .inl h
              · right
                rw [hfN, updI, if_neg hp]; exact h
          refine WL.nil ?_
          refine W.region ?_
          refine WL.c rfl (o_mvh h0 ?_)
          refine WL.c rfl (o_mvh h6 ?_)
          refine WL.c rfl (o_call Try.call58 (lc rfl (lc rfl ln)) ((behind_all _ t2 (Nat.le_refl _) L (ts2.flat ++ r) (Value.slice (some ⟨ub, uo, none⟩) L.length uc) next _ _ _ hwt.1 hdr hS hLl).mono ?_))
          rintro v57 w57 ⟨rfl, hx57⟩
          replace hx := hx.tr hx57
          replace hS := hS.ext hx57
          replace hro := own_ext hro hx57
          refine WL.c rfl (o_ash (show _ = Value.int _ _ from rfl) ?_)
          refine WL.nil ?_
          refine W.region ?_
          refine WL.c rfl (o_mvh h7 ?_)
          refine WL.c rfl (o_addi rfl rfl (by omega) ?_)
          refine WL.c rfl (o_ash (show _ = Value.int _ _ from rfl) ?_)
          refine WL.nil ?_
          refine ⟨⟨k + 1, next + t2.flat.length, ts2, seen ++ [t2.top], fN, by omega, h0, h3, h5, rfl, rfl, hro, hsndN, hcmpN, hwt.2, hdr2, fun e he => hsub e (by rw [topK]; exact List.mem_cons_of_mem _ he), hdoneN, hS, hx⟩, ?_⟩
          show ks.len - ((k : Int) + 1).toNat < _
          rw [hm7]; simp [intOf]; omega
        · skip
          have hn8 : ¬ k8 y.kind := fun h => by rcases h with h | h <;> omega
          obtain ⟨fN, hfN⟩ : ∃ g, g = f := ⟨_, rfl⟩
          rw [← hfN] at hro hsnd hcmp
          have hsndN := hsnd
          have hcmpN := hcmp
          have hdoneN : k8 y.kind → ∀ e ∈ topK i y.kind ks (i + 1) [], e ∈ topK i y.kind ts2 (next + t2.flat.length) (seen ++ [t2.top]) ∨ fN e.p = (i : Int) := fun h => absurd h hn8
          refine W.region ?_
          refine WL.c rfl (o_mvh h0 ?_)
          refine WL.c rfl (o_mvh h5 ?_)
          refine WL.c rfl (o_ixB (i := i) TI37 TI26 (show _ = Value.slice (some ⟨ub, uo, none⟩) L.length uc from rfl) (show _ = Value.int .i64 (i : Int) from rfl) (by omega) ?_)
          refine WL.c rfl (o_fa 0 TI26 rfl TI3 rfl rfl ?_)
          refine WL.c rfl (o_ld TI3 rfl rfl (huc 0 _ rfl) ?_)
          refine WL.c rfl (o_eq rfl rfl ?_)
          refine WL.c rfl (o_mvh (show _ = Value.bool _ from rfl) ?_)
          refine WL.g rfl (by simp [hk8]) rfl (o_mvh h0 ?_)
          refine WL.g rfl (by simp [hk8]) rfl (o_mvh h5 ?_)
          refine WL.g rfl (by simp [hk8]) rfl (o_ixB (i := i) TI37 TI26 (show _ = Value.slice (some ⟨ub, uo, none⟩) L.length uc from rfl) (show _ = Value.int .i64 (i : Int) from rfl) (by omega) ?_)
          refine WL.g rfl (by simp [hk8]) rfl (o_fa 0 TI26 rfl TI3 rfl rfl ?_)
          refine WL.g rfl (by simp [hk8]) rfl (o_ld TI3 rfl rfl (huc 0 _ rfl) ?_)
          refine WL.g rfl (by simp [hk8]) rfl (o_eq rfl rfl ?_)
          refine WL.c rfl (o_pickO rfl rfl ?_)
          refine WL.nil ?_
          refine W.condF' rfl (by simp [hk8, hk7]) ?_
          refine W.skip ?_
          refine W.region ?_
          refine WL.c rfl (o_mvh h0 ?_)
          refine WL.c rfl (o_mvh h6 ?_)
          refine WL.c rfl (o_call Try.call58 (lc rfl (lc rfl ln)) ((behind_all _ t2 (Nat.le_refl _) L (ts2.flat ++ r) (Value.slice (some ⟨ub, uo, none⟩) L.length uc) next _ _ _ hwt.1 hdr hS hLl).mono ?_))
          rintro v57 w57 ⟨rfl, hx57⟩
          replace hx := hx.tr hx57
          replace hS := hS.ext hx57
          replace hro := own_ext hro hx57
          refine WL.c rfl (o_ash (show _ = Value.int _ _ from rfl) ?_)
          refine WL.nil ?_
          refine W.region ?_
          refine WL.c rfl (o_mvh h7 ?_)
          refine WL.c rfl (o_addi rfl rfl (by omega) ?_)
          refine WL.c rfl (o_ash (show _ = Value.int _ _ from rfl) ?_)
          refine WL.nil ?_
          refine ⟨⟨k + 1, next + t2.flat.length, ts2, seen ++ [t2.top], fN, by omega, h0, h3, h5, rfl, rfl, hro, hsndN, hcmpN, hwt.2, hdr2, fun e he => hsub e (by rw [topK]; exact List.mem_cons_of_mem _ he), hdoneN, hS, hx⟩, ?_⟩
          show ks.len - ((k : Int) + 1).toNat < _
          rw [hm7]; simp [intOf]; omega
      · try simp only [cs8] at c34
        have hk1 : k = ks.len := by omega
        have hnil := Trs.none hks hk1
        subst hnil
        refine W.exit ?_
        refine W.region ?_
        refine WL.c rfl (o_mvh h5 ?_)
        refine WL.c rfl (o_addi rfl rfl (by omega) ?_)
        refine WL.c rfl (o_ash (show _ = Value.int _ _ from rfl) ?_)
        refine WL.nil ?_
        refine ⟨⟨i + 1, f, by omega, h0, h3, rfl, hro, hsnd, hcmp.next hw hwn (by rw [← hL]; exact hdn) (fun hk e he => ?_), hS, hx⟩, ?_⟩
        · rcases hdone hk e he with h | h
          · cases h
          · exact h
        · show L.length - ((i : Int) + 1).toNat < _
          rw [hm5]; simp [intOf]; omega
    · try simp only [cs8] at c23
      have hi1 : i = L.length := by omega
      rw [hi1] at hcmp
      refine W.exit ?_
      refine W.seq ?_
      refine W.region ?_
      refine WL.c rfl (o_mvh h3 ?_)
      refine WL.c rfl (o_ash (by first | exact (show _ = Value.slice _ _ _ from rfl) | exact rfl) ?_)
      refine WL.nil ?_
      refine W.ret ?_
      refine ret1v rfl rfl ?_
      exact ⟨f, hro, hsnd, hcmp, hx⟩
end Go.Proofs.Ytgcehajdldicfaa

set_option linter.unusedSimpArgs false
set_option linter.unusedVariables false
set_option maxRecDepth 100000
namespace Go.Proofs.Ytgcehajdldicfaa
open Go Go.Vc Go.RowKit Go.Proofs

theorem Snd.dup {t : Tr} {n : Nat} {f : Nat → Int} (hc : Cmp t n f) (hn : t.flat.length = n) {aa : Int} {dd : Nat} (hw : t.wf aa dd) {i : Nat} (hf : f i = -1) : ¬ i ∈ dupT t 0 := by
  intro hd
  obtain ⟨e, he, hp, hb⟩ := (dup_kid t 0 i).1 hd
  have hk : k78 e := by
    unfold dupB at hb
    unfold k78
    split at hb
    · rename_i h; exact .inl h
    · split at hb
      · rename_i h; exact .inr h
      · cases hb
  obtain ⟨-, -, -, -, -, -, -, h3, -, -⟩ := kid_sub t 0 _ _ e hw he
  have := hc e he hk (by omega)
  rw [hp, hf] at this
  omega
theorem dup_iff {t : Tr} {e : KE} (he : e ∈ kidT t 0) : e.p ∈ dupT t 0 ↔ dupB e.kind e.seen e.x = true := by
  rw [dup_kid]
  constructor
  · rintro ⟨q, hq, hp, hb⟩
    rw [← kid_uniq hq he hp]; exact hb
  · exact fun h => ⟨e, he, rfl, h⟩
theorem kid_node {t : Tr} {aa : Int} {dd : Nat} {e : KE} (hw : t.wf aa dd) (he : e ∈ kidT t 0) : ∃ y ks r a2 d2, (Tr.node y ks).wf a2 d2 ∧ t.flat.drop e.i = (Tr.node y ks).flat ++ r ∧ e ∈ topK e.i y.kind ks (e.i + 1) [] ∧ e.i < t.flat.length := by
  obtain ⟨y, ks, r, a2, d2, h1, -, h3, h4, h5⟩ := kid_sub t 0 _ _ e hw he
  exact ⟨y, ks, r, a2, d2, h1, by simpa using h4, h5, by omega⟩


theorem rfind_call (D : List Df) (dv : Value) (V : Nat → Value) (nm : List UInt8) (w0 : World) (hD : DefR w0 D dv V) (hlen : D.length * 48 ≤ 140737488351232) {k : Nat} (hk : whereN D nm = some k) : Ca Try.prog 22 #[.agg #[dv], st nm] w0 (fun v w' => v = .tuple #[.int .i64 (k : Int), .int .i64 0] ∧ Ext w0 w') := by
  have h := rfind_spec D dv V nm w0 hD hlen
  rw [hk] at h
  exact h
theorem rfind_code (D : List Df) (dv : Value) (V : Nat → Value) (nm : List UInt8) (w0 : World) (hD : DefR w0 D dv V) (hlen : D.length * 48 ≤ 140737488351232) {k : Nat} {e : Int} (hk : k = (whereN D nm).getD 0) (he : e = if (whereN D nm).isSome then 0 else 81) : Ca Try.prog 22 #[.agg #[dv], st nm] w0 (fun v w' => v = .tuple #[.int .i64 (k : Int), .int .i64 e] ∧ Ext w0 w') := by
  subst hk he
  exact rfind_spec D dv V nm w0 hD hlen

set_option maxHeartbeats 4000000 in
theorem doubles_spec (D : List Df) (T : Nat → Tr) (dv : Value) (V : Nat → Value) (w0 : World) (hD : DefR w0 D dv V) (hlim : DOk D) (hT : Trd D T) : Ca Try.prog 27 #[.agg #[dv]] w0 (fun v w' => ∃ er at_ : Int, v = .tuple #[.int .i64 er, .int .i64 at_] ∧ (resF D T).getD (0, 0) = (er, at_) ∧ Ext w0 w') := by
  have hlen := hlim.len
  have hD00 := hD
  have h256 := hT.n
  refine Ca.of Try.func27 Try.ntmps27 rfl rfl ?_
  refine W.seq ?_
  refine W.region ?_
  refine WL.c rfl (o_boxB rfl ?_)
  intro w1 hC1 hx1 hs1
  obtain ⟨b1, hb1⟩ : ∃ b, b = w0.heap.size := ⟨_, rfl⟩
  rw [← hb1] at hC1 ⊢
  replace hC1 : w1.heap[b1]? = some (.cells ([dv]).toArray 24 (0, 0)) := hC1
  have hx := hx1
  replace hD := hD.ext hx1
  refine WL.c rfl (o_ash (show _ = Value.int _ _ from rfl) ?_)
  refine WL.c rfl (o_ash (show _ = Value.int _ _ from rfl) ?_)
  refine WL.nil ?_
  refine W.seq ?_
  refine W.seq ?_
  refine W.region ?_
  refine WL.c rfl (o_ash (show _ = Value.int _ _ from rfl) ?_)
  refine WL.nil ?_
  refine W.block ?_
  refine W.loop (fun e w => ∃ i : Nat, i ≤ D.length ∧ e 1 = .pointer (some ⟨b1, 0, none⟩) ∧ e 4 = .int .i64 (i : Int) ∧ (∀ j, j < i → defF D T j = none) ∧ DefR w D dv V ∧ w.heap[b1]? = some (.cells #[dv] 24 (0, 0)) ∧ Ext w0 w) (fun e w => D.length - (intOf (e 4)).toNat) ?_ ?_
  · exact ⟨0, Nat.zero_le _, rfl, rfl, fun j hj => by omega, hD, hC1, hx⟩
  rintro e w ⟨i, hi, h1, h4, hno, hD, hC1, hx⟩
  have hm4 := h4
  refine W.seq ?_
  refine W.seq ?_
  refine W.region ?_
  refine WL.c rfl (o_mvh h4 ?_)
  refine WL.c rfl (o_fa 0 TI24 rfl TI22 rfl h1 ?_)
  refine WL.c rfl (o_ld TI22 rfl rfl (cell_of hC1 rfl) ?_)
  refine WL.c rfl (o_lenR TI22 rfl hD.row ?_)
  refine WL.c rfl (o_lt rfl rfl ?_)
  refine WL.nil ?_
  refine W.cond rfl (fun c16 => ?_) (fun c16 => ?_)
  · try simp only [cs8] at c16
    have hi1 : i < D.length := by omega
    obtain ⟨tb, to_, tc, rfl, htc, hty⟩ := hD.atk hi1
    have hnm := hlim.nm _ (List.getElem_mem hi1)
    have hex := hlim.ex _ (List.getElem_mem hi1)
    have htl := hlim.ty _ (List.getElem_mem hi1)
    obtain ⟨js, hjs, hji⟩ := where_self hi1
    refine W.skip ?_
    refine W.seq ?_
    refine W.block ?_
    refine W.seq ?_
    obtain ⟨wd, hwd⟩ : ∃ wd, wd = w.drew := ⟨_, rfl⟩
    have hxd : Ext w wd := hwd ▸ Only.drew w
    replace hx := hx.tr hxd
    replace hD := hD.ext hxd
    replace hC1 := hxd.blk hC1 (fun h => h)
    replace hty := hty.ext hxd
    replace htc := Cells.only htc hxd (fun h => h)
    refine W.draw (Ext) [(1, fun v _ => v = _), (4, fun v _ => v = _)] rfl (by kernel_rfl) (Only.refl No) (fun _ _ _ h k => h.trans k) ⟨Mono.eq, Mono.eq, trivial⟩ ⟨h1, h4, trivial⟩ ?_
    refine WD.p rfl (fun e w hR hh => by obtain ⟨h1, -⟩ := hh; rw [← hwd] at hR; exact SG.n (o_ldA TI24 rfl h1 (show Cells _ b1 0 [.slice (some ⟨tb, to_, none⟩) D.length tc] from Cells.of (hR.blk hC1 (fun h => h)) 0 _ (by simp)) rfl ⟨rfl, Only.refl No _⟩)) ?_
    refine WD.p rfl (fun e w hR hh => by obtain ⟨h1, -⟩ := hh; exact SG.n (o_fa 0 TI24 rfl TI22 rfl h1 ⟨rfl, Only.refl No _⟩)) ?_
    refine WD.p rfl (fun e w hR hh => by obtain ⟨h21, -⟩ := hh; rw [← hwd] at hR; exact SG.n (o_ld TI22 rfl h21 (cell_of (hR.blk hC1 (fun h => h)) rfl) ⟨rfl, Only.refl No _⟩)) ?_
    refine WD.p rfl (fun e w hR hh => by obtain ⟨h4, -⟩ := hh; exact SG.n (o_mvh h4 ⟨rfl, Only.refl No _⟩)) ?_
    refine WD.p rfl (fun e w hR hh => by obtain ⟨h23, h22, -⟩ := hh; exact SG.n (o_ixB (i := i) TI22 TI39 h22 h23 (by omega) ⟨rfl, Only.refl No _⟩)) ?_
    refine WD.p rfl (fun e w hR hh => by obtain ⟨h24, -⟩ := hh; exact SG.n (o_fa 0 TI39 rfl TI9 rfl h24 ⟨rfl, Only.refl No _⟩)) ?_
    refine WD.p rfl (fun e w hR hh => by obtain ⟨h25, -⟩ := hh; rw [← hwd] at hR; exact SG.n (o_ld TI9 rfl h25 (Cells.only htc hR (fun h => h) 0 _ rfl) ⟨rfl, Only.refl No _⟩)) ?_
    refine WD.p rfl (fun e w hR hh => by obtain ⟨h26, h20, -⟩ := hh; rw [← hwd] at hR; exact SG.n (o_call Try.call22 (lc h20 (lc h26 ln)) ((rfind_call D _ V D[i].name _ (hD.ext hR) hlen hjs).mono (fun v w' ⟨h1, h2⟩ => ⟨h1, h2⟩)))) ?_
    refine WD.p rfl (fun e w hR hh => by obtain ⟨h27, -⟩ := hh; exact SG.n (o_mvh h27 ⟨rfl, Only.refl No _⟩)) ?_
    refine WD.p rfl (fun e w hR hh => by obtain ⟨h19, -⟩ := hh; exact SG.n (o_ext h19 rfl ⟨rfl, Only.refl No _⟩)) ?_
    refine WD.p rfl (fun e w hR hh => by obtain ⟨h19, -⟩ := hh; exact SG.n (o_ext h19 rfl ⟨rfl, Only.refl No _⟩)) ?_
    refine WD.p rfl (fun e w hR hh => by obtain ⟨h28, -⟩ := hh; exact SG.n (o_ash h28 ⟨rfl, Only.refl No _⟩)) ?_
    refine WD.p rfl (fun e w hR hh => by obtain ⟨h29, -⟩ := hh; exact SG.n (o_ash h29 ⟨rfl, Only.refl No _⟩)) ?_
    rintro e w hR ⟨h6, h5, h29, h28, h19, h27, h26, h25, h24, h23, h22, h21, h20, h1, h4, -⟩
    rw [← hwd] at hR
    replace hx := hx.tr hR
    replace hD := hD.ext hR
    replace hC1 := hR.blk hC1 (fun h => h)
    replace hty := hty.ext hR
    replace htc := Cells.only htc hR (fun h => h)
    refine W.seq ?_
    refine W.seq ?_
    refine W.region ?_
    refine WL.c rfl (o_mvh h5 ?_)
    refine WL.c rfl (o_mvh h4 ?_)
    refine WL.c rfl (o_lt rfl rfl ?_)
    refine WL.nil ?_
    refine W.cond rfl (fun c32 => ?_) (fun c32 => ?_)
    · try simp only [cs8] at c32
      have hwi : ¬ whereN D D[i].name = some i := by intro h; rw [hjs] at h; cases h; omega
      refine W.seq ?_
      refine W.quiet rfl (by kernel_rfl) ?_
      refine WQ.c rfl ((QO.o rfl fun _ => o_fa 0 TI24 rfl TI22 rfl h1 ⟨rfl, rfl⟩)) ?_
      refine WQ.c rfl ((QO.o rfl fun _ => o_ld TI22 rfl rfl (cell_of hC1 rfl) ⟨rfl, rfl⟩)) ?_
      refine WQ.c rfl ((QO.o rfl fun _ => o_mvh h4 ⟨rfl, rfl⟩)) ?_
      refine WQ.c rfl ((QO.o rfl fun _ => o_ixB TI22 TI39 rfl rfl (by omega) ⟨rfl, rfl⟩)) ?_
      refine WQ.c rfl ((QO.o rfl fun _ => o_fa 1 TI39 rfl TI3 rfl rfl ⟨rfl, rfl⟩)) ?_
      refine WQ.c rfl ((QO.o rfl fun _ => o_ld TI3 rfl rfl (htc 1 _ rfl) ⟨rfl, rfl⟩)) ?_
      refine WQ.c rfl ((QO.o rfl fun _ => o_ash (show _ = Value.int _ _ from rfl) ⟨rfl, rfl⟩)) ?_
      refine WQ.c rfl ((QO.o rfl fun _ => o_ash (show _ = Value.int _ _ from rfl) ⟨rfl, rfl⟩)) ?_
      refine WQ.nil ?_
      intro nq
      replace hx := hx.tr (Only.drewN w nq)
      refine W.ret ?_
      refine ret2v rfl (show _ = Value.int _ _ from rfl) (show _ = Value.int _ _ from rfl) ?_
      exact ⟨80, D[i].at_, rfl, by rw [resF_hit hi1 (defF_twice hi1 hwi) hno]; rfl, hx⟩
    · try simp only [cs8] at c32
      have hwi : whereN D D[i].name = some i := by rw [hjs, show js = i by omega]
      refine W.skip ?_
      refine W.seq ?_
      refine W.region ?_
      refine WL.c rfl (o_fa 0 TI24 rfl TI22 rfl h1 ?_)
      refine WL.c rfl (o_ld TI22 rfl rfl (cell_of hC1 rfl) ?_)
      refine WL.c rfl (o_mvh h4 ?_)
      refine WL.c rfl (o_ixB TI22 TI39 rfl rfl (by omega) ?_)
      refine WL.c rfl (o_fa 2 TI39 rfl TI37 rfl rfl ?_)
      refine WL.c rfl (o_ld TI37 rfl rfl (htc 2 _ rfl) ?_)
      refine WL.c rfl (o_ash (by first | exact (show _ = Value.slice _ _ _ from rfl) | exact rfl) ?_)
      refine WL.nil ?_
      refine W.seq ?_
      refine W.region ?_
      refine WL.c rfl (o_mvh (by first | exact (show _ = Value.slice _ _ _ from rfl) | exact rfl) ?_)
      refine WL.c rfl (o_call Try.call44 (lc rfl ln) ((parents_spec (T i) D[i].ty (V i) 0 0 _ (hT.wf i hi1) (by rw [hT.fl i hi1, tyD_at hi1]) hty htl).mono ?_))
      rintro v46 w46 ⟨pf, hof, hsnd, hcmp, hx46⟩
      have hfl := hT.fl i hi1
      rw [tyD_at hi1] at hfl
      replace hx := hx.tr hx46
      replace hD := hD.ext hx46
      replace hC1 := hx46.blk hC1 (fun h => h)
      replace hty := hty.ext hx46
      refine WL.c rfl (o_ash (by first | exact (show _ = Value.slice _ _ _ from rfl) | exact rfl) ?_)
      refine WL.nil ?_
      refine W.seq ?_
      refine W.region ?_
      refine WL.c rfl (o_ash (show _ = Value.int _ _ from rfl) ?_)
      refine WL.nil ?_
      refine W.block ?_
      refine W.loop (fun e w => ∃ q : Nat, q ≤ D[i].ty.length ∧ e 1 = .pointer (some ⟨b1, 0, none⟩) ∧ e 4 = .int .i64 (i : Int) ∧ e 7 = V i ∧ e 8 = v46 ∧ e 9 = .int .i64 (q : Int) ∧ (∀ j, j < q → nodeF D (dupT (T i) 0) D[i].ty j = none) ∧ Sl w 1 v46 D[i].ty.length (pz D[i].ty.length pf) ∧ Sl w 7 (V i) D[i].ty.length (exs D[i].ty) ∧ DefR w D (.slice (some ⟨tb, to_, none⟩) D.length tc) V ∧ w.heap[b1]? = some (.cells #[.slice (some ⟨tb, to_, none⟩) D.length tc] 24 (0, 0)) ∧ Ext w0 w) (fun e w => D[i].ty.length - (intOf (e 9)).toNat) ?_ ?_
      · exact ⟨0, Nat.zero_le _, h1, h4, rfl, rfl, rfl, fun j hj => by omega, Sl.own hof, hty, hD, hC1, hx⟩
      rintro e w ⟨q, hq, h1, h4, h7, h8, h9, hnn, hof, hty, hD, hC1, hx⟩
      have hm9 := h9
      refine W.seq ?_
      refine W.seq ?_
      refine W.region ?_
      refine WL.c rfl (o_mvh h9 ?_)
      refine WL.c rfl (o_mvh h7 ?_)
      refine WL.c rfl (o_lenR TI37 rfl hty ?_)
      refine WL.c rfl (o_lt rfl rfl ?_)
      refine WL.nil ?_
      refine W.cond rfl (fun c50 => ?_) (fun c50 => ?_)
      · try simp only [cs8] at c50
        have hq1 : q < D[i].ty.length := by omega
        obtain ⟨ub, uo, uc, hV1, huc⟩ := Sl.exq hty hq1
        obtain ⟨ob, oo, oc, hVo, hoc⟩ := Sl.at1 hof hq1 (pz_at hq1)
        rw [hV1] at h7
        rw [hVo] at h8
        have hnk := (hex _ (List.getElem_mem hq1)).1
        have hnf := nodeF_at (D := D) (dup := dupT (T i) 0) hq1
        have hsl := hty
        rw [hV1] at hsl
        refine W.skip ?_
        refine W.seq ?_
        refine W.block ?_
        refine W.seq ?_
        refine W.seq ?_
        rcases hsnd q hq1 with hpf | ⟨ke, hke, hkp, hk7, hpf⟩
        · skip
          have hnd := Snd.dup (i := q) hcmp (by rw [hfl]) (hT.wf i hi1) hpf
          refine W.region ?_
          refine WL.c rfl (o_mvh h8 ?_)
          refine WL.c rfl (o_mvh h9 ?_)
          refine WL.c rfl (o_ixB (i := q) TI34 TI3 (show _ = Value.slice (some ⟨ob, oo, none⟩) D[i].ty.length oc from rfl) (show _ = Value.int .i64 (q : Int) from rfl) (by omega) ?_)
          refine WL.c rfl (o_ld TI3 rfl rfl hoc ?_)
          refine WL.c rfl (o_ge rfl rfl ?_)
          refine WL.c rfl (o_mvh (show _ = Value.bool _ from rfl) ?_)
          refine WL.s rfl (by rw [hpf]; rfl) rfl ?_
          refine WL.s rfl (by rw [hpf]; rfl) rfl ?_
          refine WL.s rfl (by rw [hpf]; rfl) rfl ?_
          refine WL.s rfl (by rw [hpf]; rfl) rfl ?_
          refine WL.s rfl (by rw [hpf]; rfl) rfl ?_
          refine WL.s rfl (by rw [hpf]; rfl) rfl ?_
          refine WL.s rfl (by rw [hpf]; rfl) rfl ?_
          refine WL.c rfl (o_pickF rfl (by rw [hpf]; rfl) ?_)
          refine WL.nil ?_
          refine W.condF' rfl (rfl) ?_
          refine W.skip ?_
          refine W.seq ?_
          refine W.region ?_
          refine WL.c rfl (o_mvh h7 ?_)
          refine WL.c rfl (o_mvh h9 ?_)
          refine WL.c rfl (o_ixB (i := q) TI37 TI26 (show _ = Value.slice (some ⟨ub, uo, none⟩) D[i].ty.length uc from rfl) (show _ = Value.int .i64 (q : Int) from rfl) (by omega) ?_)
          refine WL.c rfl (o_fa 0 TI26 rfl TI3 rfl rfl ?_)
          refine WL.c rfl (o_ld TI3 rfl rfl (huc 0 _ rfl) ?_)
          refine WL.c rfl (o_eq rfl rfl ?_)
          refine WL.nil ?_
          refine W.cond rfl (fun c77 => ?_) (fun c77 => ?_)
          · try simp only [cs8] at c77
            have hk9 : D[i].ty[q].kind = 9 := by simpa using c77
            obtain ⟨fk, fe, hfk⟩ : ∃ (k : Nat) (e : Int), (k, e) = ((whereN D D[i].ty[q].name).getD 0, (if (whereN D D[i].ty[q].name).isSome then 0 else 81)) := ⟨_, _, rfl⟩
            have hfk1 := congrArg Prod.fst hfk
            have hfk2 := congrArg Prod.snd hfk
            refine W.seq ?_
            obtain ⟨wd, hwd⟩ : ∃ wd, wd = w.drew := ⟨_, rfl⟩
            have hxd : Ext w wd := hwd ▸ Only.drew w
            replace hx := hx.tr hxd
            replace hD := hD.ext hxd
            replace hC1 := hxd.blk hC1 (fun h => h)
            replace hty := hty.ext hxd
            replace hof := hof.ext hxd
            replace huc := Cells.only huc hxd (fun h => h)
            refine W.draw (Ext) [(1, fun v _ => v = _), (4, fun v _ => v = _), (7, fun v _ => v = _), (8, fun v _ => v = _), (9, fun v _ => v = _)] rfl (by kernel_rfl) (Only.refl No) (fun _ _ _ h k => h.trans k) ⟨Mono.eq, Mono.eq, Mono.eq, Mono.eq, Mono.eq, trivial⟩ ⟨h1, h4, h7, h8, h9, trivial⟩ ?_
            refine WD.p rfl (fun e w hR hh => by obtain ⟨h1, -⟩ := hh; rw [← hwd] at hR; exact SG.n (o_ldA TI24 rfl h1 (show Cells _ b1 0 [.slice (some ⟨tb, to_, none⟩) D.length tc] from Cells.of (hR.blk hC1 (fun h => h)) 0 _ (by simp)) rfl ⟨rfl, Only.refl No _⟩)) ?_
            refine WD.p rfl (fun e w hR hh => by obtain ⟨h7, -⟩ := hh; exact SG.n (o_mvh h7 ⟨rfl, Only.refl No _⟩)) ?_
            refine WD.p rfl (fun e w hR hh => by obtain ⟨h9, -⟩ := hh; exact SG.n (o_mvh h9 ⟨rfl, Only.refl No _⟩)) ?_
            refine WD.p rfl (fun e w hR hh => by obtain ⟨h81, h80, -⟩ := hh; exact SG.n (o_ixB (i := q) TI37 TI26 h80 h81 (by omega) ⟨rfl, Only.refl No _⟩)) ?_
            refine WD.p rfl (fun e w hR hh => by obtain ⟨h82, -⟩ := hh; exact SG.n (o_fa 2 TI26 rfl TI9 rfl h82 ⟨rfl, Only.refl No _⟩)) ?_
            refine WD.p rfl (fun e w hR hh => by obtain ⟨h83, -⟩ := hh; rw [← hwd] at hR; exact SG.n (o_ld TI9 rfl h83 (Cells.only huc hR (fun h => h) 2 _ rfl) ⟨rfl, Only.refl No _⟩)) ?_
            refine WD.p rfl (fun e w hR hh => by obtain ⟨h84, h79, -⟩ := hh; rw [← hwd] at hR; exact SG.n (o_call Try.call22 (lc h79 (lc h84 ln)) ((rfind_code D _ V D[i].ty[q].name _ (hD.ext hR) hlen hfk1 hfk2).mono (fun v w' ⟨h1, h2⟩ => ⟨h1, h2⟩)))) ?_
            refine WD.p rfl (fun e w hR hh => by obtain ⟨h85, -⟩ := hh; exact SG.n (o_mvh h85 ⟨rfl, Only.refl No _⟩)) ?_
            refine WD.p rfl (fun e w hR hh => by obtain ⟨h78, -⟩ := hh; exact SG.n (o_ext h78 rfl ⟨rfl, Only.refl No _⟩)) ?_
            refine WD.p rfl (fun e w hR hh => by obtain ⟨h78, -⟩ := hh; exact SG.n (o_ext h78 rfl ⟨rfl, Only.refl No _⟩)) ?_
            refine WD.p rfl (fun e w hR hh => by obtain ⟨h86, -⟩ := hh; exact SG.n (o_ash h86 ⟨rfl, Only.refl No _⟩)) ?_
            refine WD.p rfl (fun e w hR hh => by obtain ⟨h87, -⟩ := hh; exact SG.n (o_ash h87 ⟨rfl, Only.refl No _⟩)) ?_
            rintro e w hR ⟨h11, h10, h87, h86, h78, h85, h84, h83, h82, h81, h80, h79, h1, h4, h7, h8, h9, -⟩
            rw [← hwd] at hR
            replace hx := hx.tr hR
            replace hD := hD.ext hR
            replace hC1 := hR.blk hC1 (fun h => h)
            replace hty := hty.ext hR
            replace hof := hof.ext hR
            replace huc := Cells.only huc hR (fun h => h)
            refine W.seq ?_
            refine W.region ?_
            refine WL.c rfl (o_mvh h11 ?_)
            refine WL.c rfl (o_ne rfl rfl ?_)
            refine WL.nil ?_
            refine W.cond rfl (fun c89 => ?_) (fun c89 => ?_)
            · try simp only [cs8] at c89
              have hwn : whereN D D[i].ty[q].name = none := by
                cases hw : whereN D D[i].ty[q].name with
                | none => rfl
                | some k =>
                  rw [hw] at hfk2
                  simp at hfk2
                  simp [hfk2] at c89
              refine W.seq ?_
              refine W.quiet rfl (by kernel_rfl) ?_
              refine WQ.c rfl ((QO.o rfl fun _ => o_mvh h7 ⟨rfl, rfl⟩)) ?_
              refine WQ.c rfl ((QO.o rfl fun _ => o_mvh h9 ⟨rfl, rfl⟩)) ?_
              refine WQ.c rfl ((QO.o rfl fun _ => o_ixB (i := q) TI37 TI26 (show _ = Value.slice (some ⟨ub, uo, none⟩) D[i].ty.length uc from rfl) (show _ = Value.int .i64 (q : Int) from rfl) (by omega) ⟨rfl, rfl⟩)) ?_
              refine WQ.c rfl ((QO.o rfl fun _ => o_fa 6 TI26 rfl TI3 rfl rfl ⟨rfl, rfl⟩)) ?_
              refine WQ.c rfl ((QO.o rfl fun _ => o_ld TI3 rfl rfl (huc 6 _ rfl) ⟨rfl, rfl⟩)) ?_
              refine WQ.c rfl ((QO.o rfl fun _ => o_ash (show _ = Value.int _ _ from rfl) ⟨rfl, rfl⟩)) ?_
              refine WQ.c rfl ((QO.o rfl fun _ => o_ash (show _ = Value.int _ _ from rfl) ⟨rfl, rfl⟩)) ?_
              refine WQ.nil ?_
              intro nq
              replace hx := hx.tr (Only.drewN _ nq)
              refine W.ret ?_
              refine ret2v rfl (show _ = Value.int _ _ from rfl) (show _ = Value.int _ _ from rfl) ?_
              exact ⟨81, D[i].ty[q].at_, rfl, by rw [resF_hit hi1 (show defF D T i = some (81, D[i].ty[q].at_) by rw [defF_nodes hi1 hwi]; exact firstN_hit hq1 (by rw [hnf, if_neg hnd, if_pos ⟨hk9, hwn⟩]) hnn) hno]; rfl, hx⟩
            · try simp only [cs8] at c89
              have hwn : ¬ whereN D D[i].ty[q].name = none := by
                intro hw
                rw [hw] at hfk2
                simp at hfk2
                simp [hfk2] at c89
              have hnq : nodeF D (dupT (T i) 0) D[i].ty q = none := by rw [hnf, if_neg hnd, if_neg (fun h => hwn h.2)]
              refine W.skip ?_
              refine W.region ?_
              refine WL.c rfl (o_mvh h9 ?_)
              refine WL.c rfl (o_addi rfl rfl (by omega) ?_)
              refine WL.c rfl (o_ash (show _ = Value.int _ _ from rfl) ?_)
              refine WL.nil ?_
              refine ⟨⟨q + 1, by omega, h1, h4, h7.trans hV1.symm, h8.trans hVo.symm, rfl, fun j hj => ?_, hof, hty, hD, hC1, hx⟩, ?_⟩
              · rcases Nat.lt_or_ge j q with h | h
                · exact hnn j h
                · rw [show j = q by omega]; exact hnq
              · show D[i].ty.length - ((q : Int) + 1).toNat < _
                rw [hm9]; simp [intOf]; omega
          · try simp only [cs8] at c77
            have hk9 : ¬ D[i].ty[q].kind = 9 := by simpa using c77
            have hnq : nodeF D (dupT (T i) 0) D[i].ty q = none := by rw [hnf, if_neg hnd, if_neg (fun h => hk9 h.1)]
            refine W.skip ?_
            refine W.region ?_
            refine WL.c rfl (o_mvh h9 ?_)
            refine WL.c rfl (o_addi rfl rfl (by omega) ?_)
            refine WL.c rfl (o_ash (show _ = Value.int _ _ from rfl) ?_)
            refine WL.nil ?_
            refine ⟨⟨q + 1, by omega, h1, h4, h7.trans hV1.symm, h8.trans hVo.symm, rfl, fun j hj => ?_, hof, hty, hD, hC1, hx⟩, ?_⟩
            · rcases Nat.lt_or_ge j q with h | h
              · exact hnn j h
              · rw [show j = q by omega]; exact hnq
            · show D[i].ty.length - ((q : Int) + 1).toNat < _
              rw [hm9]; simp [intOf]; omega
        · skip
          obtain ⟨y, ks, r, a2, d2, hwn, hdn, hkt, hki⟩ := kid_node (hT.wf i hi1) hke
          rw [hfl] at hdn hki
          have hdi := dup_iff hke
          rw [hkp] at hdi
          rw [hpf] at hoc
          refine W.region ?_
          refine WL.c rfl (o_mvh h8 ?_)
          refine WL.c rfl (o_mvh h9 ?_)
          refine WL.c rfl (o_ixB (i := q) TI34 TI3 (show _ = Value.slice (some ⟨ob, oo, none⟩) D[i].ty.length oc from rfl) (show _ = Value.int .i64 (q : Int) from rfl) (by omega) ?_)
          refine WL.c rfl (o_ld TI3 rfl rfl hoc ?_)
          refine WL.c rfl (o_ge rfl rfl ?_)
          refine WL.c rfl (o_mvh (show _ = Value.bool _ from rfl) ?_)
          refine WL.g rfl (decide_eq_true (by omega)) rfl (o_mvh h7 ?_)
          refine WL.g rfl (decide_eq_true (by omega)) rfl (o_mvh h8 ?_)
          refine WL.g rfl (decide_eq_true (by omega)) rfl (o_mvh h9 ?_)
          refine WL.g rfl (decide_eq_true (by omega)) rfl (o_ixB (i := q) TI34 TI3 (show _ = Value.slice (some ⟨ob, oo, none⟩) D[i].ty.length oc from rfl) (show _ = Value.int .i64 (q : Int) from rfl) (by omega) ?_)
          refine WL.g rfl (decide_eq_true (by omega)) rfl (o_ld TI3 rfl rfl hoc ?_)
          refine WL.g rfl (decide_eq_true (by omega)) rfl (o_mvh h9 ?_)
          refine WL.g rfl (decide_eq_true (by omega)) rfl (o_call Try.call45 (lc rfl (lc rfl (lc rfl ln))) (((hkp ▸ rtwice_spec y ks D[i].ty r (.slice (some ⟨ub, uo, none⟩) D[i].ty.length uc) ke.i a2 d2 ke _ hwn hdn hsl htl hkt : Ca _ _ #[_, .int .i64 (ke.i : Int), .int .i64 (q : Int)] _ _)).mono ?_))
          rintro v65 w65 ⟨rfl, hx65⟩
          replace hof := hof.ext hx65
          replace hsl := hsl.ext hx65
          replace huc := Cells.only huc hx65 (fun h => h)
          replace hx := hx.tr hx65
          replace hD := hD.ext hx65
          replace hC1 := hx65.blk hC1 (fun h => h)
          replace hty := hty.ext hx65
          refine WL.c rfl (o_pickA rfl rfl ?_)
          refine WL.nil ?_
          refine W.cond rfl (fun c66 => ?_) (fun c66 => ?_)
          · try simp only [cs8] at c66
            have hdup : q ∈ dupT (T i) 0 := hdi.2 (by simpa using c66)
            refine W.seq ?_
            refine W.quiet rfl (by kernel_rfl) ?_
            refine WQ.c rfl ((QO.o rfl fun _ => o_mvh h7 ⟨rfl, rfl⟩)) ?_
            refine WQ.c rfl ((QO.o rfl fun _ => o_mvh h9 ⟨rfl, rfl⟩)) ?_
            refine WQ.c rfl ((QO.o rfl fun _ => o_ixB (i := q) TI37 TI26 (show _ = Value.slice (some ⟨ub, uo, none⟩) D[i].ty.length uc from rfl) (show _ = Value.int .i64 (q : Int) from rfl) (by omega) ⟨rfl, rfl⟩)) ?_
            refine WQ.c rfl ((QO.o rfl fun _ => o_fa 6 TI26 rfl TI3 rfl rfl ⟨rfl, rfl⟩)) ?_
            refine WQ.c rfl ((QO.o rfl fun _ => o_ld TI3 rfl rfl (huc 6 _ rfl) ⟨rfl, rfl⟩)) ?_
            refine WQ.c rfl ((QO.o rfl fun _ => o_ash (show _ = Value.int _ _ from rfl) ⟨rfl, rfl⟩)) ?_
            refine WQ.c rfl ((QO.o rfl fun _ => o_ash (show _ = Value.int _ _ from rfl) ⟨rfl, rfl⟩)) ?_
            refine WQ.nil ?_
            intro nq
            replace hx := hx.tr (Only.drewN _ nq)
            refine W.ret ?_
            refine ret2v rfl (show _ = Value.int _ _ from rfl) (show _ = Value.int _ _ from rfl) ?_
            exact ⟨80, D[i].ty[q].at_, rfl, by rw [resF_hit hi1 (show defF D T i = some (80, D[i].ty[q].at_) by rw [defF_nodes hi1 hwi]; exact firstN_hit hq1 (by rw [hnf, if_pos hdup]) hnn) hno]; rfl, hx⟩
          · try simp only [cs8] at c66
            have hnd : ¬ q ∈ dupT (T i) 0 := fun h => by have h1 := hdi.1 h; simp [h1] at c66
            refine W.skip ?_
            refine W.seq ?_
            refine W.region ?_
            refine WL.c rfl (o_mvh h7 ?_)
            refine WL.c rfl (o_mvh h9 ?_)
            refine WL.c rfl (o_ixB (i := q) TI37 TI26 (show _ = Value.slice (some ⟨ub, uo, none⟩) D[i].ty.length uc from rfl) (show _ = Value.int .i64 (q : Int) from rfl) (by omega) ?_)
            refine WL.c rfl (o_fa 0 TI26 rfl TI3 rfl rfl ?_)
            refine WL.c rfl (o_ld TI3 rfl rfl (huc 0 _ rfl) ?_)
            refine WL.c rfl (o_eq rfl rfl ?_)
            refine WL.nil ?_
            refine W.cond rfl (fun c77 => ?_) (fun c77 => ?_)
            · try simp only [cs8] at c77
              have hk9 : D[i].ty[q].kind = 9 := by simpa using c77
              obtain ⟨fk, fe, hfk⟩ : ∃ (k : Nat) (e : Int), (k, e) = ((whereN D D[i].ty[q].name).getD 0, (if (whereN D D[i].ty[q].name).isSome then 0 else 81)) := ⟨_, _, rfl⟩
              have hfk1 := congrArg Prod.fst hfk
              have hfk2 := congrArg Prod.snd hfk
              refine W.seq ?_
              obtain ⟨wd, hwd⟩ : ∃ wd, wd = w65.drew := ⟨_, rfl⟩
              have hxd : Ext w65 wd := hwd ▸ Only.drew w65
              replace hx := hx.tr hxd
              replace hD := hD.ext hxd
              replace hC1 := hxd.blk hC1 (fun h => h)
              replace hty := hty.ext hxd
              replace hof := hof.ext hxd
              replace huc := Cells.only huc hxd (fun h => h)
              refine W.draw (Ext) [(1, fun v _ => v = _), (4, fun v _ => v = _), (7, fun v _ => v = _), (8, fun v _ => v = _), (9, fun v _ => v = _)] rfl (by kernel_rfl) (Only.refl No) (fun _ _ _ h k => h.trans k) ⟨Mono.eq, Mono.eq, Mono.eq, Mono.eq, Mono.eq, trivial⟩ ⟨h1, h4, h7, h8, h9, trivial⟩ ?_
              refine WD.p rfl (fun e w hR hh => by obtain ⟨h1, -⟩ := hh; rw [← hwd] at hR; exact SG.n (o_ldA TI24 rfl h1 (show Cells _ b1 0 [.slice (some ⟨tb, to_, none⟩) D.length tc] from Cells.of (hR.blk hC1 (fun h => h)) 0 _ (by simp)) rfl ⟨rfl, Only.refl No _⟩)) ?_
              refine WD.p rfl (fun e w hR hh => by obtain ⟨h7, -⟩ := hh; exact SG.n (o_mvh h7 ⟨rfl, Only.refl No _⟩)) ?_
              refine WD.p rfl (fun e w hR hh => by obtain ⟨h9, -⟩ := hh; exact SG.n (o_mvh h9 ⟨rfl, Only.refl No _⟩)) ?_
              refine WD.p rfl (fun e w hR hh => by obtain ⟨h81, h80, -⟩ := hh; exact SG.n (o_ixB (i := q) TI37 TI26 h80 h81 (by omega) ⟨rfl, Only.refl No _⟩)) ?_
              refine WD.p rfl (fun e w hR hh => by obtain ⟨h82, -⟩ := hh; exact SG.n (o_fa 2 TI26 rfl TI9 rfl h82 ⟨rfl, Only.refl No _⟩)) ?_
              refine WD.p rfl (fun e w hR hh => by obtain ⟨h83, -⟩ := hh; rw [← hwd] at hR; exact SG.n (o_ld TI9 rfl h83 (Cells.only huc hR (fun h => h) 2 _ rfl) ⟨rfl, Only.refl No _⟩)) ?_
              refine WD.p rfl (fun e w hR hh => by obtain ⟨h84, h79, -⟩ := hh; rw [← hwd] at hR; exact SG.n (o_call Try.call22 (lc h79 (lc h84 ln)) ((rfind_code D _ V D[i].ty[q].name _ (hD.ext hR) hlen hfk1 hfk2).mono (fun v w' ⟨h1, h2⟩ => ⟨h1, h2⟩)))) ?_
              refine WD.p rfl (fun e w hR hh => by obtain ⟨h85, -⟩ := hh; exact SG.n (o_mvh h85 ⟨rfl, Only.refl No _⟩)) ?_
              refine WD.p rfl (fun e w hR hh => by obtain ⟨h78, -⟩ := hh; exact SG.n (o_ext h78 rfl ⟨rfl, Only.refl No _⟩)) ?_
              refine WD.p rfl (fun e w hR hh => by obtain ⟨h78, -⟩ := hh; exact SG.n (o_ext h78 rfl ⟨rfl, Only.refl No _⟩)) ?_
              refine WD.p rfl (fun e w hR hh => by obtain ⟨h86, -⟩ := hh; exact SG.n (o_ash h86 ⟨rfl, Only.refl No _⟩)) ?_
              refine WD.p rfl (fun e w hR hh => by obtain ⟨h87, -⟩ := hh; exact SG.n (o_ash h87 ⟨rfl, Only.refl No _⟩)) ?_
              rintro e w hR ⟨h11, h10, h87, h86, h78, h85, h84, h83, h82, h81, h80, h79, h1, h4, h7, h8, h9, -⟩
              rw [← hwd] at hR
              replace hx := hx.tr hR
              replace hD := hD.ext hR
              replace hC1 := hR.blk hC1 (fun h => h)
              replace hty := hty.ext hR
              replace hof := hof.ext hR
              replace huc := Cells.only huc hR (fun h => h)
              refine W.seq ?_
              refine W.region ?_
              refine WL.c rfl (o_mvh h11 ?_)
              refine WL.c rfl (o_ne rfl rfl ?_)
              refine WL.nil ?_
              refine W.cond rfl (fun c89 => ?_) (fun c89 => ?_)
              · try simp only [cs8] at c89
                have hwn : whereN D D[i].ty[q].name = none := by
                  cases hw : whereN D D[i].ty[q].name with
                  | none => rfl
                  | some k =>
                    rw [hw] at hfk2
                    simp at hfk2
                    simp [hfk2] at c89
                refine W.seq ?_
                refine W.quiet rfl (by kernel_rfl) ?_
                refine WQ.c rfl ((QO.o rfl fun _ => o_mvh h7 ⟨rfl, rfl⟩)) ?_
                refine WQ.c rfl ((QO.o rfl fun _ => o_mvh h9 ⟨rfl, rfl⟩)) ?_
                refine WQ.c rfl ((QO.o rfl fun _ => o_ixB (i := q) TI37 TI26 (show _ = Value.slice (some ⟨ub, uo, none⟩) D[i].ty.length uc from rfl) (show _ = Value.int .i64 (q : Int) from rfl) (by omega) ⟨rfl, rfl⟩)) ?_
                refine WQ.c rfl ((QO.o rfl fun _ => o_fa 6 TI26 rfl TI3 rfl rfl ⟨rfl, rfl⟩)) ?_
                refine WQ.c rfl ((QO.o rfl fun _ => o_ld TI3 rfl rfl (huc 6 _ rfl) ⟨rfl, rfl⟩)) ?_
                refine WQ.c rfl ((QO.o rfl fun _ => o_ash (show _ = Value.int _ _ from rfl) ⟨rfl, rfl⟩)) ?_
                refine WQ.c rfl ((QO.o rfl fun _ => o_ash (show _ = Value.int _ _ from rfl) ⟨rfl, rfl⟩)) ?_
                refine WQ.nil ?_
                intro nq
                replace hx := hx.tr (Only.drewN _ nq)
                refine W.ret ?_
                refine ret2v rfl (show _ = Value.int _ _ from rfl) (show _ = Value.int _ _ from rfl) ?_
                exact ⟨81, D[i].ty[q].at_, rfl, by rw [resF_hit hi1 (show defF D T i = some (81, D[i].ty[q].at_) by rw [defF_nodes hi1 hwi]; exact firstN_hit hq1 (by rw [hnf, if_neg hnd, if_pos ⟨hk9, hwn⟩]) hnn) hno]; rfl, hx⟩
              · try simp only [cs8] at c89
                have hwn : ¬ whereN D D[i].ty[q].name = none := by
                  intro hw
                  rw [hw] at hfk2
                  simp at hfk2
                  simp [hfk2] at c89
                have hnq : nodeF D (dupT (T i) 0) D[i].ty q = none := by rw [hnf, if_neg hnd, if_neg (fun h => hwn h.2)]
                refine W.skip ?_
                refine W.region ?_
                refine WL.c rfl (o_mvh h9 ?_)
                refine WL.c rfl (o_addi rfl rfl (by omega) ?_)
                refine WL.c rfl (o_ash (show _ = Value.int _ _ from rfl) ?_)
                refine WL.nil ?_
                refine ⟨⟨q + 1, by omega, h1, h4, h7.trans hV1.symm, h8.trans hVo.symm, rfl, fun j hj => ?_, hof, hty, hD, hC1, hx⟩, ?_⟩
                · rcases Nat.lt_or_ge j q with h | h
                  · exact hnn j h
                  · rw [show j = q by omega]; exact hnq
                · show D[i].ty.length - ((q : Int) + 1).toNat < _
                  rw [hm9]; simp [intOf]; omega
            · try simp only [cs8] at c77
              have hk9 : ¬ D[i].ty[q].kind = 9 := by simpa using c77
              have hnq : nodeF D (dupT (T i) 0) D[i].ty q = none := by rw [hnf, if_neg hnd, if_neg (fun h => hk9 h.1)]
              refine W.skip ?_
              refine W.region ?_
              refine WL.c rfl (o_mvh h9 ?_)
              refine WL.c rfl (o_addi rfl rfl (by omega) ?_)
              refine WL.c rfl (o_ash (show _ = Value.int _ _ from rfl) ?_)
              refine WL.nil ?_
              refine ⟨⟨q + 1, by omega, h1, h4, h7.trans hV1.symm, h8.trans hVo.symm, rfl, fun j hj => ?_, hof, hty, hD, hC1, hx⟩, ?_⟩
              · rcases Nat.lt_or_ge j q with h | h
                · exact hnn j h
                · rw [show j = q by omega]; exact hnq
              · show D[i].ty.length - ((q : Int) + 1).toNat < _
                rw [hm9]; simp [intOf]; omega
      · try simp only [cs8] at c50
        have hq1 : q = D[i].ty.length := by omega
        rw [hq1] at hnn
        refine W.exit ?_
        refine W.region ?_
        refine WL.c rfl (o_mvh h4 ?_)
        refine WL.c rfl (o_addi rfl rfl (by omega) ?_)
        refine WL.c rfl (o_ash (show _ = Value.int _ _ from rfl) ?_)
        refine WL.nil ?_
        refine ⟨⟨i + 1, by omega, h1, rfl, fun j hj => ?_, hD, hC1, hx⟩, ?_⟩
        · rcases Nat.lt_or_ge j i with h | h
          · exact hno j h
          · rw [show j = i by omega, defF_nodes hi1 hwi]; exact firstN_miss hnn
        · show D.length - ((i : Int) + 1).toNat < _
          rw [hm4]; simp [intOf]; omega
  · try simp only [cs8] at c16
    have hi1 : i = D.length := by omega
    have hnone : resF D T = none := resF_miss (fun j hj => hno j (by omega))
    refine W.exit ?_
    refine W.seq ?_
    refine W.region ?_
    refine WL.c rfl (o_ash (show _ = Value.int _ _ from rfl) ?_)
    refine WL.c rfl (o_ash (show _ = Value.int _ _ from rfl) ?_)
    refine WL.nil ?_
    refine W.ret ?_
    refine ret2v rfl (show _ = Value.int _ _ from rfl) (show _ = Value.int _ _ from rfl) ?_
    exact ⟨0, 0, rfl, by rw [hnone]; rfl, hx⟩
end Go.Proofs.Ytgcehajdldicfaa

set_option linter.unusedSimpArgs false
set_option linter.unusedVariables false
set_option maxRecDepth 100000
namespace Go.Proofs.Ytgcehajdldicfaa
open Go Go.Vc Go.RowKit Go.Proofs
set_option maxHeartbeats 1000000 in
theorem ruses_spec (i : Nat) (D : List Df) (dv : Value) (V : Nat → Value) (w0 : World) (hD : DefR w0 D dv V) (hlim : DOk D) (hi : i < D.length) : Ca Try.prog 46 #[.agg #[dv], .int .i64 (i : Int)] w0 (fun v w' => w'.ownsRow w0.heap.size 3 1 v (usesD D i).length ((usesD D i).map iv) ∧ Ext w0 w') := by
  have hlen := hlim.len
  have htl := hlim.ty _ (List.getElem_mem hi)
  have hnm := hlim.ex _ (List.getElem_mem hi)
  obtain ⟨tb, to_, tc, rfl, htc, hty⟩ := hD.atk hi
  obtain ⟨BB, hBB⟩ : ∃ B, B = w0.heap.size := ⟨_, rfl⟩
  rw [← hBB]
  have hD00 := hD
  have hty00 := hty
  refine Ca.of Try.func46 Try.ntmps46 rfl rfl ?_
  refine W.seq ?_
  refine W.region ?_
  refine WL.c rfl (o_boxB rfl ?_)
  intro w2 hC2 hx2 hs2
  obtain ⟨b2, hb2⟩ : ∃ b, b = w0.heap.size := ⟨_, rfl⟩
  rw [← hb2] at hC2 ⊢
  replace hC2 : w2.heap[b2]? = some (.cells ([.slice (some ⟨tb, to_, none⟩) D.length tc]).toArray 24 (0, 0)) := hC2
  have hx := hx2
  replace hD := hD.ext hx2
  replace hty := hty.ext hx2
  replace htc := Cells.only htc hx2 (fun h => h)
  refine WL.c rfl (o_ash (by first | exact (show _ = Value.slice _ _ _ from rfl) | exact rfl) ?_)
  refine WL.nil ?_
  refine W.seq ?_
  refine W.region ?_
  refine WL.c rfl (o_ash (by first | exact (show _ = Value.slice _ _ _ from rfl) | exact rfl) ?_)
  refine WL.nil ?_
  refine W.seq ?_
  refine W.region ?_
  refine WL.c rfl (o_fa 0 TI24 rfl TI22 rfl rfl ?_)
  refine WL.c rfl (o_ld TI22 rfl rfl (cell_of hC2 rfl) ?_)
  refine WL.c rfl (o_mvh (show _ = Value.int _ _ from rfl) ?_)
  refine WL.c rfl (o_ixB (i := i) TI22 TI39 (show _ = Value.slice (some ⟨tb, to_, none⟩) D.length tc from rfl) (show _ = Value.int .i64 (i : Int) from rfl) (by omega) ?_)
  refine WL.c rfl (o_fa 2 TI39 rfl TI37 rfl rfl ?_)
  refine WL.c rfl (o_ld TI37 rfl rfl (htc 2 _ rfl) ?_)
  refine WL.c rfl (o_ash (by first | exact (show _ = Value.slice _ _ _ from rfl) | exact rfl) ?_)
  refine WL.nil ?_
  refine W.seq ?_
  refine W.seq ?_
  refine W.region ?_
  refine WL.c rfl (o_ash (show _ = Value.int _ _ from rfl) ?_)
  refine WL.nil ?_
  refine W.block ?_
  refine W.loop (fun e w => ∃ (k : Nat) (out : Value), k ≤ D[i].ty.length ∧ e 2 = .pointer (some ⟨b2, 0, none⟩) ∧ e 5 = out ∧ e 6 = V i ∧ e 7 = .int .i64 (k : Int) ∧ DefR w D (.slice (some ⟨tb, to_, none⟩) D.length tc) V ∧ Sl w 7 (V i) D[i].ty.length (exs D[i].ty) ∧ w.ownsRow BB 3 1 out (usesK D D[i].ty k).length ((usesK D D[i].ty k).map iv) ∧ w.heap[b2]? = some (.cells #[.slice (some ⟨tb, to_, none⟩) D.length tc] 24 (0, 0)) ∧ Ext w0 w) (fun e w => D[i].ty.length - (intOf (e 7)).toNat) ?_ ?_
  · exact ⟨0, .slice none 0 0, Nat.zero_le _, rfl, rfl, rfl, rfl, hD, hty, World.ownsRow_nil _ _ _ _, hC2, hx⟩
  rintro e w ⟨k, out, hk, h2, h5, h6, h7, hD, hty, hrow, hC2, hx⟩
  have hm7 := h7
  refine W.seq ?_
  refine W.seq ?_
  refine W.region ?_
  refine WL.c rfl (o_mvh h7 ?_)
  refine WL.c rfl (o_mvh h6 ?_)
  refine WL.c rfl (o_lenR TI37 rfl hty ?_)
  refine WL.c rfl (o_lt rfl rfl ?_)
  refine WL.nil ?_
  refine W.cond rfl (fun c19 => ?_) (fun c19 => ?_)
  · try simp only [cs8] at c19
    have hk1 : k < D[i].ty.length := by omega
    obtain ⟨ub, uo, uc, hV1, huc⟩ := Sl.exq hty hk1
    rw [hV1] at h6
    have hnk := (hnm _ (List.getElem_mem hk1)).1
    have hul := usesK_len D D[i].ty k
    refine W.skip ?_
    refine W.seq ?_
    refine W.block ?_
    refine W.seq ?_
    refine W.region ?_
    refine WL.c rfl (o_mvh h6 ?_)
    refine WL.c rfl (o_mvh h7 ?_)
    refine WL.c rfl (o_ixB (i := k) TI37 TI26 (show _ = Value.slice (some ⟨ub, uo, none⟩) D[i].ty.length uc from rfl) (show _ = Value.int .i64 (k : Int) from rfl) (by omega) ?_)
    refine WL.c rfl (o_fa 0 TI26 rfl TI3 rfl rfl ?_)
    refine WL.c rfl (o_ld TI3 rfl rfl (huc 0 _ rfl) ?_)
    refine WL.c rfl (o_eq rfl rfl ?_)
    refine WL.nil ?_
    refine W.cond rfl (fun c27 => ?_) (fun c27 => ?_)
    · try simp only [cs8] at c27
      have hk9 : D[i].ty[k].kind = 9 := by simpa using c27
      obtain ⟨fk, fe, hfk⟩ : ∃ (k1 : Nat) (e : Int), (k1, e) = ((whereN D D[i].ty[k].name).getD 0, (if (whereN D D[i].ty[k].name).isSome then 0 else 81)) := ⟨_, _, rfl⟩
      have hfk1 := congrArg Prod.fst hfk
      have hfk2 := congrArg Prod.snd hfk
      refine W.seq ?_
      obtain ⟨wd, hwd⟩ : ∃ wd, wd = w.drew := ⟨_, rfl⟩
      have hxd : Ext w wd := hwd ▸ Only.drew w
      replace hx := hx.tr hxd
      replace hD := hD.ext hxd
      replace hC2 := hxd.blk hC2 (fun h => h)
      replace hty := hty.ext hxd
      replace hrow := own_ext hrow hxd
      replace huc := Cells.only huc hxd (fun h => h)
      refine W.draw (Ext) [(2, fun v _ => v = _), (5, fun v _ => v = _), (6, fun v _ => v = _), (7, fun v _ => v = _)] rfl (by kernel_rfl) (Only.refl No) (fun _ _ _ h k => h.trans k) ⟨Mono.eq, Mono.eq, Mono.eq, Mono.eq, trivial⟩ ⟨h2, h5, h6, h7, trivial⟩ ?_
      refine WD.p rfl (fun e w hR hh => by obtain ⟨h2, -⟩ := hh; rw [← hwd] at hR; exact SG.n (o_ldA TI24 rfl h2 (show Cells _ b2 0 [.slice (some ⟨tb, to_, none⟩) D.length tc] from Cells.of (hR.blk hC2 (fun h => h)) 0 _ (by simp)) rfl ⟨rfl, Only.refl No _⟩)) ?_
      refine WD.p rfl (fun e w hR hh => by obtain ⟨h6, -⟩ := hh; exact SG.n (o_mvh h6 ⟨rfl, Only.refl No _⟩)) ?_
      refine WD.p rfl (fun e w hR hh => by obtain ⟨h7, -⟩ := hh; exact SG.n (o_mvh h7 ⟨rfl, Only.refl No _⟩)) ?_
      refine WD.p rfl (fun e w hR hh => by obtain ⟨h31, h30, -⟩ := hh; exact SG.n (o_ixB (i := k) TI37 TI26 h30 h31 (by omega) ⟨rfl, Only.refl No _⟩)) ?_
      refine WD.p rfl (fun e w hR hh => by obtain ⟨h32, -⟩ := hh; exact SG.n (o_fa 2 TI26 rfl TI9 rfl h32 ⟨rfl, Only.refl No _⟩)) ?_
      refine WD.p rfl (fun e w hR hh => by obtain ⟨h33, -⟩ := hh; rw [← hwd] at hR; exact SG.n (o_ld TI9 rfl h33 (Cells.only huc hR (fun h => h) 2 _ rfl) ⟨rfl, Only.refl No _⟩)) ?_
      refine WD.p rfl (fun e w hR hh => by obtain ⟨h34, h29, -⟩ := hh; rw [← hwd] at hR; exact SG.n (o_call Try.call22 (lc h29 (lc h34 ln)) ((rfind_code D _ V D[i].ty[k].name _ (hD.ext hR) hlen hfk1 hfk2).mono (fun v w' ⟨h1, h2⟩ => ⟨h1, h2⟩)))) ?_
      refine WD.p rfl (fun e w hR hh => by obtain ⟨h35, -⟩ := hh; exact SG.n (o_mvh h35 ⟨rfl, Only.refl No _⟩)) ?_
      refine WD.p rfl (fun e w hR hh => by obtain ⟨h28, -⟩ := hh; exact SG.n (o_ext h28 rfl ⟨rfl, Only.refl No _⟩)) ?_
      refine WD.p rfl (fun e w hR hh => by obtain ⟨h28, -⟩ := hh; exact SG.n (o_ext h28 rfl ⟨rfl, Only.refl No _⟩)) ?_
      refine WD.p rfl (fun e w hR hh => by obtain ⟨h36, -⟩ := hh; exact SG.n (o_ash h36 ⟨rfl, Only.refl No _⟩)) ?_
      refine WD.p rfl (fun e w hR hh => by obtain ⟨h37, -⟩ := hh; exact SG.n (o_ash h37 ⟨rfl, Only.refl No _⟩)) ?_
      rintro e w hR ⟨h9, h8, h37, h36, h28, h35, h34, h33, h32, h31, h30, h29, h2, h5, h6, h7, -⟩
      rw [← hwd] at hR
      replace hx := hx.tr hR
      replace hD := hD.ext hR
      replace hC2 := hR.blk hC2 (fun h => h)
      replace hty := hty.ext hR
      replace hrow := own_ext hrow hR
      replace huc := Cells.only huc hR (fun h => h)
      have hD7 := hD
      have hty7 := hty
      have hC7 := hC2
      refine W.region ?_
      refine WL.c rfl (o_mvh h5 ?_)
      refine WL.c rfl (o_mvh h8 ?_)
      refine WL.apO (BB) rfl rfl TI34 TI3 (show _ = Value.int _ _ from rfl) rfl hrow (by decide) (by decide) rfl (one1 rfl) rfl (by rw [maxLen_eq]; omega) (by omega) (by rw [hBB]; exact hx.size) ?_
      intro v33 w33 hrow33 ho33 hb33 _
      have hrl : ∀ b, out.ownBlock = some b → BB ≤ b := fun b hb => (hrow.lt b hb).1
      replace hC2 := ho33.blk hC2 (fun hb => own_off hrow hC2 (by decide) hb)
      replace hx := hx.trans' ho33 (fun _ h => h) (fun b hb he => by have := hrl b he; omega)
      obtain ⟨outN, hon⟩ : ∃ o, o = v33 := ⟨_, rfl⟩
      rw [← hon]
      have hrow2 : w33.ownsRow BB 3 1 outN (usesK D D[i].ty (k + 1)).length ((usesK D D[i].ty (k + 1)).map iv) := by
        rw [usesK_yes hk1 hk9, List.map_append, List.length_append, hon, ← (show fk = (whereN D D[i].ty[k].name).getD 0 from hfk1)]; exact hrow33
      replace hD := hD00.ext hx
      replace hty := hty00.ext hx
      refine WL.c rfl (o_ash (by first | exact (show _ = Value.slice _ _ _ from rfl) | exact rfl) ?_)
      refine WL.nil ?_
      refine W.region ?_
      refine WL.c rfl (o_mvh h7 ?_)
      refine WL.c rfl (o_addi rfl rfl (by omega) ?_)
      refine WL.c rfl (o_ash (show _ = Value.int _ _ from rfl) ?_)
      refine WL.nil ?_
      refine ⟨⟨k + 1, outN, by omega, h2, by first | exact h5 | rfl, h6.trans hV1.symm, rfl, hD, hty, hrow2, hC2, hx⟩, ?_⟩
      show D[i].ty.length - ((k : Int) + 1).toNat < _
      rw [hm7]; simp [intOf]; omega
    · try simp only [cs8] at c27
      have h9 : ¬ D[i].ty[k].kind = 9 := by simpa using c27
      have hrow2 := hrow
      rw [← usesK_no hk1 h9] at hrow2
      obtain ⟨outN, hon⟩ : ∃ o, o = out := ⟨_, rfl⟩
      rw [← hon] at hrow2 h5
      refine W.skip ?_
      refine W.region ?_
      refine WL.c rfl (o_mvh h7 ?_)
      refine WL.c rfl (o_addi rfl rfl (by omega) ?_)
      refine WL.c rfl (o_ash (show _ = Value.int _ _ from rfl) ?_)
      refine WL.nil ?_
      refine ⟨⟨k + 1, outN, by omega, h2, by first | exact h5 | rfl, h6.trans hV1.symm, rfl, hD, hty, hrow2, hC2, hx⟩, ?_⟩
      show D[i].ty.length - ((k : Int) + 1).toNat < _
      rw [hm7]; simp [intOf]; omega
  · try simp only [cs8] at c19
    have hk1 : k = D[i].ty.length := by omega
    subst hk1
    refine W.exit ?_
    refine W.seq ?_
    refine W.region ?_
    refine WL.c rfl (o_mvh h5 ?_)
    refine WL.c rfl (o_ash (by first | exact (show _ = Value.slice _ _ _ from rfl) | exact rfl) ?_)
    refine WL.nil ?_
    refine W.ret ?_
    refine ret1v rfl rfl ?_
    exact ⟨by rw [← usesK_all hi]; exact hrow, hx⟩
end Go.Proofs.Ytgcehajdldicfaa

set_option linter.unusedSimpArgs false
set_option linter.unusedVariables false
set_option maxRecDepth 100000
namespace Go.Proofs.Ytgcehajdldicfaa
open Go Go.Vc Go.RowKit Go.Proofs

def brow (n : Nat) (M : Nat → Nat → Bool) (a : Nat) : List Value := (List.range n).map (fun b => Value.bool (M a b))
def stepM (M : Nat → Nat → Bool) (k : Nat) : Nat → Nat → Bool := fun a b => M a b || (M a k && M k b)
def mid (M : Nat → Nat → Bool) (k a b : Nat) : Nat → Nat → Bool := fun x y => if x < a ∨ (x = a ∧ y < b) then stepM M k x y else M x y
def warN (D : List Df) : Nat → Nat → Nat → Bool
  | 0 => fun a b => (usesD D a).contains b
  | k + 1 => stepM (warN D k) k
theorem brow_at {n a b : Nat} {M : Nat → Nat → Bool} (hb : b < n) : (brow n M a)[b]? = some (.bool (M a b)) := by
  unfold brow
  rw [List.getElem?_map, List.getElem?_range hb]
  rfl
theorem brow_eq {n a : Nat} {M N : Nat → Nat → Bool} (h : ∀ b, b < n → M a b = N a b) : brow n M a = brow n N a := by
  unfold brow
  exact List.map_congr_left (fun b hb => by rw [h b (List.mem_range.1 hb)])
theorem mid_k (M : Nat → Nat → Bool) (k a b x : Nat) : mid M k a b x k = M x k := by
  unfold mid stepM
  split
  · cases M x k <;> rfl
  · rfl
theorem mid_r (M : Nat → Nat → Bool) (k a b y : Nat) : mid M k a b k y = M k y := by
  unfold mid stepM
  split
  · cases M k y <;> cases M k k <;> rfl
  · rfl
theorem mid_at (M : Nat → Nat → Bool) (k a b : Nat) : mid M k a b a b = M a b := by
  unfold mid
  rw [if_neg (by omega)]
theorem mid_zero (M : Nat → Nat → Bool) (k : Nat) : mid M k 0 0 = M := by
  funext x y
  unfold mid
  rw [if_neg (by omega)]
theorem mid_set {M : Nat → Nat → Bool} {k a b n : Nat} (hk : M a k = true) {u : Bool} (hu : u = (M a b || M k b)) : (brow n (mid M k a b) a).set b (.bool u) = brow n (mid M k a (b + 1)) a := by
  unfold brow
  apply List.ext_getElem?
  intro j
  rw [List.getElem?_set]
  by_cases hj : j < n
  · by_cases e : b = j
    · subst e
      rw [if_pos rfl, if_pos (by simpa using hj), List.getElem?_map, List.getElem?_range hj]
      show some (Value.bool u) = some (Value.bool (mid M k a (b + 1) a b))
      unfold mid stepM
      rw [if_pos (by omega), hu, hk]
      simp
    · rw [if_neg e, List.getElem?_map, List.getElem?_map, List.getElem?_range hj]
      show some (Value.bool (mid M k a b a j)) = some (Value.bool (mid M k a (b + 1) a j))
      unfold mid
      by_cases h : j < b
      · rw [if_pos (by omega), if_pos (by omega)]
      · rw [if_neg (by omega), if_neg (by omega)]
  · have h1 : ∀ (M : Nat → Nat → Bool), ((List.range n).map (fun b => Value.bool (M a b)))[j]? = none := fun M => by rw [List.getElem?_eq_none]; simp; omega
    rw [h1, h1]
    split <;> first | rfl | (split <;> rename_i h <;> first | rfl | (simp at h; omega))
theorem mid_off (M : Nat → Nat → Bool) {k a b x n : Nat} (hx : x ≠ a) : brow n (mid M k a (b + 1)) x = brow n (mid M k a b) x := brow_eq fun y _ => by
  unfold mid
  by_cases h : x < a
  · rw [if_pos (by omega), if_pos (by omega)]
  · rw [if_neg (by omega), if_neg (by omega)]
theorem mid_next (M : Nat → Nat → Bool) {k a b n : Nat} (h : M a k = false ∨ b = n) (x : Nat) : brow n (mid M k (a + 1) 0) x = brow n (mid M k a b) x := brow_eq fun y hy => by
  unfold mid
  by_cases h1 : x < a
  · rw [if_pos (by omega), if_pos (by omega)]
  · by_cases h2 : x = a
    · subst h2
      rw [if_pos (by omega)]
      rcases h with h | h
      · unfold stepM
        rw [h]
        simp
      · rw [if_pos (by omega)]
    · rw [if_neg (by omega), if_neg (by omega)]
theorem mid_end (M : Nat → Nat → Bool) {k n x : Nat} (hx : x < n) : brow n (stepM M k) x = brow n (mid M k n 0) x := brow_eq fun y hy => by
  unfold mid
  rw [if_pos (by omega)]
theorem step_or {M : Nat → Nat → Bool} {k a b : Nat} : stepM M k a b = true ↔ M a b = true ∨ (M a k = true ∧ M k b = true) := by
  unfold stepM
  rw [Bool.or_eq_true, Bool.and_eq_true]
theorem war_mono {D : List Df} {a b : Nat} : ∀ {k : Nat}, warN D 0 a b = true → warN D k a b = true
  | 0, h => h
  | k + 1, h => step_or.2 (.inl (war_mono (k := k) h))
theorem war_sound {D : List Df} : ∀ (k a b : Nat), warN D k a b = true → Relation.TransGen (Us (usesD D)) a b
  | 0, a, b, h => Relation.TransGen.single (by
      have h1 : (usesD D a).contains b = true := h
      exact List.contains_iff_mem.1 h1)
  | k + 1, a, b, h => by
      rcases step_or.1 h with h | ⟨h1, h2⟩
      · exact war_sound k a b h
      · exact (war_sound k a k h1).trans (war_sound k k b h2)
theorem war_trans {D : List Df} : ∀ (k j a b : Nat), j < k → warN D k a j = true → warN D k j b = true → warN D k a b = true
  | 0, j, a, b, hj, _, _ => by omega
  | k + 1, j, a, b, hj, h1, h2 => by
      have IH := fun x y => war_trans (D := D) k j x y
      rcases Nat.lt_or_ge j k with hk | hk
      · rcases step_or.1 h1 with h1 | ⟨h1, h3⟩
        · rcases step_or.1 h2 with h2 | ⟨h2, h4⟩
          · exact step_or.2 (.inl (IH a b hk h1 h2))
          · exact step_or.2 (.inr ⟨IH a k hk h1 h2, h4⟩)
        · rcases step_or.1 h2 with h2 | ⟨h2, h4⟩
          · exact step_or.2 (.inr ⟨h1, IH k b hk h3 h2⟩)
          · exact step_or.2 (.inr ⟨h1, h4⟩)
      · have e : j = k := by omega
        subst e
        refine step_or.2 (.inr ⟨?_, ?_⟩)
        · rcases step_or.1 h1 with h | ⟨h, -⟩ <;> exact h
        · rcases step_or.1 h2 with h | ⟨-, h⟩ <;> exact h
theorem war_iff {D : List Df} (hU : ∀ i, i < D.length → ∀ j ∈ usesD D i, j < D.length) {a b : Nat} (ha : a < D.length) : warN D D.length a b = true ↔ Relation.TransGen (Us (usesD D)) a b := by
  refine ⟨war_sound _ a b, fun h => ?_⟩
  have : b < D.length ∧ warN D D.length a b = true := by
    induction h with
    | single h => exact ⟨hU _ ha _ h, war_mono (List.contains_iff_mem.2 h)⟩
    | tail _ h ih => exact ⟨hU _ ih.1 _ h, war_trans _ _ _ _ ih.1 ih.2 (war_mono (List.contains_iff_mem.2 h))⟩
  exact this.2
theorem take_next {l : List Nat} {i : Nat} (h : i < l.length) : l.take (i + 1) = l.take i ++ [l[i]] := List.take_succ_eq_append_getElem h

set_option maxHeartbeats 4000000 in
theorem leads_spec (D : List Df) (dv : Value) (V : Nat → Value) (w0 : World) (hD : DefR w0 D dv V) (hlim : DOk D) (hU : ∀ i, i < D.length → ∀ j ∈ usesD D i, j < D.length) : Ca Try.prog 28 #[.agg #[dv]] w0 (fun v w' => w'.ownsRow w0.heap.size 4 1 v D.length ((List.range D.length).map fun d => Value.bool (warN D D.length d d)) ∧ Ext w0 w') := by
  have hlen := hlim.len
  obtain ⟨BB, hBB⟩ : ∃ B, B = w0.heap.size := ⟨_, rfl⟩
  rw [← hBB]
  have hD00 := hD
  refine Ca.of Try.func28 Try.ntmps28 rfl rfl ?_
  refine W.seq ?_
  refine W.region ?_
  refine WL.c rfl (o_boxB rfl ?_)
  intro w1 hC1 hx1 hs1
  obtain ⟨b1, hb1⟩ : ∃ b, b = w0.heap.size := ⟨_, rfl⟩
  rw [← hb1] at hC1 ⊢
  replace hC1 : w1.heap[b1]? = some (.cells ([dv]).toArray 24 (0, 0)) := hC1
  have hx := hx1
  replace hD := hD.ext hx1
  refine WL.c rfl (o_ash (by first | exact (show _ = Value.slice _ _ _ from rfl) | exact rfl) ?_)
  refine WL.nil ?_
  refine W.seq ?_
  refine W.region ?_
  refine WL.c rfl (o_fa 0 TI24 rfl TI22 rfl rfl ?_)
  refine WL.c rfl (o_ld TI22 rfl rfl (cell_of hC1 rfl) ?_)
  refine WL.c rfl (o_lenR TI22 rfl hD.row ?_)
  refine WL.c rfl (o_ash (show _ = Value.int _ _ from rfl) ?_)
  refine WL.nil ?_
  refine W.seq ?_
  refine W.region ?_
  refine WL.c rfl (o_ash (by first | exact (show _ = Value.slice _ _ _ from rfl) | exact rfl) ?_)
  refine WL.nil ?_
  refine W.seq ?_
  refine W.seq ?_
  refine W.region ?_
  refine WL.c rfl (o_ash (show _ = Value.int _ _ from rfl) ?_)
  refine WL.nil ?_
  refine W.block ?_
  refine W.loop (fun e w => ∃ (d : Nat) (av : Value) (Q : Nat → Value), d ≤ D.length ∧ e 1 = .pointer (some ⟨b1, 0, none⟩) ∧ e 3 = .int .i64 (D.length : Int) ∧ e 4 = av ∧ e 5 = .int .i64 (d : Int) ∧ w.ownsRow BB 46 1 av d ((List.range d).map Q) ∧ Many w BB 4 1 d Q (fun _ => D.length) (brow D.length (warN D 0)) ∧ DefR w D dv V ∧ w.heap[b1]? = some (.cells #[dv] 24 (0, 0)) ∧ Ext w0 w) (fun e w => D.length - (intOf (e 5)).toNat) ?_ ?_
  · exact ⟨0, .slice none 0 0, fun _ => undef, Nat.zero_le _, rfl, rfl, rfl, rfl, World.ownsRow_nil _ _ _ _, Many.zero, hD, hC1, hx⟩
  rintro e w ⟨d, av, Q, hd, h1, h3, h4, h5, hav, hM, hD, hC1, hx⟩
  have hm5 := h5
  refine W.seq ?_
  refine W.seq ?_
  refine W.region ?_
  refine WL.c rfl (o_mvh h5 ?_)
  refine WL.c rfl (o_mvh h3 ?_)
  refine WL.c rfl (o_lt rfl rfl ?_)
  refine WL.nil ?_
  refine W.cond rfl (fun c19 => ?_) (fun c19 => ?_)
  · try simp only [cs8] at c19
    have hd1 : d < D.length := by omega
    have htl := hlim.ty _ (List.getElem_mem hd1)
    have hul2 : (usesD D d).length ≤ D[d].ty.length := by have h1 := usesK_len D D[d].ty D[d].ty.length; rw [usesK_all hd1] at h1; exact h1
    refine W.skip ?_
    refine W.seq ?_
    refine W.block ?_
    refine W.seq ?_
    refine W.region ?_
    refine WL.c rfl (o_mvh h3 ?_)
    refine WL.c rfl (o_mk2 TI46 TI4 (l := D.length) (n := D.length) rfl rfl (Nat.le_refl _) (by omega) (by omega) ?_)
    have hrt := own_made1 (w := w) (el := 4) (l := D.length) (n := D.length) (z := .bool false) rfl (Nat.le_refl _) (by omega)
    have hxb : Ext w (w.alloc (.cells (madeCells (Value.bool false).cells (D.length * 1)) 4)) := Only.alloc w _
    have hlq : ∀ j, j < d → ∀ k, (Q j).ownBlock = some k → k < w.heap.size := fun j hj k hk => (hM.lt hj hk).2
    generalize w.alloc (.cells (madeCells (Value.bool false).cells (D.length * 1)) 4) = wt at hrt hxb ⊢
    obtain ⟨tv, htv⟩ : ∃ o, o = Value.slice (some ⟨w.heap.size, 0, none⟩) D.length D.length := ⟨_, rfl⟩
    rw [← htv] at hrt ⊢
    rw [← tlB_nil] at hrt
    have hBm : BB ≤ w.heap.size := by rw [hBB]; exact hx.size
    obtain ⟨mm, hmm⟩ : ∃ m, m = w.heap.size := ⟨_, rfl⟩
    rw [← hmm] at hrt hlq hBm
    replace hx := hx.tr hxb
    replace hD := hD.ext hxb
    replace hC1 := hxb.blk hC1 (fun h => h)
    replace hM := hM.ext hxb
    replace hav := own_ext hav hxb
    clear hxb htv hmm
    refine WL.c rfl (o_ash (by first | exact (show _ = Value.slice _ _ _ from rfl) | exact rfl) ?_)
    refine WL.nil ?_
    refine W.seq ?_
    refine W.region ?_
    refine WL.c rfl (o_ldA TI24 rfl h1 (show Cells _ b1 0 [dv] from Cells.of hC1 0 _ (by simp)) rfl ?_)
    refine WL.c rfl (o_mvh h5 ?_)
    refine WL.c rfl (o_call Try.call46 (lc rfl (lc rfl ln)) ((ruses_spec d D dv V _ hD hlim hd1).mono ?_))
    rintro v26 w26 ⟨hu26, hx26⟩
    replace hu26 := own_mono hu26 (show BB ≤ _ by rw [hBB]; exact hx.size)
    replace hx := hx.tr hx26
    replace hD := hD.ext hx26
    replace hC1 := hx26.blk hC1 (fun h => h)
    replace hM := hM.ext hx26
    replace hav := own_ext hav hx26
    replace hrt := own_ext hrt hx26
    refine WL.c rfl (o_ash (by first | exact (show _ = Value.slice _ _ _ from rfl) | exact rfl) ?_)
    refine WL.nil ?_
    refine W.seq ?_
    refine W.seq ?_
    refine W.region ?_
    refine WL.c rfl (o_ash (show _ = Value.int _ _ from rfl) ?_)
    refine WL.nil ?_
    refine W.block ?_
    refine W.loop (fun e w => ∃ i : Nat, i ≤ (usesD D d).length ∧ e 1 = .pointer (some ⟨b1, 0, none⟩) ∧ e 3 = .int .i64 (D.length : Int) ∧ e 4 = av ∧ e 5 = .int .i64 (d : Int) ∧ e 6 = tv ∧ e 7 = v26 ∧ e 8 = .int .i64 (i : Int) ∧ w.ownsRow mm 4 1 tv D.length (tlB D.length ((usesD D d).take i)) ∧ w.ownsRow BB 3 1 v26 (usesD D d).length ((usesD D d).map iv) ∧ w.ownsRow BB 46 1 av d ((List.range d).map Q) ∧ Many w BB 4 1 d Q (fun _ => D.length) (brow D.length (warN D 0)) ∧ DefR w D dv V ∧ w.heap[b1]? = some (.cells #[dv] 24 (0, 0)) ∧ Ext w0 w) (fun e w => (usesD D d).length - (intOf (e 8)).toNat) ?_ ?_
    · exact ⟨0, Nat.zero_le _, h1, h3, h4, h5, rfl, rfl, rfl, by rw [List.take_zero]; exact hrt, hu26, hav, hM, hD, hC1, hx⟩
    rintro e w ⟨i, hi, h1, h3, h4, h5, h6, h7, h8, hrt, hu26, hav, hM, hD, hC1, hx⟩
    have hm8 := h8
    refine W.seq ?_
    refine W.seq ?_
    refine W.region ?_
    refine WL.c rfl (o_mvh h8 ?_)
    refine WL.c rfl (o_mvh h7 ?_)
    refine WL.c rfl (o_lenR TI34 rfl (Sl.own hu26) ?_)
    refine WL.c rfl (o_lt rfl rfl ?_)
    refine WL.nil ?_
    refine W.cond rfl (fun c30 => ?_) (fun c30 => ?_)
    · try simp only [cs8] at c30
      have hi1 : i < (usesD D d).length := by omega
      have hul := hU d hd1 _ (List.getElem_mem hi1)
      obtain ⟨tb, tc, htv, htb⟩ := own_some hrt (by omega)
      obtain ⟨ub, uc, huv, hub⟩ := own_some hu26 (by omega)
      rw [htv] at h6
      rw [huv] at h7
      have hcell : w.cell? ⟨ub, 0 + i * 1, none⟩ = some (.int .i64 (((usesD D d)[i] : Nat) : Int)) := by rw [Nat.zero_add, Nat.mul_one]; exact own_cell (huv ▸ hu26) (by rw [List.getElem?_map, List.getElem?_eq_getElem hi1]; rfl)
      refine W.skip ?_
      refine W.seq ?_
      refine W.block ?_
      refine W.region ?_
      refine WL.c rfl (o_mvh h6 ?_)
      refine WL.c rfl (o_mvh h7 ?_)
      refine WL.c rfl (o_mvh h8 ?_)
      refine WL.c rfl (o_ixB (i := i) TI34 TI3 (show _ = Value.slice (some ⟨ub, 0, none⟩) (usesD D d).length uc from rfl) (show _ = Value.int .i64 (i : Int) from rfl) (by omega) ?_)
      refine WL.c rfl (o_ld TI3 rfl rfl hcell ?_)
      refine WL.c rfl (o_ixB (i := (usesD D d)[i]) TI46 TI4 (show _ = Value.slice (some ⟨tb, 0, none⟩) D.length tc from rfl) (show _ = Value.int .i64 (((usesD D d)[i] : Nat) : Int) from rfl) (by omega) ?_)
      refine WL.u (o_stRj TI4 rfl (show 0 + (usesD D d)[i] * 1 = (usesD D d)[i] by omega) (show _ = Value.bool true from rfl) rfl hrt (show Value.ownBlock tv = some tb from htb) (by omega) ?_)
      intro w38 hrtN ho38 hs38
      have hlo : ∀ b, tv.ownBlock = some b → mm ≤ b := fun b hb => (hrt.lt b hb).1
      replace hC1 := ho38.blk hC1 (fun hb => own_off hrt hC1 (by decide) hb)
      replace hav := own_only hav ho38 (own_row_off hrt hav (by decide))
      replace hu26 := own_only hu26 ho38 (own_row_off hrt hu26 (by decide))
      replace hM := hM.only ho38 (fun j hj k hk he => by have := hlq j hj k hk; have := hlo k he; omega)
      replace hx := hx.trans' ho38 (fun _ h => h) (fun b hb he => by have := hlo b he; omega)
      replace hD := hD00.ext hx
      rw [tlB_set] at hrtN
      clear hrt ho38
      refine WL.nil ?_
      refine W.region ?_
      refine WL.c rfl (o_mvh h8 ?_)
      refine WL.c rfl (o_addi rfl rfl (by omega) ?_)
      refine WL.c rfl (o_ash (show _ = Value.int _ _ from rfl) ?_)
      refine WL.nil ?_
      refine ⟨⟨i + 1, by omega, h1, h3, h4, h5, h6.trans htv.symm, h7.trans huv.symm, rfl, by rw [take_next hi1]; exact hrtN, hu26, hav, hM, hD, hC1, hx⟩, ?_⟩
      show (usesD D d).length - ((i : Int) + 1).toNat < _
      rw [hm8]; simp [intOf]; omega
    · try simp only [cs8] at c30
      have hi1 : i = (usesD D d).length := by omega
      rw [hi1, List.take_length] at hrt
      refine W.exit ?_
      refine W.region ?_
      refine WL.c rfl (o_mvh h4 ?_)
      refine WL.c rfl (o_mvh h6 ?_)
      refine WL.apO (BB) rfl rfl TI86 TI46 (show _ = tv from rfl) rfl hav (by decide) (by decide) (by rw [own_cells hrt]; rfl) (one1 (own_one hrt)) rfl (by rw [maxLen_eq]; omega) (by omega) (by rw [hBB]; exact hx.size) ?_
      intro avN w42 havN ho42 hb42 _
      have hlo : ∀ b, av.ownBlock = some b → BB ≤ b := fun b hb => (hav.lt b hb).1
      replace hC1 := ho42.blk hC1 (fun hb => own_off hav hC1 (by decide) hb)
      replace hrt := own_only hrt ho42 (own_row_off hav hrt (by decide))
      replace hM := hM.only ho42 (fun j hj => own_row_off hav (hM.row j hj) (by decide))
      replace hx := hx.trans' ho42 (fun _ h => h) (fun b hb he => by have := hlo b he; omega)
      replace hD := hD00.ext hx
      replace hM := Many.snocG hM hrt hBm hlq rfl rfl
      have hav : w42.ownsRow BB 46 1 avN (d + 1) ((List.range (d + 1)).map (fun j => if j = d then tv else Q j)) := by
        rw [own_cells hrt] at havN
        rw [List.range_succ, List.map_append]
        have e1 : (List.range d).map (fun j => if j = d then tv else Q j) = (List.range d).map Q := List.map_congr_left (fun j hj => by rw [if_neg (by have := List.mem_range.1 hj; omega)])
        have e2 : [d].map (fun j => if j = d then tv else Q j) = [tv] := by simp
        rw [e1, e2]; exact havN
      clear havN ho42
      refine WL.c rfl (o_ash (by first | exact (show _ = Value.slice _ _ _ from rfl) | exact rfl) ?_)
      refine WL.nil ?_
      refine W.region ?_
      refine WL.c rfl (o_mvh h5 ?_)
      refine WL.c rfl (o_addi rfl rfl (by omega) ?_)
      refine WL.c rfl (o_ash (show _ = Value.int _ _ from rfl) ?_)
      refine WL.nil ?_
      refine ⟨⟨d + 1, avN, fun j => if j = d then tv else Q j, by omega, h1, h3, rfl, rfl, hav, hM, hD, hC1, hx⟩, ?_⟩
      show D.length - ((d : Int) + 1).toNat < _
      rw [hm5]; simp [intOf]; omega
  · try simp only [cs8] at c19
    have hd1 : d = D.length := by omega
    subst hd1
    refine W.exit ?_
    refine W.seq ?_
    refine W.seq ?_
    refine W.region ?_
    refine WL.c rfl (o_ash (show _ = Value.int _ _ from rfl) ?_)
    refine WL.nil ?_
    refine W.block ?_
    refine W.loop (fun e w => ∃ k : Nat, k ≤ D.length ∧ e 3 = .int .i64 (D.length : Int) ∧ e 4 = av ∧ e 9 = .int .i64 (k : Int) ∧ w.ownsRow BB 46 1 av D.length ((List.range D.length).map Q) ∧ Many w BB 4 1 D.length Q (fun _ => D.length) (brow D.length (warN D k)) ∧ Ext w0 w) (fun e w => D.length - (intOf (e 9)).toNat) ?_ ?_
    · exact ⟨0, Nat.zero_le _, h3, h4, rfl, hav, hM, hx⟩
    rintro e w ⟨k, hk, h3, h4, h9, hav, hM, hx⟩
    have hm9 := h9
    refine W.seq ?_
    refine W.seq ?_
    refine W.region ?_
    refine WL.c rfl (o_mvh h9 ?_)
    refine WL.c rfl (o_mvh h3 ?_)
    refine WL.c rfl (o_lt rfl rfl ?_)
    refine WL.nil ?_
    refine W.cond rfl (fun c45 => ?_) (fun c45 => ?_)
    · try simp only [cs8] at c45
      have hk1 : k < D.length := by omega
      refine W.skip ?_
      refine W.seq ?_
      refine W.block ?_
      refine W.seq ?_
      refine W.region ?_
      refine WL.c rfl (o_ash (show _ = Value.int _ _ from rfl) ?_)
      refine WL.nil ?_
      refine W.block ?_
      refine W.loop (fun e w => ∃ a : Nat, a ≤ D.length ∧ e 3 = .int .i64 (D.length : Int) ∧ e 4 = av ∧ e 9 = .int .i64 (k : Int) ∧ e 10 = .int .i64 (a : Int) ∧ w.ownsRow BB 46 1 av D.length ((List.range D.length).map Q) ∧ Many w BB 4 1 D.length Q (fun _ => D.length) (brow D.length (mid (warN D k) k a 0)) ∧ Ext w0 w) (fun e w => D.length - (intOf (e 10)).toNat) ?_ ?_
      · exact ⟨0, Nat.zero_le _, h3, h4, h9, rfl, hav, by rw [mid_zero]; exact hM, hx⟩
      rintro e w ⟨a, ha, h3, h4, h9, h10, hav, hM, hx⟩
      have hm10 := h10
      refine W.seq ?_
      refine W.seq ?_
      refine W.region ?_
      refine WL.c rfl (o_mvh h10 ?_)
      refine WL.c rfl (o_mvh h3 ?_)
      refine WL.c rfl (o_lt rfl rfl ?_)
      refine WL.nil ?_
      refine W.cond rfl (fun c50 => ?_) (fun c50 => ?_)
      · try simp only [cs8] at c50
        have ha1 : a < D.length := by omega
        refine W.skip ?_
        refine W.seq ?_
        refine W.block ?_
        refine W.seq ?_
        refine W.region ?_
        refine WL.c rfl (o_ash (show _ = Value.int _ _ from rfl) ?_)
        refine WL.nil ?_
        refine W.block ?_
        refine W.loop (fun e w => ∃ b : Nat, b ≤ D.length ∧ e 3 = .int .i64 (D.length : Int) ∧ e 4 = av ∧ e 9 = .int .i64 (k : Int) ∧ e 10 = .int .i64 (a : Int) ∧ e 11 = .int .i64 (b : Int) ∧ w.ownsRow BB 46 1 av D.length ((List.range D.length).map Q) ∧ Many w BB 4 1 D.length Q (fun _ => D.length) (brow D.length (mid (warN D k) k a b)) ∧ Ext w0 w) (fun e w => D.length - (intOf (e 11)).toNat) ?_ ?_
        · exact ⟨0, Nat.zero_le _, h3, h4, h9, h10, rfl, hav, hM, hx⟩
        rintro e w ⟨b, hb, h3, h4, h9, h10, h11, hav, hM, hx⟩
        have hm11 := h11
        obtain ⟨ab, ac, hab, habb⟩ := own_some hav (by omega)
        obtain ⟨rb, rc, hQa, hrb⟩ := own_some (hM.row a ha1) (by omega)
        obtain ⟨kb, kc, hQk, hkb⟩ := own_some (hM.row k hk1) (by omega)
        rw [hab] at h4
        have ca : w.cell? ⟨ab, 0 + a * 1, none⟩ = some (.slice (some ⟨rb, 0, none⟩) D.length rc) := by rw [Nat.zero_add, Nat.mul_one, ← hQa]; exact own_cell (hab ▸ hav) (by rw [List.getElem?_map, List.getElem?_range ha1]; rfl)
        have ck : w.cell? ⟨ab, 0 + k * 1, none⟩ = some (.slice (some ⟨kb, 0, none⟩) D.length kc) := by rw [Nat.zero_add, Nat.mul_one, ← hQk]; exact own_cell (hab ▸ hav) (by rw [List.getElem?_map, List.getElem?_range hk1]; rfl)
        have cak : w.cell? ⟨rb, 0 + k * 1, none⟩ = some (.bool (warN D k a k)) := by
          rw [Nat.zero_add, Nat.mul_one, ← mid_k (warN D k) k a b a]; exact own_cell (hQa ▸ hM.row a ha1) (brow_at hk1)
        refine W.seq ?_
        refine W.seq ?_
        by_cases hb1 : b < D.length
        by_cases hak : warN D k a k = true
        · skip
          rw [hak] at cak
          have cab : w.cell? ⟨rb, 0 + b * 1, none⟩ = some (.bool (warN D k a b)) := by
            rw [Nat.zero_add, Nat.mul_one, ← mid_at (warN D k) k a b]; exact own_cell (hQa ▸ hM.row a ha1) (brow_at hb1)
          have ckb : w.cell? ⟨kb, 0 + b * 1, none⟩ = some (.bool (warN D k k b)) := by
            rw [Nat.zero_add, Nat.mul_one, ← mid_r (warN D k) k a b b]; exact own_cell (hQk ▸ hM.row k hk1) (brow_at hb1)
          refine W.region ?_
          refine WL.c rfl (o_mvh h11 ?_)
          refine WL.c rfl (o_mvh h3 ?_)
          refine WL.c rfl (o_lt rfl rfl ?_)
          refine WL.c rfl (o_mvh (show _ = Value.bool _ from rfl) ?_)
          refine WL.g rfl (decide_eq_true (by omega)) rfl (o_mvh h4 ?_)
          refine WL.g rfl (decide_eq_true (by omega)) rfl (o_mvh h10 ?_)
          refine WL.g rfl (decide_eq_true (by omega)) rfl (o_ixB (i := a) TI86 TI46 (show _ = Value.slice (some ⟨ab, 0, none⟩) D.length ac from rfl) (show _ = Value.int .i64 (a : Int) from rfl) (by omega) ?_)
          refine WL.g rfl (decide_eq_true (by omega)) rfl (o_ld TI46 rfl rfl ca ?_)
          refine WL.g rfl (decide_eq_true (by omega)) rfl (o_mvh h9 ?_)
          refine WL.g rfl (decide_eq_true (by omega)) rfl (o_ixB (i := k) TI46 TI4 (show _ = Value.slice (some ⟨rb, 0, none⟩) D.length rc from rfl) (show _ = Value.int .i64 (k : Int) from rfl) (by omega) ?_)
          refine WL.g rfl (decide_eq_true (by omega)) rfl (o_ld TI4 rfl rfl cak ?_)
          refine WL.c rfl (o_pickA rfl rfl ?_)
          refine WL.nil ?_
          refine W.condT' rfl (by rw [Bool.and_true]; exact decide_eq_true (by omega)) ?_
          refine W.skip ?_
          refine W.seq ?_
          refine W.block ?_
          by_cases hMt : warN D k a b = true
          · skip
            have hval : true = (warN D k a b || warN D k k b) := by rw [hMt]; rfl
            obtain ⟨wd, hwd⟩ : ∃ wd, wd = w.drew := ⟨_, rfl⟩
            have hxd : Ext w wd := hwd ▸ Only.drew w
            replace hx := hx.tr hxd
            replace hM := hM.ext hxd
            replace hav := own_ext hav hxd
            replace ca := hxd.cell ca (fun h => h)
            replace ck := hxd.cell ck (fun h => h)
            replace cab := hxd.cell cab (fun h => h)
            replace ckb := hxd.cell ckb (fun h => h)
            refine W.drawT 21 (Ext) [(3, fun v _ => v = _), (4, fun v _ => v = _), (9, fun v _ => v = _), (10, fun v _ => v = _), (11, fun v _ => v = _)] rfl (by kernel_rfl) (Only.refl No) (fun _ _ _ h k => h.trans k) ⟨Mono.eq, Mono.eq, Mono.eq, Mono.eq, Mono.eq, trivial⟩ ⟨h3, h4, h9, h10, h11, trivial⟩ ?_
            refine WD.p rfl (fun e w hR hh => by obtain ⟨h4, -⟩ := hh; exact SG.n (o_mvh h4 ⟨rfl, Only.refl No _⟩)) ?_
            refine WD.p rfl (fun e w hR hh => by obtain ⟨h10, -⟩ := hh; exact SG.n (o_mvh h10 ⟨rfl, Only.refl No _⟩)) ?_
            refine WD.p rfl (fun e w hR hh => by obtain ⟨h68, h67, -⟩ := hh; exact SG.n (o_ixB (i := a) TI86 TI46 (show _ = Value.slice (some ⟨ab, 0, none⟩) D.length ac from h67) (show _ = Value.int .i64 (a : Int) from h68) (by omega) ⟨rfl, Only.refl No _⟩)) ?_
            refine WD.p rfl (fun e w hR hh => by obtain ⟨h69, -⟩ := hh; rw [← hwd] at hR; exact SG.n (o_ld TI46 rfl h69 (hR.cell ca (fun h => h)) ⟨rfl, Only.refl No _⟩)) ?_
            refine WD.p rfl (fun e w hR hh => by obtain ⟨h11, -⟩ := hh; exact SG.n (o_mvh h11 ⟨rfl, Only.refl No _⟩)) ?_
            refine WD.p rfl (fun e w hR hh => by obtain ⟨h4, -⟩ := hh; exact SG.n (o_mvh h4 ⟨rfl, Only.refl No _⟩)) ?_
            refine WD.p rfl (fun e w hR hh => by obtain ⟨h10, -⟩ := hh; exact SG.n (o_mvh h10 ⟨rfl, Only.refl No _⟩)) ?_
            refine WD.p rfl (fun e w hR hh => by obtain ⟨h73, h72, -⟩ := hh; exact SG.n (o_ixB (i := a) TI86 TI46 (show _ = Value.slice (some ⟨ab, 0, none⟩) D.length ac from h72) (show _ = Value.int .i64 (a : Int) from h73) (by omega) ⟨rfl, Only.refl No _⟩)) ?_
            refine WD.p rfl (fun e w hR hh => by obtain ⟨h74, -⟩ := hh; rw [← hwd] at hR; exact SG.n (o_ld TI46 rfl h74 (hR.cell ca (fun h => h)) ⟨rfl, Only.refl No _⟩)) ?_
            refine WD.p rfl (fun e w hR hh => by obtain ⟨h11, -⟩ := hh; exact SG.n (o_mvh h11 ⟨rfl, Only.refl No _⟩)) ?_
            refine WD.p rfl (fun e w hR hh => by obtain ⟨h76, h75, -⟩ := hh; exact SG.n (o_ixB (i := b) TI46 TI4 (show _ = Value.slice (some ⟨rb, 0, none⟩) D.length rc from h75) (show _ = Value.int .i64 (b : Int) from h76) (by omega) ⟨rfl, Only.refl No _⟩)) ?_
            refine WD.p rfl (fun e w hR hh => by obtain ⟨h77, -⟩ := hh; rw [← hwd] at hR; exact SG.n (o_ld TI4 rfl h77 (hR.cell cab (fun h => h)) ⟨rfl, Only.refl No _⟩)) ?_
            refine WD.p rfl (fun e w hR hh => by obtain ⟨h78, -⟩ := hh; exact SG.n (o_mvh h78 ⟨rfl, Only.refl No _⟩)) ?_
            refine WD.p rfl (fun e w hR hh => by obtain ⟨h79, h4, -⟩ := hh; exact SG.s h79 (hMt) ⟨rfl, Only.refl No _⟩) ?_
            refine WD.p rfl (fun e w hR hh => by obtain ⟨h79, h9, -⟩ := hh; exact SG.s h79 (hMt) ⟨rfl, Only.refl No _⟩) ?_
            refine WD.p rfl (fun e w hR hh => by obtain ⟨h81, h80, h79, -⟩ := hh; exact SG.s h79 (hMt) ⟨rfl, Only.refl No _⟩) ?_
            refine WD.p rfl (fun e w hR hh => by obtain ⟨h82, h79, -⟩ := hh; rw [← hwd] at hR; exact SG.s h79 (hMt) ⟨rfl, Only.refl No _⟩) ?_
            refine WD.p rfl (fun e w hR hh => by obtain ⟨h79, h11, -⟩ := hh; exact SG.s h79 (hMt) ⟨rfl, Only.refl No _⟩) ?_
            refine WD.p rfl (fun e w hR hh => by obtain ⟨h84, h83, h79, -⟩ := hh; exact SG.s h79 (hMt) ⟨rfl, Only.refl No _⟩) ?_
            refine WD.p rfl (fun e w hR hh => by obtain ⟨h85, h79, -⟩ := hh; rw [← hwd] at hR; exact SG.s h79 (hMt) ⟨rfl, Only.refl No _⟩) ?_
            refine WD.p rfl (fun e w hR hh => by obtain ⟨h86, h79, -⟩ := hh; exact SG.n (o_pickT h79 (hMt) ⟨rfl, Only.refl No _⟩)) ?_
            rintro e w hR ⟨h87, h86, h85, h84, h83, h82, h81, h80, h79, h78, h77, h76, h75, h74, h73, h72, h71, h70, h69, h68, h67, h3, h4, h9, h10, h11, -⟩
            rw [← hwd] at hR
            replace hx := hx.tr hR
            replace hM := hM.ext hR
            replace hav := own_ext hav hR
            refine WL.c rfl (o_ixB (i := b) TI46 TI4 (show _ = Value.slice (some ⟨rb, 0, none⟩) D.length rc from h70) (show _ = Value.int .i64 (b : Int) from h71) (by omega) ?_)
            refine WL.u (o_stRj TI4 rfl (show 0 + b * 1 = b by omega) (show _ = Value.bool true from h87) rfl (hM.row a ha1) (show (Q a).ownBlock = some rb from hrb) (by omega) ?_)
            intro w88 hr88 ho88 hs88
            have hlo : ∀ b, (Q a).ownBlock = some b → BB ≤ b := fun b hb => (hM.lt ha1 hb).1
            have havN := own_only hav ho88 (own_row_off (hM.row a ha1) hav (by decide))
            have hxN := hx.trans' ho88 (fun _ h => h) (fun b hb he => by have := hlo b he; omega)
            have hMN := (Many.set hM ha1 ho88 hr88).congr (fun _ _ => rfl) (n' := fun _ => D.length) (X' := brow D.length (mid (warN D k) k a (b + 1))) (fun j hj => by split <;> rfl) (fun j hj => by
              by_cases e : j = a
              · rw [if_pos e, e]; exact (mid_set hak hval).symm
              · rw [if_neg e]; exact mid_off _ e)
            refine WL.nil ?_
            refine W.region ?_
            refine WL.c rfl (o_mvh h11 ?_)
            refine WL.c rfl (o_addi rfl rfl (by omega) ?_)
            refine WL.c rfl (o_ash (show _ = Value.int _ _ from rfl) ?_)
            refine WL.nil ?_
            refine ⟨⟨b + 1, by omega, h3, h4.trans hab.symm, h9, h10, rfl, havN, hMN, hxN⟩, ?_⟩
            show D.length - ((b : Int) + 1).toNat < _
            rw [hm11]; simp [intOf]; omega
          · skip
            have hMf : warN D k a b = false := by simpa using hMt
            have hval : (warN D k a b || warN D k k b) = (warN D k a b || warN D k k b) := rfl
            obtain ⟨wd, hwd⟩ : ∃ wd, wd = w.drew := ⟨_, rfl⟩
            have hxd : Ext w wd := hwd ▸ Only.drew w
            replace hx := hx.tr hxd
            replace hM := hM.ext hxd
            replace hav := own_ext hav hxd
            replace ca := hxd.cell ca (fun h => h)
            replace ck := hxd.cell ck (fun h => h)
            replace cab := hxd.cell cab (fun h => h)
            replace ckb := hxd.cell ckb (fun h => h)
            refine W.drawT 21 (Ext) [(3, fun v _ => v = _), (4, fun v _ => v = _), (9, fun v _ => v = _), (10, fun v _ => v = _), (11, fun v _ => v = _)] rfl (by kernel_rfl) (Only.refl No) (fun _ _ _ h k => h.trans k) ⟨Mono.eq, Mono.eq, Mono.eq, Mono.eq, Mono.eq, trivial⟩ ⟨h3, h4, h9, h10, h11, trivial⟩ ?_
            refine WD.p rfl (fun e w hR hh => by obtain ⟨h4, -⟩ := hh; exact SG.n (o_mvh h4 ⟨rfl, Only.refl No _⟩)) ?_
            refine WD.p rfl (fun e w hR hh => by obtain ⟨h10, -⟩ := hh; exact SG.n (o_mvh h10 ⟨rfl, Only.refl No _⟩)) ?_
            refine WD.p rfl (fun e w hR hh => by obtain ⟨h68, h67, -⟩ := hh; exact SG.n (o_ixB (i := a) TI86 TI46 (show _ = Value.slice (some ⟨ab, 0, none⟩) D.length ac from h67) (show _ = Value.int .i64 (a : Int) from h68) (by omega) ⟨rfl, Only.refl No _⟩)) ?_
            refine WD.p rfl (fun e w hR hh => by obtain ⟨h69, -⟩ := hh; rw [← hwd] at hR; exact SG.n (o_ld TI46 rfl h69 (hR.cell ca (fun h => h)) ⟨rfl, Only.refl No _⟩)) ?_
            refine WD.p rfl (fun e w hR hh => by obtain ⟨h11, -⟩ := hh; exact SG.n (o_mvh h11 ⟨rfl, Only.refl No _⟩)) ?_
            refine WD.p rfl (fun e w hR hh => by obtain ⟨h4, -⟩ := hh; exact SG.n (o_mvh h4 ⟨rfl, Only.refl No _⟩)) ?_
            refine WD.p rfl (fun e w hR hh => by obtain ⟨h10, -⟩ := hh; exact SG.n (o_mvh h10 ⟨rfl, Only.refl No _⟩)) ?_
            refine WD.p rfl (fun e w hR hh => by obtain ⟨h73, h72, -⟩ := hh; exact SG.n (o_ixB (i := a) TI86 TI46 (show _ = Value.slice (some ⟨ab, 0, none⟩) D.length ac from h72) (show _ = Value.int .i64 (a : Int) from h73) (by omega) ⟨rfl, Only.refl No _⟩)) ?_
            refine WD.p rfl (fun e w hR hh => by obtain ⟨h74, -⟩ := hh; rw [← hwd] at hR; exact SG.n (o_ld TI46 rfl h74 (hR.cell ca (fun h => h)) ⟨rfl, Only.refl No _⟩)) ?_
            refine WD.p rfl (fun e w hR hh => by obtain ⟨h11, -⟩ := hh; exact SG.n (o_mvh h11 ⟨rfl, Only.refl No _⟩)) ?_
            refine WD.p rfl (fun e w hR hh => by obtain ⟨h76, h75, -⟩ := hh; exact SG.n (o_ixB (i := b) TI46 TI4 (show _ = Value.slice (some ⟨rb, 0, none⟩) D.length rc from h75) (show _ = Value.int .i64 (b : Int) from h76) (by omega) ⟨rfl, Only.refl No _⟩)) ?_
            refine WD.p rfl (fun e w hR hh => by obtain ⟨h77, -⟩ := hh; rw [← hwd] at hR; exact SG.n (o_ld TI4 rfl h77 (hR.cell cab (fun h => h)) ⟨rfl, Only.refl No _⟩)) ?_
            refine WD.p rfl (fun e w hR hh => by obtain ⟨h78, -⟩ := hh; exact SG.n (o_mvh h78 ⟨rfl, Only.refl No _⟩)) ?_
            refine WD.p rfl (fun e w hR hh => by obtain ⟨h79, h4, -⟩ := hh; exact SG.g h79 (hMf) (o_mvh h4 ⟨rfl, Only.refl No _⟩)) ?_
            refine WD.p rfl (fun e w hR hh => by obtain ⟨h79, h9, -⟩ := hh; exact SG.g h79 (hMf) (o_mvh h9 ⟨rfl, Only.refl No _⟩)) ?_
            refine WD.p rfl (fun e w hR hh => by obtain ⟨h81, h80, h79, -⟩ := hh; exact SG.g h79 (hMf) (o_ixB (i := k) TI86 TI46 (show _ = Value.slice (some ⟨ab, 0, none⟩) D.length ac from h80) (show _ = Value.int .i64 (k : Int) from h81) (by omega) ⟨rfl, Only.refl No _⟩)) ?_
            refine WD.p rfl (fun e w hR hh => by obtain ⟨h82, h79, -⟩ := hh; rw [← hwd] at hR; exact SG.g h79 (hMf) (o_ld TI46 rfl h82 (hR.cell ck (fun h => h)) ⟨rfl, Only.refl No _⟩)) ?_
            refine WD.p rfl (fun e w hR hh => by obtain ⟨h79, h11, -⟩ := hh; exact SG.g h79 (hMf) (o_mvh h11 ⟨rfl, Only.refl No _⟩)) ?_
            refine WD.p rfl (fun e w hR hh => by obtain ⟨h84, h83, h79, -⟩ := hh; exact SG.g h79 (hMf) (o_ixB (i := b) TI46 TI4 (show _ = Value.slice (some ⟨kb, 0, none⟩) D.length kc from h83) (show _ = Value.int .i64 (b : Int) from h84) (by omega) ⟨rfl, Only.refl No _⟩)) ?_
            refine WD.p rfl (fun e w hR hh => by obtain ⟨h85, h79, -⟩ := hh; rw [← hwd] at hR; exact SG.g h79 (hMf) (o_ld TI4 rfl h85 (hR.cell ckb (fun h => h)) ⟨rfl, Only.refl No _⟩)) ?_
            refine WD.p rfl (fun e w hR hh => by obtain ⟨h86, h79, -⟩ := hh; exact SG.n (o_pickO h79 h86 ⟨rfl, Only.refl No _⟩)) ?_
            rintro e w hR ⟨h87, h86, h85, h84, h83, h82, h81, h80, h79, h78, h77, h76, h75, h74, h73, h72, h71, h70, h69, h68, h67, h3, h4, h9, h10, h11, -⟩
            rw [← hwd] at hR
            replace hx := hx.tr hR
            replace hM := hM.ext hR
            replace hav := own_ext hav hR
            refine WL.c rfl (o_ixB (i := b) TI46 TI4 (show _ = Value.slice (some ⟨rb, 0, none⟩) D.length rc from h70) (show _ = Value.int .i64 (b : Int) from h71) (by omega) ?_)
            refine WL.u (o_stRj TI4 rfl (show 0 + b * 1 = b by omega) (show _ = Value.bool (warN D k a b || warN D k k b) from h87) rfl (hM.row a ha1) (show (Q a).ownBlock = some rb from hrb) (by omega) ?_)
            intro w88 hr88 ho88 hs88
            have hlo : ∀ b, (Q a).ownBlock = some b → BB ≤ b := fun b hb => (hM.lt ha1 hb).1
            have havN := own_only hav ho88 (own_row_off (hM.row a ha1) hav (by decide))
            have hxN := hx.trans' ho88 (fun _ h => h) (fun b hb he => by have := hlo b he; omega)
            have hMN := (Many.set hM ha1 ho88 hr88).congr (fun _ _ => rfl) (n' := fun _ => D.length) (X' := brow D.length (mid (warN D k) k a (b + 1))) (fun j hj => by split <;> rfl) (fun j hj => by
              by_cases e : j = a
              · rw [if_pos e, e]; exact (mid_set hak hval).symm
              · rw [if_neg e]; exact mid_off _ e)
            refine WL.nil ?_
            refine W.region ?_
            refine WL.c rfl (o_mvh h11 ?_)
            refine WL.c rfl (o_addi rfl rfl (by omega) ?_)
            refine WL.c rfl (o_ash (show _ = Value.int _ _ from rfl) ?_)
            refine WL.nil ?_
            refine ⟨⟨b + 1, by omega, h3, h4.trans hab.symm, h9, h10, rfl, havN, hMN, hxN⟩, ?_⟩
            show D.length - ((b : Int) + 1).toNat < _
            rw [hm11]; simp [intOf]; omega
        · skip
          have hakf : warN D k a k = false := by simpa using hak
          rw [hakf] at cak
          refine W.region ?_
          refine WL.c rfl (o_mvh h11 ?_)
          refine WL.c rfl (o_mvh h3 ?_)
          refine WL.c rfl (o_lt rfl rfl ?_)
          refine WL.c rfl (o_mvh (show _ = Value.bool _ from rfl) ?_)
          refine WL.g rfl (decide_eq_true (by omega)) rfl (o_mvh h4 ?_)
          refine WL.g rfl (decide_eq_true (by omega)) rfl (o_mvh h10 ?_)
          refine WL.g rfl (decide_eq_true (by omega)) rfl (o_ixB (i := a) TI86 TI46 (show _ = Value.slice (some ⟨ab, 0, none⟩) D.length ac from rfl) (show _ = Value.int .i64 (a : Int) from rfl) (by omega) ?_)
          refine WL.g rfl (decide_eq_true (by omega)) rfl (o_ld TI46 rfl rfl ca ?_)
          refine WL.g rfl (decide_eq_true (by omega)) rfl (o_mvh h9 ?_)
          refine WL.g rfl (decide_eq_true (by omega)) rfl (o_ixB (i := k) TI46 TI4 (show _ = Value.slice (some ⟨rb, 0, none⟩) D.length rc from rfl) (show _ = Value.int .i64 (k : Int) from rfl) (by omega) ?_)
          refine WL.g rfl (decide_eq_true (by omega)) rfl (o_ld TI4 rfl rfl cak ?_)
          refine WL.c rfl (o_pickA rfl rfl ?_)
          refine WL.nil ?_
          have hnx : warN D k a k = false ∨ b = D.length := .inl hakf
          replace h4 := h4.trans hab.symm
          refine W.condF' rfl (Bool.and_false _) ?_
          refine W.exit ?_
          refine W.region ?_
          refine WL.c rfl (o_mvh h10 ?_)
          refine WL.c rfl (o_addi rfl rfl (by omega) ?_)
          refine WL.c rfl (o_ash (show _ = Value.int _ _ from rfl) ?_)
          refine WL.nil ?_
          refine ⟨⟨a + 1, by omega, h3, h4, h9, rfl, hav, hM.congr (fun _ _ => rfl) (fun _ _ => rfl) (fun j hj => mid_next _ hnx j), hx⟩, ?_⟩
          show D.length - ((a : Int) + 1).toNat < _
          rw [hm10]; simp [intOf]; omega
        · skip
          skip
          refine W.region ?_
          refine WL.c rfl (o_mvh h11 ?_)
          refine WL.c rfl (o_mvh h3 ?_)
          refine WL.c rfl (o_lt rfl rfl ?_)
          refine WL.c rfl (o_mvh (show _ = Value.bool _ from rfl) ?_)
          refine WL.s rfl (decide_eq_false (by omega)) rfl ?_
          refine WL.s rfl (decide_eq_false (by omega)) rfl ?_
          refine WL.s rfl (decide_eq_false (by omega)) rfl ?_
          refine WL.s rfl (decide_eq_false (by omega)) rfl ?_
          refine WL.s rfl (decide_eq_false (by omega)) rfl ?_
          refine WL.s rfl (decide_eq_false (by omega)) rfl ?_
          refine WL.s rfl (decide_eq_false (by omega)) rfl ?_
          refine WL.c rfl (o_pickF rfl (decide_eq_false (by omega)) ?_)
          refine WL.nil ?_
          have hnx : warN D k a k = false ∨ b = D.length := .inr (by omega)
          replace h4 := h4.trans hab.symm
          refine W.condF' rfl (rfl) ?_
          refine W.exit ?_
          refine W.region ?_
          refine WL.c rfl (o_mvh h10 ?_)
          refine WL.c rfl (o_addi rfl rfl (by omega) ?_)
          refine WL.c rfl (o_ash (show _ = Value.int _ _ from rfl) ?_)
          refine WL.nil ?_
          refine ⟨⟨a + 1, by omega, h3, h4, h9, rfl, hav, hM.congr (fun _ _ => rfl) (fun _ _ => rfl) (fun j hj => mid_next _ hnx j), hx⟩, ?_⟩
          show D.length - ((a : Int) + 1).toNat < _
          rw [hm10]; simp [intOf]; omega
      · try simp only [cs8] at c50
        have ha1 : a = D.length := by omega
        subst ha1
        refine W.exit ?_
        refine W.region ?_
        refine WL.c rfl (o_mvh h9 ?_)
        refine WL.c rfl (o_addi rfl rfl (by omega) ?_)
        refine WL.c rfl (o_ash (show _ = Value.int _ _ from rfl) ?_)
        refine WL.nil ?_
        refine ⟨⟨k + 1, by omega, h3, h4, rfl, hav, hM.congr (fun _ _ => rfl) (fun _ _ => rfl) (fun j hj => mid_end _ hj), hx⟩, ?_⟩
        show D.length - ((k : Int) + 1).toNat < _
        rw [hm9]; simp [intOf]; omega
    · try simp only [cs8] at c45
      have hk1 : k = D.length := by omega
      subst hk1
      refine W.exit ?_
      refine W.seq ?_
      obtain ⟨HH, hHH⟩ : ∃ m, m = w.heap.size := ⟨_, rfl⟩
      have hBH : BB ≤ HH := by rw [hBB, hHH]; exact hx.size
      have hlq : ∀ j, j < D.length → ∀ k, (Q j).ownBlock = some k → k < HH := fun j hj k hk => by rw [hHH]; exact (hM.lt hj hk).2
      refine W.region ?_
      refine WL.c rfl (o_ash (by first | exact (show _ = Value.slice _ _ _ from rfl) | exact rfl) ?_)
      refine WL.nil ?_
      refine W.seq ?_
      refine W.seq ?_
      refine W.region ?_
      refine WL.c rfl (o_ash (show _ = Value.int _ _ from rfl) ?_)
      refine WL.nil ?_
      refine W.block ?_
      refine W.loop (fun e w => ∃ (d : Nat) (ov : Value), d ≤ D.length ∧ e 3 = .int .i64 (D.length : Int) ∧ e 4 = av ∧ e 12 = ov ∧ e 13 = .int .i64 (d : Int) ∧ HH ≤ w.heap.size ∧ w.ownsRow HH 4 1 ov d ((List.range d).map fun d => Value.bool (warN D D.length d d)) ∧ w.ownsRow BB 46 1 av D.length ((List.range D.length).map Q) ∧ Many w BB 4 1 D.length Q (fun _ => D.length) (brow D.length (warN D D.length)) ∧ Ext w0 w) (fun e w => D.length - (intOf (e 13)).toNat) ?_ ?_
      · exact ⟨0, .slice none 0 0, Nat.zero_le _, h3, h4, rfl, rfl, by rw [hHH]; exact Nat.le_refl _, World.ownsRow_nil _ _ _ _, hav, hM, hx⟩
      rintro e w ⟨d, ov, hd, h3, h4, h12, h13, hHw, hro, hav, hM, hx⟩
      have hm13 := h13
      refine W.seq ?_
      refine W.seq ?_
      refine W.region ?_
      refine WL.c rfl (o_mvh h13 ?_)
      refine WL.c rfl (o_mvh h3 ?_)
      refine WL.c rfl (o_lt rfl rfl ?_)
      refine WL.nil ?_
      refine W.cond rfl (fun c91 => ?_) (fun c91 => ?_)
      · try simp only [cs8] at c91
        have hd1 : d < D.length := by omega
        obtain ⟨ab, ac, hab, habb⟩ := own_some hav (by omega)
        obtain ⟨rb, rc, hQa, hrb⟩ := own_some (hM.row d hd1) (by omega)
        rw [hab] at h4
        have ca : w.cell? ⟨ab, 0 + d * 1, none⟩ = some (.slice (some ⟨rb, 0, none⟩) D.length rc) := by rw [Nat.zero_add, Nat.mul_one, ← hQa]; exact own_cell (hab ▸ hav) (by rw [List.getElem?_map, List.getElem?_range hd1]; rfl)
        have cd : w.cell? ⟨rb, 0 + d * 1, none⟩ = some (.bool (warN D D.length d d)) := by
          rw [Nat.zero_add, Nat.mul_one]; exact own_cell (hQa ▸ hM.row d hd1) (brow_at hd1)
        refine W.skip ?_
        refine W.seq ?_
        refine W.block ?_
        refine W.region ?_
        refine WL.c rfl (o_mvh h12 ?_)
        refine WL.c rfl (o_mvh h4 ?_)
        refine WL.c rfl (o_mvh h13 ?_)
        refine WL.c rfl (o_ixB (i := d) TI86 TI46 (show _ = Value.slice (some ⟨ab, 0, none⟩) D.length ac from rfl) (show _ = Value.int .i64 (d : Int) from rfl) (by omega) ?_)
        refine WL.c rfl (o_ld TI46 rfl rfl ca ?_)
        refine WL.c rfl (o_mvh h13 ?_)
        refine WL.c rfl (o_ixB (i := d) TI46 TI4 (show _ = Value.slice (some ⟨rb, 0, none⟩) D.length rc from rfl) (show _ = Value.int .i64 (d : Int) from rfl) (by omega) ?_)
        refine WL.c rfl (o_ld TI4 rfl rfl cd ?_)
        refine WL.apO (HH) rfl rfl TI46 TI4 (show _ = Value.bool _ from rfl) rfl hro (by decide) (by decide) rfl (one1 rfl) rfl (by rw [maxLen_eq]; omega) (by omega) hHw ?_
        intro ovN w103 hroN ho103 hb103 _
        have hlo : ∀ b, ov.ownBlock = some b → HH ≤ b := fun b hb => (hro.lt b hb).1
        replace hav := own_only hav ho103 (own_row_off hro hav (by decide))
        replace hM := hM.only ho103 (fun j hj k hk he => by have := hlq j hj k hk; have := hlo k he; omega)
        replace hx := hx.trans' ho103 (fun _ h => h) (fun b hb he => by have := hlo b he; omega)
        replace hHw := Nat.le_trans hHw ho103.size
        replace hroN : w103.ownsRow HH 4 1 ovN (d + 1) ((List.range (d + 1)).map fun d => Value.bool (warN D D.length d d)) := by
          rw [List.range_succ, List.map_append]; exact hroN
        clear hro ho103
        refine WL.c rfl (o_ash (by first | exact (show _ = Value.slice _ _ _ from rfl) | exact rfl) ?_)
        refine WL.nil ?_
        refine W.region ?_
        refine WL.c rfl (o_mvh h13 ?_)
        refine WL.c rfl (o_addi rfl rfl (by omega) ?_)
        refine WL.c rfl (o_ash (show _ = Value.int _ _ from rfl) ?_)
        refine WL.nil ?_
        refine ⟨⟨d + 1, ovN, by omega, h3, h4.trans hab.symm, rfl, rfl, hHw, hroN, hav, hM, hx⟩, ?_⟩
        show D.length - ((d : Int) + 1).toNat < _
        rw [hm13]; simp [intOf]; omega
      · try simp only [cs8] at c91
        have hd1 : d = D.length := by omega
        subst hd1
        refine W.exit ?_
        refine W.seq ?_
        refine W.region ?_
        refine WL.c rfl (o_mvh h12 ?_)
        refine WL.c rfl (o_ash (by first | exact (show _ = Value.slice _ _ _ from rfl) | exact rfl) ?_)
        refine WL.nil ?_
        refine W.ret ?_
        refine ret1v rfl rfl ?_
        exact ⟨own_mono hro hBH, hx⟩
end Go.Proofs.Ytgcehajdldicfaa

set_option linter.unusedSimpArgs false
set_option linter.unusedVariables false
set_option maxRecDepth 100000
namespace Go.Proofs.Ytgcehajdldicfaa
open Go Go.Vc Go.RowKit Go.Proofs

def rdyB (D : List Df) (out : List Nat) (i q : Nat) : Bool := !(out.contains i) && ((usesD D i).take q).all (fun k => out.contains k)
theorem rdy_zero (D : List Df) (out : List Nat) (i : Nat) : rdyB D out i 0 = !(out.contains i) := by
  unfold rdyB
  simp
theorem rdy_next {D : List Df} {out : List Nat} {i q : Nat} (h : q < (usesD D i).length) : rdyB D out i (q + 1) = (rdyB D out i q && out.contains (usesD D i)[q]) := by
  unfold rdyB
  rw [take_next h, List.all_append, Bool.and_assoc]
  simp
theorem rdy_all {D : List Df} {out : List Nat} {i : Nat} : rdyB D out i (usesD D i).length = true ↔ i ∉ out ∧ ∀ k ∈ usesD D i, k ∈ out := by
  unfold rdyB
  rw [List.take_length]
  simp

set_option maxHeartbeats 4000000 in
theorem rorder_spec (D : List Df) (dv : Value) (V : Nat → Value) (w0 : World) (hD : DefR w0 D dv V) (hlim : DOk D) (hU : ∀ i, i < D.length → ∀ j ∈ usesD D i, j < D.length) (hac : ∀ i, i < D.length → ¬ Relation.TransGen (Us (usesD D)) i i) : Ca Try.prog 30 #[.agg #[dv]] w0 (fun v w' => w'.ownsRow w0.heap.size 3 1 v (ordN D).length ((ordN D).map iv) ∧ Ext w0 w') := by
  have hlen := hlim.len
  obtain ⟨BB, hBB⟩ : ∃ B, B = w0.heap.size := ⟨_, rfl⟩
  rw [← hBB]
  have hD00 := hD
  refine Ca.of Try.func30 Try.ntmps30 rfl rfl ?_
  refine W.seq ?_
  refine W.region ?_
  refine WL.c rfl (o_boxB rfl ?_)
  intro w1 hC1 hx1 hs1
  obtain ⟨b1, hb1⟩ : ∃ b, b = w0.heap.size := ⟨_, rfl⟩
  rw [← hb1] at hC1 ⊢
  replace hC1 : w1.heap[b1]? = some (.cells ([dv]).toArray 24 (0, 0)) := hC1
  have hx := hx1
  replace hD := hD.ext hx1
  refine WL.c rfl (o_ash (by first | exact (show _ = Value.slice _ _ _ from rfl) | exact rfl) ?_)
  refine WL.nil ?_
  refine W.seq ?_
  refine W.region ?_
  refine WL.c rfl (o_fa 0 TI24 rfl TI22 rfl rfl ?_)
  refine WL.c rfl (o_ld TI22 rfl rfl (cell_of hC1 rfl) ?_)
  refine WL.c rfl (o_lenR TI22 rfl hD.row ?_)
  refine WL.c rfl (o_ash (show _ = Value.int _ _ from rfl) ?_)
  refine WL.nil ?_
  refine W.seq ?_
  refine W.region ?_
  refine WL.c rfl (o_mvh (show _ = Value.int _ _ from rfl) ?_)
  refine WL.c rfl (o_mk2 TI46 TI4 (l := D.length) (n := D.length) rfl rfl (Nat.le_refl _) (by omega) (by omega) ?_)
  have hrt := own_made1 (w := w1) (el := 4) (l := D.length) (n := D.length) (z := .bool false) rfl (Nat.le_refl _) (by omega)
  have hxb : Ext w1 (w1.alloc (.cells (madeCells (Value.bool false).cells (D.length * 1)) 4)) := Only.alloc w1 _
  generalize w1.alloc (.cells (madeCells (Value.bool false).cells (D.length * 1)) 4) = wt at hrt hxb ⊢
  obtain ⟨tv, htv⟩ : ∃ o, o = Value.slice (some ⟨w1.heap.size, 0, none⟩) D.length D.length := ⟨_, rfl⟩
  rw [← htv] at hrt ⊢
  rw [← tlB_nil] at hrt
  replace hrt := own_mono hrt (show BB ≤ w1.heap.size by rw [hBB]; exact hx.size)
  replace hx := hx.tr hxb
  replace hD := hD.ext hxb
  replace hC1 := hxb.blk hC1 (fun h => h)
  clear hxb htv
  refine WL.c rfl (o_ash (by first | exact (show _ = Value.slice _ _ _ from rfl) | exact rfl) ?_)
  refine WL.nil ?_
  refine W.seq ?_
  refine W.region ?_
  refine WL.c rfl (o_ash (by first | exact (show _ = Value.slice _ _ _ from rfl) | exact rfl) ?_)
  refine WL.nil ?_
  refine W.seq ?_
  refine W.seq ?_
  refine W.region ?_
  refine WL.c rfl (o_ash (show _ = Value.int _ _ from rfl) ?_)
  refine WL.nil ?_
  refine W.block ?_
  refine W.loop (fun e w => ∃ (d : Nat) (av : Value) (Q : Nat → Value), d ≤ D.length ∧ e 1 = .pointer (some ⟨b1, 0, none⟩) ∧ e 3 = .int .i64 (D.length : Int) ∧ e 4 = tv ∧ e 5 = av ∧ e 6 = .int .i64 (d : Int) ∧ w.ownsRow BB 4 1 tv D.length (tlB D.length []) ∧ w.ownsRow BB 34 1 av d ((List.range d).map Q) ∧ Many w BB 3 1 d Q (fun j => (usesD D j).length) (fun j => (usesD D j).map iv) ∧ DefR w D dv V ∧ w.heap[b1]? = some (.cells #[dv] 24 (0, 0)) ∧ Ext w0 w) (fun e w => D.length - (intOf (e 6)).toNat) ?_ ?_
  · exact ⟨0, .slice none 0 0, fun _ => undef, Nat.zero_le _, rfl, rfl, rfl, rfl, rfl, hrt, World.ownsRow_nil _ _ _ _, Many.zero, hD, hC1, hx⟩
  rintro e w ⟨d, av, Q, hd, h1, h3, h4, h5, h6, hrt, hav, hM, hD, hC1, hx⟩
  have hm6 := h6
  refine W.seq ?_
  refine W.seq ?_
  refine W.region ?_
  refine WL.c rfl (o_mvh h6 ?_)
  refine WL.c rfl (o_mvh h3 ?_)
  refine WL.c rfl (o_lt rfl rfl ?_)
  refine WL.nil ?_
  refine W.cond rfl (fun c18 => ?_) (fun c18 => ?_)
  · try simp only [cs8] at c18
    have hd1 : d < D.length := by omega
    have hBm : BB ≤ w.heap.size := by rw [hBB]; exact hx.size
    have hlq : ∀ j, j < d → ∀ k, (Q j).ownBlock = some k → k < w.heap.size := fun j hj k hk => (hM.lt hj hk).2
    obtain ⟨mm, hmm⟩ : ∃ m, m = w.heap.size := ⟨_, rfl⟩
    refine W.skip ?_
    refine W.seq ?_
    refine W.block ?_
    refine W.region ?_
    refine WL.c rfl (o_mvh h5 ?_)
    refine WL.c rfl (o_ldA TI24 rfl h1 (show Cells _ b1 0 [dv] from Cells.of hC1 0 _ (by simp)) rfl ?_)
    refine WL.c rfl (o_mvh h6 ?_)
    refine WL.c rfl (o_call Try.call46 (lc rfl (lc rfl ln)) ((ruses_spec d D dv V _ hD hlim hd1).mono ?_))
    rintro v24 w24 ⟨hu24, hx24⟩
    rw [← hmm] at hu24 hlq hBm
    replace hx := hx.tr hx24
    replace hD := hD.ext hx24
    replace hC1 := hx24.blk hC1 (fun h => h)
    replace hM := hM.ext hx24
    replace hav := own_ext hav hx24
    replace hrt := own_ext hrt hx24
    refine WL.apO (BB) rfl rfl TI55 TI34 (show _ = v24 from rfl) rfl hav (by decide) (by decide) (by rw [own_cells hu24]; rfl) (one1 (own_one hu24)) rfl (by rw [maxLen_eq]; omega) (by omega) (by rw [hBB]; exact hx.size) ?_
    intro avN w26 havN ho26 hb26 _
    have hlo : ∀ b, av.ownBlock = some b → BB ≤ b := fun b hb => (hav.lt b hb).1
    replace hC1 := ho26.blk hC1 (fun hb => own_off hav hC1 (by decide) hb)
    replace hu24 := own_only hu24 ho26 (own_row_off hav hu24 (by decide))
    replace hrt := own_only hrt ho26 (own_row_off hav hrt (by decide))
    replace hM := hM.only ho26 (fun j hj => own_row_off hav (hM.row j hj) (by decide))
    replace hx := hx.trans' ho26 (fun _ h => h) (fun b hb he => by have := hlo b he; omega)
    replace hD := hD00.ext hx
    replace hM := Many.snocG hM hu24 hBm hlq rfl rfl
    have hav : w26.ownsRow BB 34 1 avN (d + 1) ((List.range (d + 1)).map (fun j => if j = d then v24 else Q j)) := by
      rw [own_cells hu24] at havN
      rw [List.range_succ, List.map_append]
      have e1 : (List.range d).map (fun j => if j = d then v24 else Q j) = (List.range d).map Q := List.map_congr_left (fun j hj => by rw [if_neg (by have := List.mem_range.1 hj; omega)])
      have e2 : [d].map (fun j => if j = d then v24 else Q j) = [v24] := by simp
      rw [e1, e2]; exact havN
    clear havN ho26
    refine WL.c rfl (o_ash (by first | exact (show _ = Value.slice _ _ _ from rfl) | exact rfl) ?_)
    refine WL.nil ?_
    refine W.region ?_
    refine WL.c rfl (o_mvh h6 ?_)
    refine WL.c rfl (o_addi rfl rfl (by omega) ?_)
    refine WL.c rfl (o_ash (show _ = Value.int _ _ from rfl) ?_)
    refine WL.nil ?_
    refine ⟨⟨d + 1, avN, fun j => if j = d then v24 else Q j, by omega, h1, h3, h4, rfl, rfl, hrt, hav, hM, hD, hC1, hx⟩, ?_⟩
    show D.length - ((d : Int) + 1).toNat < _
    rw [hm6]; simp [intOf]; omega
  · try simp only [cs8] at c18
    have hd1 : d = D.length := by omega
    subst hd1
    refine W.exit ?_
    refine W.seq ?_
    obtain ⟨HH, hHH⟩ : ∃ m, m = w.heap.size := ⟨_, rfl⟩
    have hBH : BB ≤ HH := by rw [hBB, hHH]; exact hx.size
    have hHl : ∀ {b}, tv.ownBlock = some b → b < HH := fun hb => by rw [hHH]; exact (hrt.lt _ hb).2
    have hlq : ∀ j, j < D.length → ∀ k, (Q j).ownBlock = some k → k < HH := fun j hj k hk => by rw [hHH]; exact (hM.lt hj hk).2
    refine W.region ?_
    refine WL.c rfl (o_ash (by first | exact (show _ = Value.slice _ _ _ from rfl) | exact rfl) ?_)
    refine WL.nil ?_
    refine W.seq ?_
    refine W.block ?_
    refine W.loop (fun e w => ∃ (out : List Nat) (ov : Value), e 3 = .int .i64 (D.length : Int) ∧ e 4 = tv ∧ e 5 = av ∧ e 7 = ov ∧ out.length ≤ D.length ∧ Told D.length (usesD D) out ∧ orderF D.length (usesD D) (D.length - out.length) out = ordN D ∧ HH ≤ w.heap.size ∧ w.ownsRow HH 3 1 ov out.length (out.map iv) ∧ w.ownsRow BB 4 1 tv D.length (tlB D.length out) ∧ w.ownsRow BB 34 1 av D.length ((List.range D.length).map Q) ∧ Many w BB 3 1 D.length Q (fun j => (usesD D j).length) (fun j => (usesD D j).map iv) ∧ Ext w0 w) (fun e w => D.length - slen (e 7)) ?_ ?_
    · exact ⟨[], .slice none 0 0, h3, h4, h5, rfl, Nat.zero_le _, Told.nil, rfl, by rw [hHH]; exact Nat.le_refl _, World.ownsRow_nil _ _ _ _, hrt, hav, hM, hx⟩
    rintro e w ⟨out, ov, h3, h4, h5, h7, hol, htold, hord, hHw, hro, hrt, hav, hM, hx⟩
    have hm7 := h7
    have hsl : slen ov = out.length := by obtain ⟨a9, c9, hov9, -⟩ := own_form hro; rw [hov9]; rfl
    refine W.seq ?_
    refine W.seq ?_
    refine W.region ?_
    refine WL.c rfl (o_mvh h7 ?_)
    refine WL.c rfl (o_lenR TI34 rfl (Sl.own hro) ?_)
    refine WL.c rfl (o_mvh h3 ?_)
    refine WL.c rfl (o_lt rfl rfl ?_)
    refine WL.nil ?_
    refine W.cond rfl (fun c30 => ?_) (fun c30 => ?_)
    · try simp only [cs8] at c30
      have hl1 : out.length < D.length := by omega
      obtain ⟨nx, hnx⟩ := nextO_none hU hac hl1
      refine W.skip ?_
      refine W.block ?_
      refine W.seq ?_
      refine W.region ?_
      refine WL.c rfl (o_ash (show _ = Value.int _ _ from rfl) ?_)
      refine WL.nil ?_
      refine W.block ?_
      refine W.loop (fun e w => ∃ i : Nat, i ≤ D.length ∧ e 3 = .int .i64 (D.length : Int) ∧ e 4 = tv ∧ e 5 = av ∧ e 7 = ov ∧ e 8 = .int .i64 (i : Int) ∧ (∀ j, j < i → ¬ (j ∉ out ∧ ∀ k ∈ usesD D j, k ∈ out)) ∧ HH ≤ w.heap.size ∧ w.ownsRow HH 3 1 ov out.length (out.map iv) ∧ w.ownsRow BB 4 1 tv D.length (tlB D.length out) ∧ w.ownsRow BB 34 1 av D.length ((List.range D.length).map Q) ∧ Many w BB 3 1 D.length Q (fun j => (usesD D j).length) (fun j => (usesD D j).map iv) ∧ Ext w0 w) (fun e w => D.length - (intOf (e 8)).toNat) ?_ ?_
      · exact ⟨0, Nat.zero_le _, h3, h4, h5, h7, rfl, fun j hj => by omega, hHw, hro, hrt, hav, hM, hx⟩
      rintro e w ⟨i, hi, h3, h4, h5, h7, h8, hno, hHw, hro, hrt, hav, hM, hx⟩
      have hm8 := h8
      refine W.seq ?_
      refine W.seq ?_
      refine W.region ?_
      refine WL.c rfl (o_mvh h8 ?_)
      refine WL.c rfl (o_mvh h3 ?_)
      refine WL.c rfl (o_lt rfl rfl ?_)
      refine WL.nil ?_
      refine W.cond rfl (fun c33 => ?_) (fun c33 => ?_)
      · try simp only [cs8] at c33
        have hi1 : i < D.length := by omega
        have hul : (usesD D i).length ≤ D[i].ty.length := by have h1 := usesK_len D D[i].ty D[i].ty.length; rw [usesK_all hi1] at h1; exact h1
        have htl := hlim.ty _ (List.getElem_mem hi1)
        obtain ⟨tb, tc, htv, htb⟩ := own_some hrt (by omega)
        obtain ⟨ab, ac, hab, habb⟩ := own_some hav (by omega)
        rw [htv] at h4
        rw [hab] at h5
        have hcell : w.cell? ⟨tb, 0 + i * 1, none⟩ = some (.bool (out.contains i)) := by rw [Nat.zero_add, Nat.mul_one]; exact own_cell (htv ▸ hrt) (tlB_at hi1)
        refine W.skip ?_
        refine W.seq ?_
        refine W.block ?_
        refine W.seq ?_
        refine W.region ?_
        refine WL.c rfl (o_mvh h4 ?_)
        refine WL.c rfl (o_mvh h8 ?_)
        refine WL.c rfl (o_ixB (i := i) TI46 TI4 (show _ = Value.slice (some ⟨tb, 0, none⟩) D.length tc from rfl) (show _ = Value.int .i64 (i : Int) from rfl) (by omega) ?_)
        refine WL.c rfl (o_ld TI4 rfl rfl hcell ?_)
        refine WL.c rfl (o_not' rfl ?_)
        refine WL.c rfl (o_ash (show _ = Value.bool _ from rfl) ?_)
        refine WL.nil ?_
        refine W.seq ?_
        refine W.seq ?_
        refine W.region ?_
        refine WL.c rfl (o_ash (show _ = Value.int _ _ from rfl) ?_)
        refine WL.nil ?_
        refine W.block ?_
        refine W.loop (fun e w => ∃ q : Nat, q ≤ (usesD D i).length ∧ e 3 = .int .i64 (D.length : Int) ∧ e 4 = (Value.slice (some ⟨tb, 0, none⟩) D.length tc) ∧ e 5 = (Value.slice (some ⟨ab, 0, none⟩) D.length ac) ∧ e 7 = ov ∧ e 8 = .int .i64 (i : Int) ∧ e 9 = .bool (rdyB D out i q) ∧ e 10 = .int .i64 (q : Int) ∧ HH ≤ w.heap.size ∧ w.ownsRow HH 3 1 ov out.length (out.map iv) ∧ w.ownsRow BB 4 1 tv D.length (tlB D.length out) ∧ w.ownsRow BB 34 1 av D.length ((List.range D.length).map Q) ∧ Many w BB 3 1 D.length Q (fun j => (usesD D j).length) (fun j => (usesD D j).map iv) ∧ Ext w0 w) (fun e w => (usesD D i).length - (intOf (e 10)).toNat) ?_ ?_
        · exact ⟨0, Nat.zero_le _, h3, h4, h5, h7, h8, by rw [rdy_zero]; rfl, rfl, hHw, hro, hrt, hav, hM, hx⟩
        rintro e w ⟨q, hq, h3, h4, h5, h7, h8, h9, h10, hHw, hro, hrt, hav, hM, hx⟩
        have hm10 := h10
        have cn : w.cell? ⟨ab, 0 + i * 1, none⟩ = some (Q i) := by rw [Nat.zero_add, Nat.mul_one]; exact own_cell (hab ▸ hav) (by rw [List.getElem?_map, List.getElem?_range hi1]; rfl)
        refine W.seq ?_
        refine W.seq ?_
        refine W.region ?_
        refine WL.c rfl (o_mvh h10 ?_)
        refine WL.c rfl (o_mvh h5 ?_)
        refine WL.c rfl (o_mvh h8 ?_)
        refine WL.c rfl (o_ixB (i := i) TI55 TI34 (show _ = Value.slice (some ⟨ab, 0, none⟩) D.length ac from rfl) (show _ = Value.int .i64 (i : Int) from rfl) (by omega) ?_)
        refine WL.c rfl (o_ld TI34 rfl rfl cn ?_)
        refine WL.c rfl (o_lenR TI34 rfl (Sl.own (hM.row i hi1)) ?_)
        refine WL.c rfl (o_lt rfl rfl ?_)
        refine WL.nil ?_
        refine W.cond rfl (fun c47 => ?_) (fun c47 => ?_)
        · try simp only [cs8] at c47
          have hq1 : q < (usesD D i).length := by omega
          have hul := hU i hi1 _ (List.getElem_mem hq1)
          obtain ⟨qb, qc, hQi, hqb⟩ := own_some (hM.row i hi1) (by omega)
          rw [hQi] at cn
          have cq : w.cell? ⟨qb, 0 + q * 1, none⟩ = some (.int .i64 (((usesD D i)[q] : Nat) : Int)) := by rw [Nat.zero_add, Nat.mul_one]; exact own_cell (hQi ▸ hM.row i hi1) (by rw [List.getElem?_map, List.getElem?_eq_getElem hq1]; rfl)
          have ct : w.cell? ⟨tb, 0 + (usesD D i)[q] * 1, none⟩ = some (.bool (out.contains (usesD D i)[q])) := by rw [Nat.zero_add, Nat.mul_one]; exact own_cell (htv ▸ hrt) (tlB_at hul)
          refine W.skip ?_
          refine W.seq ?_
          refine W.block ?_
          by_cases hr : rdyB D out i q = true
          · skip
            rw [hr] at h9
            refine W.region ?_
            refine WL.c rfl (o_mvh h9 ?_)
            refine WL.c rfl (o_mvh (show _ = Value.bool _ from rfl) ?_)
            refine WL.g rfl (rfl) rfl (o_mvh h4 ?_)
            refine WL.g rfl (rfl) rfl (o_mvh h5 ?_)
            refine WL.g rfl (rfl) rfl (o_mvh h8 ?_)
            refine WL.g rfl (rfl) rfl (o_ixB (i := i) TI55 TI34 (show _ = Value.slice (some ⟨ab, 0, none⟩) D.length ac from rfl) (show _ = Value.int .i64 (i : Int) from rfl) (by omega) ?_)
            refine WL.g rfl (rfl) rfl (o_ld TI34 rfl rfl cn ?_)
            refine WL.g rfl (rfl) rfl (o_mvh h10 ?_)
            refine WL.g rfl (rfl) rfl (o_ixB (i := q) TI34 TI3 (show _ = Value.slice (some ⟨qb, 0, none⟩) (usesD D i).length qc from rfl) (show _ = Value.int .i64 (q : Int) from rfl) (by omega) ?_)
            refine WL.g rfl (rfl) rfl (o_ld TI3 rfl rfl cq ?_)
            refine WL.g rfl (rfl) rfl (o_ixB (i := (usesD D i)[q]) TI46 TI4 (show _ = Value.slice (some ⟨tb, 0, none⟩) D.length tc from rfl) (show _ = Value.int .i64 (((usesD D i)[q] : Nat) : Int) from rfl) (by omega) ?_)
            refine WL.g rfl (rfl) rfl (o_ld TI4 rfl rfl ct ?_)
            refine WL.c rfl (o_pickA rfl rfl ?_)
            refine WL.c rfl (o_ash (show _ = Value.bool _ from rfl) ?_)
            refine WL.nil ?_
            refine W.region ?_
            refine WL.c rfl (o_mvh h10 ?_)
            refine WL.c rfl (o_addi rfl rfl (by omega) ?_)
            refine WL.c rfl (o_ash (show _ = Value.int _ _ from rfl) ?_)
            refine WL.nil ?_
            refine ⟨⟨q + 1, by omega, h3, h4, h5, h7, h8, by rw [rdy_next hq1, hr]; rfl, rfl, hHw, hro, hrt, hav, hM, hx⟩, ?_⟩
            show (usesD D i).length - ((q : Int) + 1).toNat < _
            rw [hm10]; simp [intOf]; omega
          · skip
            replace hr : rdyB D out i q = false := by simpa using hr
            rw [hr] at h9
            refine W.region ?_
            refine WL.c rfl (o_mvh h9 ?_)
            refine WL.c rfl (o_mvh (show _ = Value.bool _ from rfl) ?_)
            refine WL.s rfl (rfl) rfl ?_
            refine WL.s rfl (rfl) rfl ?_
            refine WL.s rfl (rfl) rfl ?_
            refine WL.s rfl (rfl) rfl ?_
            refine WL.s rfl (rfl) rfl ?_
            refine WL.s rfl (rfl) rfl ?_
            refine WL.s rfl (rfl) rfl ?_
            refine WL.s rfl (rfl) rfl ?_
            refine WL.s rfl (rfl) rfl ?_
            refine WL.s rfl (rfl) rfl ?_
            refine WL.c rfl (o_pickF rfl (rfl) ?_)
            refine WL.c rfl (o_ash (show _ = Value.bool _ from rfl) ?_)
            refine WL.nil ?_
            refine W.region ?_
            refine WL.c rfl (o_mvh h10 ?_)
            refine WL.c rfl (o_addi rfl rfl (by omega) ?_)
            refine WL.c rfl (o_ash (show _ = Value.int _ _ from rfl) ?_)
            refine WL.nil ?_
            refine ⟨⟨q + 1, by omega, h3, h4, h5, h7, h8, by rw [rdy_next hq1, hr]; rfl, rfl, hHw, hro, hrt, hav, hM, hx⟩, ?_⟩
            show (usesD D i).length - ((q : Int) + 1).toNat < _
            rw [hm10]; simp [intOf]; omega
        · try simp only [cs8] at c47
          have hq1 : q = (usesD D i).length := by omega
          rw [hq1] at h9
          refine W.exit ?_
          refine W.seq ?_
          refine W.region ?_
          refine WL.c rfl (o_mvh h9 ?_)
          refine WL.nil ?_
          refine W.cond rfl (fun c63 => ?_) (fun c63 => ?_)
          · try simp only [cs8] at c63
            obtain ⟨hm, ha⟩ := rdy_all.1 c63
            refine W.seq ?_
            refine W.region ?_
            refine WL.c rfl (o_mvh h4 ?_)
            refine WL.c rfl (o_mvh h8 ?_)
            refine WL.c rfl (o_ixB (i := i) TI46 TI4 (show _ = Value.slice (some ⟨tb, 0, none⟩) D.length tc from rfl) (show _ = Value.int .i64 (i : Int) from rfl) (by omega) ?_)
            refine WL.u (o_stRj TI4 rfl (show 0 + i * 1 = i by omega) (show _ = Value.bool true from rfl) rfl hrt (show Value.ownBlock tv = some tb from htb) (by omega) ?_)
            intro w49 hrt49 ho49 hs49
            have hlo : ∀ b, tv.ownBlock = some b → BB ≤ b := fun b hb => (hrt.lt b hb).1
            replace hro := own_only hro ho49 (own_row_off hrt hro (by decide))
            replace hav := own_only hav ho49 (own_row_off hrt hav (by decide))
            replace hM := hM.only ho49 (fun j hj => own_row_off hrt (hM.row j hj) (by decide))
            replace hx := hx.trans' ho49 (fun _ h => h) (fun b hb he => by have := hlo b he; omega)
            replace hHw := Nat.le_trans hHw ho49.size
            clear hrt
            rw [tlB_set] at hrt49
            have hrt := hrt49
            clear hrt49 ho49
            refine WL.nil ?_
            refine W.seq ?_
            refine W.region ?_
            refine WL.c rfl (o_mvh h7 ?_)
            refine WL.c rfl (o_mvh h8 ?_)
            refine WL.apO (HH) rfl rfl TI34 TI3 (show _ = Value.int _ _ from rfl) rfl hro (by decide) (by decide) rfl (one1 rfl) rfl (by rw [maxLen_eq]; omega) (by omega) hHw ?_
            intro ovN w53 hroN ho53 hb53 _
            have hlo : ∀ b, ov.ownBlock = some b → HH ≤ b := fun b hb => (hro.lt b hb).1
            replace hrt := own_only hrt ho53 (own_row_off hro hrt (by decide))
            replace hav := own_only hav ho53 (own_row_off hro hav (by decide))
            replace hM := hM.only ho53 (fun j hj k hk he => by have := hlq j hj k hk; have := hlo k he; omega)
            replace hx := hx.trans' ho53 (fun _ h => h) (fun b hb he => by have := hlo b he; omega)
            replace hHw := Nat.le_trans hHw ho53.size
            replace hroN : w53.ownsRow HH 3 1 ovN (out.length + 1) ((out ++ [i]).map iv) := by rw [List.map_append]; exact hroN
            have hnxi : nextO D.length (usesD D) out = some i := by
              obtain ⟨p1, p2, p3, p4⟩ := nextO_some hnx
              have : nx = i := by
                rcases Nat.lt_trichotomy nx i with h | h | h
                · exact absurd ⟨p2, p3⟩ (hno nx h)
                · exact h
                · exact absurd ⟨hm, ha⟩ (p4 i h)
              rw [← this]; exact hnx
            clear hro ho53
            refine WL.c rfl (o_ash (by first | exact (show _ = Value.slice _ _ _ from rfl) | exact rfl) ?_)
            refine WL.nil ?_
            refine W.exit ?_
            have hslN : slen ovN = out.length + 1 := by obtain ⟨a9, c9, hov9, -⟩ := own_form hroN; rw [hov9]; rfl
            refine ⟨⟨out ++ [i], ovN, h3, h4.trans htv.symm, h5.trans hab.symm, rfl, by rw [List.length_append, List.length_singleton]; omega, htold.step hnxi, ?_, hHw, by rw [List.length_append, List.length_singleton]; exact hroN, hrt, hav, hM, hx⟩, ?_⟩
            · rw [List.length_append, List.length_singleton, ← orderF_more hnxi, show D.length - (out.length + 1) + 1 = D.length - out.length by omega]; exact hord
            · show D.length - slen ovN < _
              rw [hm7, hslN, hsl]; omega
          · try simp only [cs8] at c63
            have hnot : ¬ (i ∉ out ∧ ∀ k ∈ usesD D i, k ∈ out) := fun h => by rw [rdy_all.2 h] at c63; cases c63
            refine W.skip ?_
            refine W.region ?_
            refine WL.c rfl (o_mvh h8 ?_)
            refine WL.c rfl (o_addi rfl rfl (by omega) ?_)
            refine WL.c rfl (o_ash (show _ = Value.int _ _ from rfl) ?_)
            refine WL.nil ?_
            refine ⟨⟨i + 1, by omega, h3, h4.trans htv.symm, h5.trans hab.symm, h7, rfl, fun j hj => ?_, hHw, hro, hrt, hav, hM, hx⟩, ?_⟩
            · rcases Nat.lt_or_ge j i with h | h
              · exact hno j h
              · rw [show j = i by omega]; exact hnot
            · show D.length - ((i : Int) + 1).toNat < _
              rw [hm8]; simp [intOf]; omega
      · try simp only [cs8] at c33
        exfalso
        obtain ⟨p1, p2, p3, -⟩ := nextO_some hnx
        exact hno nx (by omega) ⟨p2, p3⟩
    · try simp only [cs8] at c30
      have hl1 : out.length = D.length := by omega
      rw [hl1, Nat.sub_self] at hord
      replace hord : out = ordN D := hord
      rw [hord] at hro
      refine W.exit ?_
      refine W.seq ?_
      refine W.region ?_
      refine WL.c rfl (o_mvh h7 ?_)
      refine WL.c rfl (o_ash (by first | exact (show _ = Value.slice _ _ _ from rfl) | exact rfl) ?_)
      refine WL.nil ?_
      refine W.ret ?_
      refine ret1v rfl rfl ?_
      exact ⟨own_mono hro hBH, hx⟩
end Go.Proofs.Ytgcehajdldicfaa

set_option linter.unusedSimpArgs false
set_option linter.unusedVariables false
set_option maxRecDepth 100000
namespace Go.Proofs.Ytgcehajdldicfaa
open Go Go.Vc Go.RowKit Go.Proofs

/-- at a node: how deep it is -/
def SHg (D : List Df) (dp : Nat → Nat) (ov dv : Value) (V : Nat → Value) (t : Tr) : Prop := ∀ (L rest : List Ex) (v : Value) (at_ : Nat) (a : Int) (d : Nat) (w0 : World), t.wf a d → L.drop at_ = t.flat ++ rest → Sl w0 7 v L.length (exs L) → L.length * 72 ≤ 140737488351232 → (∀ x ∈ L, x.name.length ≤ 9223372036854775807) → (∀ x ∈ t.flat, x.kind = 9 → ∃ i, whereN D x.name = some i) → DefR w0 D dv V → Sl w0 1 ov D.length (dps D.length dp) →
  Ca Try.prog 47 #[.agg #[dv], v, .int .i64 (at_ : Int), ov] w0 (fun u w' => u = iv (depT (whD D) dp t) ∧ Ext w0 w')
theorem leaf_no {y : Ex} {ks : Trs} {a : Int} {d : Nat} (h : (Tr.node y ks).wf a d) (hk : y.kind = 1 ∨ y.kind = 2 ∨ y.kind = 3 ∨ y.kind = 9) : ks = .nil := by
  obtain ⟨-, -, hr, hk2, -⟩ := h
  obtain ⟨hok, -, -, -⟩ := rightB_iff hr
  have hk0 : y.kids = 0 := by rcases okB_cases hok with g | g | g | g | g <;> omega
  exact trs_nil (by omega)
theorem dep_leaf {wh : List UInt8 → Nat} {dp : Nat → Nat} {y : Ex} (h : ¬ y.kind = 9) : depT wh dp (.node y .nil) = 1 := by
  unfold depT
  rw [if_neg h]
  rfl

set_option maxHeartbeats 4000000 in
theorem high_step (D : List Df) (dp : Nat → Nat) (ov dv : Value) (V : Nat → Value) (hdp : ∀ j, dp j ≤ 2305843009213693952) (hlen : D.length * 48 ≤ 140737488351232) (y : Ex) (ks : Trs) (IH : ∀ t : Tr, t.flat.length < (Tr.node y ks).flat.length → SHg D dp ov dv V t) (L rest : List Ex) (v : Value) (at_ : Nat) (a : Int) (d : Nat) (w0 : World) (hw : (Tr.node y ks).wf a d) (hL : L.drop at_ = (Tr.node y ks).flat ++ rest) (hS : Sl w0 7 v L.length (exs L)) (hLl : L.length * 72 ≤ 140737488351232) (hLn : ∀ x ∈ L, x.name.length ≤ 9223372036854775807) (hkn : ∀ x ∈ (Tr.node y ks).flat, x.kind = 9 → ∃ i, whereN D x.name = some i) (hD : DefR w0 D dv V) (hO : Sl w0 1 ov D.length (dps D.length dp)) : Ca Try.prog 47 #[.agg #[dv], v, .int .i64 (at_ : Int), ov] w0 (fun u w' => u = iv (depT (whD D) dp (Tr.node y ks)) ∧ Ext w0 w') := by
  obtain ⟨hat, hya, hL1⟩ := drop_at (show L.drop at_ = y :: (ks.flat ++ rest) from hL)
  obtain ⟨ub, uo, uc, rfl, huc⟩ := Sl.exq hS hat
  rw [hya] at huc
  have hkk : y.kids = (ks.len : Int) := hw.2.2.2.1.symm
  have hksl : ks.flat.length ≤ L.length := by have h1 := congrArg List.length hL1; simp at h1; omega
  have hlk := trs_len_le ks
  have hyn := hLn y (by rw [← hya]; exact List.getElem_mem hat)
  have hfl : (Tr.node y ks).flat.length = ks.flat.length + 1 := rfl
  refine Ca.of Try.func47 Try.ntmps47 rfl rfl ?_
  refine W.seq ?_
  refine W.region ?_
  refine WL.c rfl (o_boxB rfl ?_)
  intro w4 hC4 hx4 hs4
  obtain ⟨b4, hb4⟩ : ∃ b, b = w0.heap.size := ⟨_, rfl⟩
  rw [← hb4] at hC4 ⊢
  replace hC4 : w4.heap[b4]? = some (.cells ([dv]).toArray 24 (0, 0)) := hC4
  have hx := hx4
  replace hD := hD.ext hx4
  replace hS := hS.ext hx4
  replace hO := hO.ext hx4
  replace huc := Cells.only huc hx4 (fun h => h)
  refine WL.c rfl (o_ash (show _ = Value.int _ _ from rfl) ?_)
  refine WL.nil ?_
  refine W.seq ?_
  refine W.seq ?_
  refine W.region ?_
  refine WL.c rfl (o_mvh (by first | exact (show _ = Value.slice _ _ _ from rfl) | exact rfl) ?_)
  refine WL.c rfl (o_mvh (show _ = Value.int _ _ from rfl) ?_)
  refine WL.c rfl (o_ixB (i := at_) TI37 TI26 (show _ = (Value.slice (some ⟨ub, uo, none⟩) L.length uc) from rfl) (show _ = Value.int .i64 (at_ : Int) from rfl) (by omega) ?_)
  refine WL.c rfl (o_fa 0 TI26 rfl TI3 rfl rfl ?_)
  refine WL.c rfl (o_ld TI3 rfl rfl (huc 0 _ rfl) ?_)
  refine WL.nil ?_
  refine W.block ?_
  refine W.seq ?_
  refine W.seq ?_
  by_cases hk1 : y.kind = 1
  rotate_left
  by_cases hk2 : y.kind = 2
  rotate_left
  by_cases hk3 : y.kind = 3
  rotate_left
  by_cases hk9 : y.kind = 9
  · skip
    have hnil := leaf_no hw (by omega)
    subst hnil
    obtain ⟨wi, hwi⟩ := hkn y (List.mem_cons_self ..) hk9
    obtain ⟨hwl, -⟩ := whereN_some hwi
    obtain ⟨ob, oo, oc, hov, hocell⟩ := Sl.at1 hO hwl (dps_at hwl)
    refine W.region ?_
    refine WL.c rfl (o_eq rfl rfl ?_)
    refine WL.c rfl (o_ash (show _ = Value.bool _ from rfl) ?_)
    refine WL.nil ?_
    refine W.condF' rfl (decide_eq_false hk1) ?_
    refine W.seq ?_
    refine W.region ?_
    refine WL.c rfl (o_eq rfl rfl ?_)
    refine WL.c rfl (o_ash (show _ = Value.bool _ from rfl) ?_)
    refine WL.nil ?_
    refine W.condF' rfl (decide_eq_false hk2) ?_
    refine W.region ?_
    refine WL.c rfl (o_eq rfl rfl ?_)
    refine WL.c rfl (o_ash (show _ = Value.bool _ from rfl) ?_)
    refine WL.nil ?_
    refine W.condF' rfl (decide_eq_false hk3) ?_
    refine W.seq ?_
    refine W.region ?_
    refine WL.c rfl (o_eq rfl rfl ?_)
    refine WL.c rfl (o_ash (show _ = Value.bool _ from rfl) ?_)
    refine WL.nil ?_
    refine W.condT' rfl (decide_eq_true hk9) ?_
    refine W.seq ?_
    have hov8 := hov
    obtain ⟨wd, hwd⟩ : ∃ wd, wd = w4.drew := ⟨_, rfl⟩
    have hxd : Ext w4 wd := hwd ▸ Only.drew w4
    replace hx := hx.tr hxd
    replace hD := hD.ext hxd
    replace hC4 := hxd.blk hC4 (fun h => h)
    replace hS := hS.ext hxd
    replace hO := hO.ext hxd
    replace huc := Cells.only huc hxd (fun h => h)
    replace hocell := hxd.cell hocell (fun h => h)
    refine W.draw (Ext) [(1, fun v _ => v = _), (2, fun v _ => v = _), (3, fun v _ => v = _), (4, fun v _ => v = _)] rfl (by kernel_rfl) (Only.refl No) (fun _ _ _ h k => h.trans k) ⟨Mono.eq, Mono.eq, Mono.eq, Mono.eq, trivial⟩ ⟨rfl, rfl, rfl, rfl, trivial⟩ ?_
    refine WD.p rfl (fun e w hR hh => by obtain ⟨h4, -⟩ := hh; rw [← hwd] at hR; exact SG.n (o_ldA TI24 rfl h4 (show Cells _ b4 0 [dv] from Cells.of (hR.blk hC4 (fun h => h)) 0 _ (by simp)) rfl ⟨rfl, Only.refl No _⟩)) ?_
    refine WD.p rfl (fun e w hR hh => by obtain ⟨h1, -⟩ := hh; exact SG.n (o_mvh h1 ⟨rfl, Only.refl No _⟩)) ?_
    refine WD.p rfl (fun e w hR hh => by obtain ⟨h2, -⟩ := hh; exact SG.n (o_mvh h2 ⟨rfl, Only.refl No _⟩)) ?_
    refine WD.p rfl (fun e w hR hh => by obtain ⟨h28, h27, -⟩ := hh; exact SG.n (o_ixB (i := at_) TI37 TI26 h27 h28 (by omega) ⟨rfl, Only.refl No _⟩)) ?_
    refine WD.p rfl (fun e w hR hh => by obtain ⟨h29, -⟩ := hh; exact SG.n (o_fa 2 TI26 rfl TI9 rfl h29 ⟨rfl, Only.refl No _⟩)) ?_
    refine WD.p rfl (fun e w hR hh => by obtain ⟨h30, -⟩ := hh; rw [← hwd] at hR; exact SG.n (o_ld TI9 rfl h30 (Cells.only huc hR (fun h => h) 2 _ rfl) ⟨rfl, Only.refl No _⟩)) ?_
    refine WD.p rfl (fun e w hR hh => by obtain ⟨h31, h26, -⟩ := hh; rw [← hwd] at hR; exact SG.n (o_call Try.call22 (lc h26 (lc h31 ln)) ((rfind_call D _ V y.name _ (hD.ext hR) hlen hwi).mono (fun v w' ⟨h1, h2⟩ => ⟨h1, h2⟩)))) ?_
    refine WD.p rfl (fun e w hR hh => by obtain ⟨h32, -⟩ := hh; exact SG.n (o_mvh h32 ⟨rfl, Only.refl No _⟩)) ?_
    refine WD.p rfl (fun e w hR hh => by obtain ⟨h25, -⟩ := hh; exact SG.n (o_ext h25 rfl ⟨rfl, Only.refl No _⟩)) ?_
    refine WD.p rfl (fun e w hR hh => by obtain ⟨h25, -⟩ := hh; exact SG.n (o_ext h25 rfl ⟨rfl, Only.refl No _⟩)) ?_
    refine WD.p rfl (fun e w hR hh => by obtain ⟨h33, -⟩ := hh; exact SG.n (o_ash h33 ⟨rfl, Only.refl No _⟩)) ?_
    refine WD.p rfl (fun e w hR hh => by obtain ⟨h34, -⟩ := hh; exact SG.n (o_ash h34 ⟨rfl, Only.refl No _⟩)) ?_
    rintro e w hR ⟨h10, h9, h34, h33, h25, h32, h31, h30, h29, h28, h27, h26, h1, h2, h3, h4, -⟩
    rw [← hwd] at hR
    replace hx := hx.tr hR
    replace hocell := hR.cell hocell (fun h => h)
    rw [hov] at h3
    refine W.seq ?_
    refine W.region ?_
    refine WL.c rfl (o_mvh h3 ?_)
    refine WL.c rfl (o_mvh h9 ?_)
    refine WL.c rfl (o_ixB (i := wi) TI34 TI3 (show _ = Value.slice (some ⟨ob, oo, none⟩) D.length oc from rfl) (show _ = Value.int .i64 (wi : Int) from rfl) (by omega) ?_)
    refine WL.c rfl (o_ld TI3 rfl rfl hocell ?_)
    refine WL.c rfl (o_ash (show _ = Value.int _ _ from rfl) ?_)
    refine WL.nil ?_
    refine W.ret ?_
    refine ret1v rfl (show _ = Value.int _ _ from rfl) ?_
    exact ⟨by rw [show depT (whD D) dp (Tr.node y .nil) = dp wi by unfold depT; rw [if_pos hk9, whD, hwi]; rfl]; rfl, hx⟩
  · skip
    refine W.region ?_
    refine WL.c rfl (o_eq rfl rfl ?_)
    refine WL.c rfl (o_ash (show _ = Value.bool _ from rfl) ?_)
    refine WL.nil ?_
    refine W.condF' rfl (decide_eq_false hk1) ?_
    refine W.seq ?_
    refine W.region ?_
    refine WL.c rfl (o_eq rfl rfl ?_)
    refine WL.c rfl (o_ash (show _ = Value.bool _ from rfl) ?_)
    refine WL.nil ?_
    refine W.condF' rfl (decide_eq_false hk2) ?_
    refine W.region ?_
    refine WL.c rfl (o_eq rfl rfl ?_)
    refine WL.c rfl (o_ash (show _ = Value.bool _ from rfl) ?_)
    refine WL.nil ?_
    refine W.condF' rfl (decide_eq_false hk3) ?_
    refine W.seq ?_
    refine W.region ?_
    refine WL.c rfl (o_eq rfl rfl ?_)
    refine WL.c rfl (o_ash (show _ = Value.bool _ from rfl) ?_)
    refine WL.nil ?_
    refine W.condF' rfl (decide_eq_false hk9) ?_
    refine W.skip ?_
    refine W.seq ?_
    refine W.region ?_
    refine WL.c rfl (o_ash (show _ = Value.int _ _ from rfl) ?_)
    refine WL.nil ?_
    refine W.seq ?_
    refine W.region ?_
    refine WL.c rfl (o_mvh (show _ = Value.int _ _ from rfl) ?_)
    refine WL.c rfl (o_addi rfl rfl (by omega) ?_)
    refine WL.c rfl (o_ash (show _ = Value.int _ _ from rfl) ?_)
    refine WL.nil ?_
    refine W.seq ?_
    refine W.seq ?_
    refine W.region ?_
    refine WL.c rfl (o_ash (show _ = Value.int _ _ from rfl) ?_)
    refine WL.nil ?_
    refine W.block ?_
    refine W.loop (fun e w => ∃ (k m next : Nat) (ts : Trs), ks.len = k + ts.len ∧ e 1 = (Value.slice (some ⟨ub, uo, none⟩) L.length uc) ∧ e 2 = .int .i64 (at_ : Int) ∧ e 3 = ov ∧ e 4 = .pointer (some ⟨b4, 0, none⟩) ∧ e 11 = iv m ∧ e 12 = .int .i64 (next : Int) ∧ e 13 = .int .i64 (k : Int) ∧ Sl w 7 (Value.slice (some ⟨ub, uo, none⟩) L.length uc) L.length (exs L) ∧ Sl w 1 ov D.length (dps D.length dp) ∧ DefR w D dv V ∧ w.heap[b4]? = some (.cells #[dv] 24 (0, 0)) ∧ ts.wf y.kind (d + 1) ∧ L.drop next = ts.flat ++ rest ∧ next + ts.flat.length = at_ + 1 + ks.flat.length ∧ depK (whD D) dp ts m = depK (whD D) dp ks 0 ∧ ts.flat.length ≤ ks.flat.length ∧ (∀ x ∈ ts.flat, x.kind = 9 → ∃ i, whereN D x.name = some i) ∧ m ≤ 2305843009213693952 + ks.flat.length ∧ Ext w0 w) (fun e w => ks.len - (intOf (e 13)).toNat) ?_ ?_
    · exact ⟨0, 0, at_ + 1, ks, by omega, rfl, rfl, rfl, rfl, rfl, rfl, rfl, hS, hO, hD, hC4, hw.2.2.2.2, hL1, rfl, rfl, Nat.le_refl _, fun x hx => hkn x (List.mem_cons_of_mem _ hx), by omega, hx⟩
    rintro e w ⟨k, m, next, ts, hks, h1, h2, h3, h4, h11, h12, h13, hS, hO, hD, hC4, hwt, hLn2, hnx, hdk, htl, hknt, hmb, hx⟩
    have hm13 := h13
    have huc := Sl.exw hS hat
    rw [hya] at huc
    have hcK : w.cell? ⟨ub, uo + at_ * 7 + 5, none⟩ = some (.int .i64 (ks.len : Int)) := by rw [← hkk]; exact huc 5 _ rfl
    refine W.seq ?_
    refine W.seq ?_
    refine W.region ?_
    refine WL.c rfl (o_mvh h13 ?_)
    refine WL.c rfl (o_mvh h1 ?_)
    refine WL.c rfl (o_mvh h2 ?_)
    refine WL.c rfl (o_ixB TI37 TI26 rfl rfl (by omega) ?_)
    refine WL.c rfl (o_fa 5 TI26 rfl TI3 rfl rfl ?_)
    refine WL.c rfl (o_ld TI3 rfl rfl hcK ?_)
    refine WL.c rfl (o_lt rfl rfl ?_)
    refine WL.nil ?_
    refine W.cond rfl (fun c47 => ?_) (fun c47 => ?_)
    · try simp only [cs8] at c47
      have hk1 : k < ks.len := by omega
      obtain ⟨t, ts2, rfl⟩ := Trs.split hks hk1
      simp only [Trs.len] at hks
      have hfl2 : (Trs.cons t ts2).flat.length = t.flat.length + ts2.flat.length := by simp [Trs.flat]
      have htp := tr_pos t
      rw [hfl2] at hnx htl
      have hdr : L.drop next = t.flat ++ (ts2.flat ++ rest) := by rw [hLn2]; simp [Trs.flat]
      have hdr2 : L.drop (next + t.flat.length) = ts2.flat ++ rest := by rw [← List.drop_drop, hdr, List.drop_left]
      have hdl := dep_le (wh := whD D) hdp t
      refine W.skip ?_
      refine W.seq ?_
      refine W.block ?_
      refine W.seq ?_
      refine W.region ?_
      refine WL.c rfl (o_mvh h11 ?_)
      refine WL.c rfl (o_ldA TI24 rfl h4 (show Cells _ b4 0 [dv] from Cells.of hC4 0 _ (by simp)) rfl ?_)
      refine WL.c rfl (o_mvh h1 ?_)
      refine WL.c rfl (o_mvh h12 ?_)
      refine WL.c rfl (o_mvh h3 ?_)
      refine WL.c rfl (o_call Try.call47 (lc rfl (lc rfl (lc rfl (lc rfl ln)))) ((IH t (by rw [hfl]; omega) L (ts2.flat ++ rest) (Value.slice (some ⟨ub, uo, none⟩) L.length uc) next _ _ _ hwt.1 hdr hS hLl hLn (fun x hx => hknt x (List.mem_append_left _ hx)) hD hO).mono ?_))
      rintro v55 w55 ⟨rfl, hx55⟩
      replace hx := hx.tr hx55
      replace hS := hS.ext hx55
      replace hO := hO.ext hx55
      replace hD := hD.ext hx55
      replace hC4 := hx55.blk hC4 (fun h => h)
      refine WL.c rfl (n_max (a := m) (b := depT (whD D) dp t) rfl rfl ?_)
      refine WL.c rfl (o_ash (show _ = Value.int _ _ from rfl) ?_)
      refine WL.nil ?_
      refine W.region ?_
      refine WL.c rfl (o_mvh h1 ?_)
      refine WL.c rfl (o_mvh h12 ?_)
      refine WL.c rfl (o_call Try.call58 (lc rfl (lc rfl ln)) ((behind_all _ t (Nat.le_refl _) L (ts2.flat ++ rest) (Value.slice (some ⟨ub, uo, none⟩) L.length uc) next _ _ _ hwt.1 hdr hS hLl).mono ?_))
      rintro v59 w59 ⟨rfl, hx59⟩
      replace hx := hx.tr hx59
      replace hS := hS.ext hx59
      replace hO := hO.ext hx59
      replace hD := hD.ext hx59
      replace hC4 := hx59.blk hC4 (fun h => h)
      refine WL.c rfl (o_ash (show _ = Value.int _ _ from rfl) ?_)
      refine WL.nil ?_
      refine W.region ?_
      refine WL.c rfl (o_mvh h13 ?_)
      refine WL.c rfl (o_addi rfl rfl (by omega) ?_)
      refine WL.c rfl (o_ash (show _ = Value.int _ _ from rfl) ?_)
      refine WL.nil ?_
      refine ⟨⟨k + 1, max m (depT (whD D) dp t), next + t.flat.length, ts2, by omega, h1, h2, h3, h4, rfl, rfl, rfl, hS, hO, hD, hC4, hwt.2, hdr2, by omega, hdk, by omega, fun x hx => hknt x (List.mem_append_right _ hx), by omega, hx⟩, ?_⟩
      show ks.len - ((k : Int) + 1).toNat < _
      rw [hm13]; simp [intOf]; omega
    · try simp only [cs8] at c47
      have hk1 : k = ks.len := by omega
      have hnil := Trs.none hks hk1
      subst hnil
      replace hdk : m = depK (whD D) dp ks 0 := hdk
      refine W.exit ?_
      refine W.seq ?_
      refine W.region ?_
      refine WL.c rfl (o_mvh h11 ?_)
      refine WL.c rfl (o_addi (a := 1) (b := (m : Int)) rfl (show _ = Value.int .i64 (m : Int) from rfl) (by omega) ?_)
      refine WL.c rfl (o_ash (show _ = Value.int _ _ from rfl) ?_)
      refine WL.nil ?_
      refine W.ret ?_
      refine ret1v rfl (show _ = Value.int _ _ from rfl) ?_
      exact ⟨by rw [show depT (whD D) dp (Tr.node y ks) = m + 1 by unfold depT; rw [if_neg hk9, ← hdk]]; show Value.int .i64 (1 + (m : Int)) = Value.int .i64 ((m + 1 : Nat) : Int); rw [show (1 : Int) + m = ((m + 1 : Nat) : Int) by omega], hx⟩
  · skip
    have hnil := leaf_no hw (by omega)
    subst hnil
    have hk9 : ¬ y.kind = 9 := by omega
    refine W.region ?_
    refine WL.c rfl (o_eq rfl rfl ?_)
    refine WL.c rfl (o_ash (show _ = Value.bool _ from rfl) ?_)
    refine WL.nil ?_
    refine W.condT' rfl (decide_eq_true hk1) ?_
    refine W.skip ?_
    refine W.condT' rfl (decide_eq_true hk1) ?_
    refine W.seq ?_
    refine W.region ?_
    refine WL.c rfl (o_ash (show _ = Value.int _ _ from rfl) ?_)
    refine WL.nil ?_
    refine W.ret ?_
    refine ret1v rfl (show _ = Value.int _ _ from rfl) ?_
    exact ⟨by rw [dep_leaf hk9]; rfl, hx⟩
  · skip
    have hnil := leaf_no hw (by omega)
    subst hnil
    have hk9 : ¬ y.kind = 9 := by omega
    refine W.region ?_
    refine WL.c rfl (o_eq rfl rfl ?_)
    refine WL.c rfl (o_ash (show _ = Value.bool _ from rfl) ?_)
    refine WL.nil ?_
    refine W.condF' rfl (decide_eq_false hk1) ?_
    refine W.seq ?_
    refine W.region ?_
    refine WL.c rfl (o_eq rfl rfl ?_)
    refine WL.c rfl (o_ash (show _ = Value.bool _ from rfl) ?_)
    refine WL.nil ?_
    refine W.condT' rfl (decide_eq_true hk2) ?_
    refine W.skip ?_
    refine W.condT' rfl (decide_eq_true hk2) ?_
    refine W.seq ?_
    refine W.region ?_
    refine WL.c rfl (o_ash (show _ = Value.int _ _ from rfl) ?_)
    refine WL.nil ?_
    refine W.ret ?_
    refine ret1v rfl (show _ = Value.int _ _ from rfl) ?_
    exact ⟨by rw [dep_leaf hk9]; rfl, hx⟩
  · skip
    have hnil := leaf_no hw (by omega)
    subst hnil
    have hk9 : ¬ y.kind = 9 := by omega
    refine W.region ?_
    refine WL.c rfl (o_eq rfl rfl ?_)
    refine WL.c rfl (o_ash (show _ = Value.bool _ from rfl) ?_)
    refine WL.nil ?_
    refine W.condF' rfl (decide_eq_false hk1) ?_
    refine W.seq ?_
    refine W.region ?_
    refine WL.c rfl (o_eq rfl rfl ?_)
    refine WL.c rfl (o_ash (show _ = Value.bool _ from rfl) ?_)
    refine WL.nil ?_
    refine W.condF' rfl (decide_eq_false hk2) ?_
    refine W.region ?_
    refine WL.c rfl (o_eq rfl rfl ?_)
    refine WL.c rfl (o_ash (show _ = Value.bool _ from rfl) ?_)
    refine WL.nil ?_
    refine W.condT' rfl (decide_eq_true hk3) ?_
    refine W.seq ?_
    refine W.region ?_
    refine WL.c rfl (o_ash (show _ = Value.int _ _ from rfl) ?_)
    refine WL.nil ?_
    refine W.ret ?_
    refine ret1v rfl (show _ = Value.int _ _ from rfl) ?_
    exact ⟨by rw [dep_leaf hk9]; rfl, hx⟩

theorem high_all (D : List Df) (dp : Nat → Nat) (ov dv : Value) (V : Nat → Value) (hdp : ∀ j, dp j ≤ 2305843009213693952) (hlen : D.length * 48 ≤ 140737488351232) : ∀ (m : Nat) (t : Tr), t.flat.length ≤ m → SHg D dp ov dv V t
  | 0, .node y ks, h => by simp [Tr.flat] at h
  | m + 1, .node y ks, h => fun L rest v at_ a d w0 h1 h2 h3 h4 h5 h6 h7 h8 => high_step D dp ov dv V hdp hlen y ks (fun t ht => high_all D dp ov dv V hdp hlen m t (by omega)) L rest v at_ a d w0 h1 h2 h3 h4 h5 h6 h7 h8

end Go.Proofs.Ytgcehajdldicfaa
