/-
  Walks and lemmas. Written by program out of specs of mine.
-/
import Derived.WalkKit
import Derived.WalkSpells
import Derived.WalkLawsBesides
import Derived.Deep.Quiet
import Derived.StillTail
import Derived.StringKeys
import Derived.Laws.StructEq
import Derived.Laws.Externs
import Derived.Laws.Tables
import Derived.Scope
import Derived.Laws.AppendOwn
import Derived.Maps.AppendAt
import Derived.Recover
import Derived.Test.YtgmjfcekeglhjaaDoorProg
import Derived.Maps.OwnSet
import Derived.Shelf.Strconv.Itoa0
import Derived.Shelf.Strconv.Itoa1
import Derived.Shelf.LaysM
import Derived.Shelf.Strconv.Itoa2
import Derived.Lib.ItoaMem
import Derived.Lib.ItoaLen
import Derived.DeepKeys3
import Derived.SizedLaws
import Derived.ChangeArms
import Derived.ChangeSlices
import Derived.Lib.ConvBytes
import Derived.Test.YtgmjfcekeglhjaaDoorRows
import Derived.ProofKit
import Derived.OpenShut
import Derived.ShutString
import Derived.ChangeOld
import Derived.Below
import Derived.JoinedCond
import Derived.SliceStrings
import Derived.Test.YtgmjfcekeglhjaaDoorCards
import Derived.Test.YtgmjfcekeglhjaaDoorTie
import Derived.Deep.DeepHandedRow
import Derived.Lib.LaidTab
import Derived.Test.YtgmjfcekeglhjaaDoorKa4
set_option linter.unusedSimpArgs false
set_option linter.unusedVariables false
set_option maxRecDepth 100000
set_option linter.unusedSimpArgs false
set_option linter.unusedVariables false
set_option maxRecDepth 100000
namespace Go.Proofs.YtgmjfcekeglhjaaDoor
open Go Go.Vc Go.RowKit Go.Proofs
set_option maxHeartbeats 32000000 in
theorem arena_walk (w0 : World) (v : Value) (os : List Stp) (hS : Sl w0 6 v os.length (os.flatMap stV)) (hR : os.length ≤ 9223372036854775807) (hT : Tab w0) (h00 : 0 < w0.heap.size) : Ca Tryd.prog 4 #[v] w0 (fun r w' => r = .bool true ∧ Ext w0 w') := by
  refine Ca.of Tryd.func4 Tryd.ntmps4 rfl rfl ?_
  refine W.seq ?_
  refine W.region ?_
  refine WL.c rfl (o_ash (show _ = Value.bool _ from rfl) ?_)
  refine WL.nil ?_
  refine W.seq ?_
  refine W.seq ?_
  refine W.region ?_
  refine WL.c rfl (o_call Tryd.call9 ln ((awake_spec _ hT h00).mono ?_))
  rintro v19 w19 ⟨rfl, hx19⟩
  have hx := hx19
  refine WL.c rfl (o_not' rfl ?_)
  refine WL.nil ?_
  refine W.condF' rfl (by decide) ?_
  refine W.skip ?_
  refine W.seq ?_
  refine W.region ?_
  refine WL.c rfl (o_call Tryd.call12 ln ((vnew_spec _).mono ?_))
  rintro v21 w21 ⟨p0, m0, rfl, hA0, hx21⟩
  replace hA0 := hA0.mono hx.size
  replace hx := hx.tr hx21
  refine WL.c rfl (o_call Tryd.call12 ln ((vnew_spec _).mono ?_))
  rintro v22 w22 ⟨p1, m1, rfl, hA1, hx22⟩
  have hsep : ∀ k, AF p0 m0 (.slice none 0 0) k → ¬ AF p1 m1 (.slice none 0 0) k := fun k h1 h2 => by have := (hA0.lt k h1).2; have := (hA1.lt k h2).1; omega
  replace hA0 := hA0.ext hx22
  replace hA1 := hA1.mono hx.size
  replace hx := hx.tr hx22
  obtain ⟨p, hp0, hp1⟩ : ∃ p : Nat → Nat, p 0 = p0 ∧ p 1 = p1 := ⟨fun j => if j = 0 then p0 else p1, rfl, rfl⟩
  obtain ⟨mb, hm0, hm1⟩ : ∃ mb : Nat → Nat, mb 0 = m0 ∧ mb 1 = m1 := ⟨fun j => if j = 0 then m0 else m1, rfl, rfl⟩
  subst hp0 hp1 hm0 hm1
  refine WL.c rfl (o_bldR (cs := [_, _]) TI37 TI35 (lcp rfl (lcp rfl lnp)) rfl rfl ?_)
  refine WL.c rfl (o_alB TI37 ?_)
  intro wa hCa hxa hsa
  refine WL.u (o_stA TI37 rfl (show _ = Value.agg ([.pointer (some ⟨p 0, 0, none⟩), .pointer (some ⟨p 1, 0, none⟩)]).toArray from rfl) rfl rfl hCa rfl ?_)
  intro wb3 hC3 hob hsb
  have hxb := Ext.own hxa (Nat.le_refl _) hob
  obtain ⟨b3, hb3⟩ : ∃ b, b = w22.heap.size := ⟨_, rfl⟩
  rw [← hb3] at hC3 ⊢
  clear hCa hxa hsa hob hsb
  have hg3 : w0.heap.size ≤ b3 := by have := hx.size; omega
  replace hx := hx.tr hxb
  replace hA0 := hA0.ext hxb
  replace hA1 := hA1.ext hxb
  clear hxb
  refine WL.nil ?_
  refine W.seq ?_
  refine W.region ?_
  refine WL.c rfl (o_bldC (cs := [(.slice none 0 0)]) TI41 (Sizes.cons TI39 Sizes.nil) rfl lnp rfl rfl ?_)
  refine WL.c rfl (o_boxB rfl ?_)
  intro w25 hC25 hx25 hs25
  obtain ⟨b25, hb25⟩ : ∃ b, b = wb3.heap.size := ⟨_, rfl⟩
  rw [← hb25] at hC25 ⊢
  replace hC25 : w25.heap[b25]? = some (.cells ([Value.slice none 0 0]).toArray 41 (0, 0)) := hC25
  have hg25 : w0.heap.size ≤ b25 := by have := hx.size; omega
  replace hx := hx.tr hx25
  replace hA0 := hA0.ext hx25
  replace hA1 := hA1.ext hx25
  replace hC3 := hx25.blk hC3 (fun h => h)
  refine WL.c rfl (o_bldC (cs := [(.slice none 0 0)]) TI41 (Sizes.cons TI39 Sizes.nil) rfl lnp rfl rfl ?_)
  refine WL.c rfl (o_boxB rfl ?_)
  intro w27 hC27 hx27 hs27
  obtain ⟨b27, hb27⟩ : ∃ b, b = w25.heap.size := ⟨_, rfl⟩
  rw [← hb27] at hC27 ⊢
  replace hC27 : w27.heap[b27]? = some (.cells ([Value.slice none 0 0]).toArray 41 (0, 0)) := hC27
  have hg27 : w0.heap.size ≤ b27 := by have := hx.size; omega
  have hne : b25 < b27 := by have := (Array.getElem?_eq_some_iff.1 hC25).1; omega
  replace hx := hx.tr hx27
  replace hA0 := hA0.ext hx27
  replace hA1 := hA1.ext hx27
  replace hC3 := hx27.blk hC3 (fun h => h)
  replace hC25 := hx27.blk hC25 (fun h => h)
  refine WL.c rfl (o_bldR (cs := [_, _]) TI42 TI38 (lcp rfl (lcp rfl lnp)) rfl rfl ?_)
  refine WL.c rfl (o_alB TI42 ?_)
  intro wa hCa hxa hsa
  refine WL.u (o_stA TI42 rfl (show _ = Value.agg ([.pointer (some ⟨b25, 0, none⟩), .pointer (some ⟨b27, 0, none⟩)]).toArray from rfl) rfl rfl hCa rfl ?_)
  intro wb4 hC4 hob hsb
  have hxb := Ext.own hxa (Nat.le_refl _) hob
  obtain ⟨b4, hb4⟩ : ∃ b, b = w27.heap.size := ⟨_, rfl⟩
  rw [← hb4] at hC4 ⊢
  clear hCa hxa hsa hob hsb
  have hg4 : w0.heap.size ≤ b4 := by have := hx.size; omega
  replace hx := hx.tr hxb
  replace hA0 := hA0.ext hxb
  replace hA1 := hA1.ext hxb
  replace hC3 := hxb.blk hC3 (fun h => h)
  replace hC25 := hxb.blk hC25 (fun h => h)
  replace hC27 := hxb.blk hC27 (fun h => h)
  clear hxb
  refine WL.nil ?_
  refine W.seq ?_
  refine W.seq ?_
  refine W.region ?_
  refine WL.c rfl (o_ixA (i := 0) TI37 TI35 rfl rfl (by omega) ?_)
  refine WL.c rfl (o_ld TI35 rfl rfl (cell_of hC3 rfl) ?_)
  refine WL.c rfl (o_eqN TI35 rfl rfl ?_)
  refine WL.c rfl (o_mvh (show _ = Value.bool _ from rfl) ?_)
  refine WL.g rfl (by simp) rfl (o_ixA (i := 1) TI37 TI35 rfl rfl (by omega) ?_)
  refine WL.g rfl (by simp) rfl (o_ld TI35 rfl rfl (cell_of hC3 rfl) ?_)
  refine WL.g rfl (by simp) rfl (o_eqN TI35 rfl rfl ?_)
  refine WL.c rfl (o_pickO rfl rfl ?_)
  refine WL.nil ?_
  refine W.condF' rfl (by simp) ?_
  refine W.skip ?_
  refine W.seq ?_
  refine W.region ?_
  refine WL.c rfl (o_bldC (cs := [(.slice none 0 0), (.slice none 0 0), (.slice none 0 0), (.slice none 0 0)]) TI28 (Sizes.cons TI25 (Sizes.cons TI25 (Sizes.cons TI26 (Sizes.cons TI26 Sizes.nil)))) rfl lnp rfl rfl ?_)
  refine WL.c rfl (o_boxB rfl ?_)
  intro w38 hC38 hx38 hs38
  obtain ⟨b38, hb38⟩ : ∃ b, b = wb4.heap.size := ⟨_, rfl⟩
  rw [← hb38] at hC38 ⊢
  replace hC38 : w38.heap[b38]? = some (.cells ([Value.slice none 0 0, Value.slice none 0 0, Value.slice none 0 0, Value.slice none 0 0]).toArray 28 (0, 0)) := hC38
  have hg38 : w0.heap.size ≤ b38 := by have := hx.size; omega
  replace hx := hx.tr hx38
  replace hA0 := hA0.ext hx38
  replace hA1 := hA1.ext hx38
  replace hC3 := hx38.blk hC3 (fun h => h)
  replace hC25 := hx38.blk hC25 (fun h => h)
  replace hC27 := hx38.blk hC27 (fun h => h)
  replace hC4 := hx38.blk hC4 (fun h => h)
  refine WL.c rfl (o_ash (by first | exact (show _ = Value.pointer _ from rfl) | exact rfl) ?_)
  refine WL.nil ?_
  refine W.seq ?_
  refine W.seq ?_
  obtain ⟨q, hq0, hq1⟩ : ∃ q : Nat → Nat, q 0 = b25 ∧ q 1 = b27 := ⟨fun j => if j = 0 then b25 else b27, rfl, rfl⟩
  subst hq0 hq1
  obtain ⟨bp, rfl⟩ : ∃ bp, bp = b38 := ⟨_, rfl⟩
  have hV : VS _ w0.heap.size b3 p mb (fun _ => Value.slice none 0 0) (fun _ => []) := ⟨hC3, hg3, two hA0 hA1, hsep⟩
  have hW_ : RS _ w0.heap.size b4 q (fun _ => Value.slice none 0 0) (fun _ => []) := ⟨hC4, hg4, two ⟨hC25, World.ownsRow_nil _ _ _ _, hg25, Good.nil⟩ ⟨hC27, World.ownsRow_nil _ _ _ _, hg27, Good.nil⟩, fun k h1 h2 => by rcases h1 with rfl | h1 <;> rcases h2 with h2 | h2 <;> first | omega | (cases h1; done) | (cases h2; done)⟩
  have hB : Bk _ bp (Value.slice none 0 0) (Value.slice none 0 0) (Value.slice none 0 0) (Value.slice none 0 0) 0 0 (fun _ => Value.slice none 0 0) (fun _ => Value.slice none 0 0) (fun _ => Value.slice none 0 0) (fun _ => Value.slice none 0 0) := ⟨hC38, World.ownsRow_nil _ _ _ _, World.ownsRow_nil _ _ _ _, World.ownsRow_nil _ _ _ _, World.ownsRow_nil _ _ _ _, (fun k h => by cases h), (fun k h => by cases h), fun j h => absurd h (Nat.not_lt_zero _), fun j h => absurd h (Nat.not_lt_zero _), fun j h => absurd h (Nat.not_lt_zero _), fun j h => absurd h (Nat.not_lt_zero _)⟩
  have hBg : ∀ k, BF bp (Value.slice none 0 0) (Value.slice none 0 0) (Value.slice none 0 0) (Value.slice none 0 0) 0 0 (fun _ => Value.slice none 0 0) (fun _ => Value.slice none 0 0) (fun _ => Value.slice none 0 0) (fun _ => Value.slice none 0 0) k → w0.heap.size ≤ k := fun k hk => by
    rcases hk with rfl | hk | hk | hk | hk | ⟨j, hj, -⟩ | ⟨j, hj, -⟩
    · exact hg38
    · cases hk
    · cases hk
    · cases hk
    · cases hk
    · omega
    · omega
  refine W.region ?_
  refine WL.c rfl (o_ash (show _ = Value.int _ _ from rfl) ?_)
  refine WL.nil ?_
  refine W.block ?_
  refine W.loop (fun e w => ∃ (n : Nat) (cv lv : Nat → Value) (AL : Nat → List Mk) (a b c d : Value) (nl : Nat) (VA VB VC VD : Nat → Value), n ≤ 200 ∧ n ≤ os.length ∧ e 0 = v ∧ e 3 = .pointer (some ⟨b3, 0, none⟩) ∧ e 4 = .pointer (some ⟨b4, 0, none⟩) ∧ e 5 = .pointer (some ⟨bp, 0, none⟩) ∧ e 6 = .int .i64 (n : Int) ∧ (∀ j, j < 2 → (AL j).length ≤ n) ∧ nl ≤ 2 * n ∧ VS w w0.heap.size b3 p mb cv AL ∧ RS w w0.heap.size b4 q lv AL ∧ Bk w bp a b c d nl 0 VA VB VC VD ∧ (∀ k, BF bp a b c d nl 0 VA VB VC VD k → w0.heap.size ≤ k) ∧ Ext w0 w) (fun e w => 200 - (intOf (e 6)).toNat) ?_ ?_
  · exact ⟨0, _, _, _, _, _, _, _, 0, _, _, _, _, by omega, Nat.zero_le _, rfl, rfl, rfl, rfl, rfl, fun j _ => Nat.le_refl _, by omega, hV, hW_, hB, hBg, hx⟩
  rintro e w ⟨n, cv, lv, AL, a, b, c, d, nl, VA, VB, VC, VD, hn2, hn, h0, h3, h4, h5, h6, hAl, hnl, hV, hW_, hB, hBg, hx⟩
  have hm6 := h6
  refine W.seq ?_
  refine W.seq ?_
  refine W.region ?_
  refine WL.c rfl (o_mvh h6 ?_)
  refine WL.c rfl (o_mvh h0 ?_)
  refine WL.c rfl (o_lenR TI34 rfl (hS.ext hx) ?_)
  refine WL.c rfl (o_lt rfl rfl ?_)
  refine WL.c rfl (o_mvh (show _ = Value.bool _ from rfl) ?_)
  refine WL.sp 4 rfl (fun g43 => ?_) (fun g43 => ?_)
  · skip
    refine WL.g rfl (g43) rfl (o_mvh h6 ?_)
    refine WL.g rfl (g43) rfl (o_lt rfl rfl ?_)
    refine WL.c rfl (o_pickA rfl rfl ?_)
    refine WL.nil ?_
    refine W.cond rfl (fun c46 => ?_) (fun c46 => ?_)
    · try simp only [decide_eq_true_eq, decide_eq_false_iff_not, Bool.not_eq_true', Bool.not_eq_false', Bool.and_eq_true, Bool.or_eq_true, Bool.and_eq_false_iff, Bool.or_eq_false_iff] at c46
      have hn1 : n < os.length := by first | omega | simp_all
      have hn3 : n < 200 := by first | omega | simp_all
      obtain ⟨sb, so, sc, hve, hsc⟩ := Sl.stp (hS.ext hx) hn1
      rw [hve] at h0
      refine W.skip ?_
      refine W.seq ?_
      refine W.block ?_
      refine W.seq ?_
      refine W.region ?_
      refine WL.c rfl (o_mvh h0 ?_)
      refine WL.c rfl (o_mvh h6 ?_)
      refine WL.c rfl (o_ixB (i := n) TI34 TI45 (show _ = Value.slice (some ⟨sb, so, none⟩) os.length sc from by first | rfl | assumption) (show _ = Value.int .i64 (n : Int) from by first | rfl | assumption) (by omega) ?_)
      refine WL.c rfl (o_ldA TI45 rfl rfl hsc rfl ?_)
      refine WL.c rfl (o_alB TI45 ?_)
      intro wa hCa hxa hsa
      refine WL.u (o_stA TI45 rfl (show _ = Value.agg (stV os[n]).toArray from rfl) rfl rfl hCa rfl ?_)
      intro wb7 hC7 hob hsb
      have hxb := Ext.own hxa (Nat.le_refl _) hob
      obtain ⟨b7, hb7⟩ : ∃ b, b = w.heap.size := ⟨_, rfl⟩
      rw [← hb7] at hC7 ⊢
      clear hCa hxa hsa hob hsb
      replace hV := hV.ext hxb
      replace hW_ := hW_.ext hxb
      replace hB := hB.ext hxb
      replace hx := hx.tr hxb
      clear hxb
      refine WL.nil ?_
      refine W.seq ?_
      obtain ⟨wh, hwh⟩ : ∃ wh : Nat, wh = if os[n].which then 1 else 0 := ⟨_, rfl⟩
      have hw2 : wh < 2 := by rw [hwh]; split <;> omega
      have hAw := hAl wh hw2
      refine W.region ?_
      refine WL.c rfl (o_ash (show _ = Value.int _ _ from rfl) ?_)
      refine WL.nil ?_
      refine W.seq ?_
      refine W.seq ?_
      refine W.region ?_
      refine WL.c rfl (o_fa 0 TI45 rfl TI4 rfl rfl ?_)
      refine WL.c rfl (o_ld TI4 rfl rfl (cell_of hC7 rfl) ?_)
      refine WL.nil ?_
      refine W.cut (fun e1 w1 => e1 8 = .int .i64 (wh : Int) ∧ e1 0 = Value.slice (some ⟨sb, so, none⟩) os.length sc ∧ e1 3 = .pointer (some ⟨b3, 0, none⟩) ∧ e1 4 = .pointer (some ⟨b4, 0, none⟩) ∧ e1 5 = .pointer (some ⟨bp, 0, none⟩) ∧ e1 6 = .int .i64 (n : Int) ∧ e1 7 = .pointer (some ⟨b7, 0, none⟩) ∧ w1 = wb7) ?_ ?_
      · -- both ways
        refine W.cond rfl (fun c54 => ?_) (fun c54 => ?_)
        · try simp only [decide_eq_true_eq, decide_eq_false_iff_not, Bool.not_eq_true', Bool.not_eq_false', Bool.and_eq_true, Bool.or_eq_true, Bool.and_eq_false_iff, Bool.or_eq_false_iff] at c54
          refine W.region ?_
          refine WL.c rfl (o_ash (show _ = Value.int _ _ from rfl) ?_)
          refine WL.nil ?_
          first | exact ⟨by rw [hwh, c54]; rfl, h0, h3, h4, h5, h6, rfl, rfl⟩ | exact ⟨by rw [hwh, c54]; rfl, h0, h3, h4, h5, h6, rfl, rfl⟩
        · try simp only [decide_eq_true_eq, decide_eq_false_iff_not, Bool.not_eq_true', Bool.not_eq_false', Bool.and_eq_true, Bool.or_eq_true, Bool.and_eq_false_iff, Bool.or_eq_false_iff] at c54
          refine W.skip ?_
          first | exact ⟨by rw [hwh, c54]; rfl, h0, h3, h4, h5, h6, rfl, rfl⟩ | exact ⟨by rw [hwh, c54]; rfl, h0, h3, h4, h5, h6, rfl, rfl⟩
      rintro e w ⟨h8, h0, h3, h4, h5, h6, h7, hw1⟩
      refine W.seq ?_
      refine W.seq ?_
      subst hw1
      refine W.region ?_
      refine WL.c rfl (o_fa 1 TI45 rfl TI4 rfl h7 ?_)
      refine WL.c rfl (o_ld TI4 rfl rfl (cell_of hC7 rfl) ?_)
      refine WL.c rfl (o_not' rfl ?_)
      refine WL.nil ?_
      refine W.cond rfl (fun c57 => ?_) (fun c57 => ?_)
      · try simp only [decide_eq_true_eq, decide_eq_false_iff_not, Bool.not_eq_true', Bool.not_eq_false', Bool.and_eq_true, Bool.or_eq_true, Bool.and_eq_false_iff, Bool.or_eq_false_iff] at c57
        refine W.seq ?_
        obtain ⟨wd, hwd⟩ : ∃ wd, wd = w.drew := ⟨_, rfl⟩
        have hxd : Ext w wd := hwd ▸ Only.drew w
        replace hV := hV.ext hxd
        replace hW_ := hW_.ext hxd
        replace hB := hB.ext hxd
        replace hx := hx.tr hxd
        replace hC7 := hxd.blk hC7 (fun h => h)
        have hTy := (hV.ar wh hw2).typed
        have hn7 : ¬ (AF (p wh) (mb wh) (cv wh)) b7 := fun hF => Typed.off hTy (Typed.cell hC7) (by decide) b7 hF rfl
        have hnc : ¬ (AF (p wh) (mb wh) (cv wh)) b3 := fun hF => Typed.off hTy (Typed.cell hV.cell) (by decide) b3 hF rfl
        have hFl : ∀ k, (AF (p wh) (mb wh) (cv wh)) k → w0.heap.size ≤ k ∧ k < wd.heap.size := fun k hk => (hV.ar wh hw2).lt k hk
        refine W.drawF 16 [11] [AF (p wh) (mb wh) (cv wh)] [(0, fun v _ => v = _), (3, fun v _ => v = _), (4, fun v _ => v = _), (5, fun v _ => v = _), (6, fun v _ => v = _), (7, fun v _ => v = _), (8, fun v _ => v = _)] rfl (by kernel_rfl) (by kernel_rfl) ⟨Mono.eq, Mono.eq, Mono.eq, Mono.eq, Mono.eq, Mono.eq, Mono.eq, trivial⟩ ⟨h0, h3, h4, h5, h6, h7, h8, trivial⟩ ?_
        refine WDS.p rfl (by decide) (fun e w hR hh => by obtain ⟨h8, -⟩ := hh; exact SG.n (o_mvh h8 ⟨rfl, Only.refl No _⟩)) ?_
        refine WDS.p rfl (by decide) (fun e w hR hh => by obtain ⟨h59, h3, -⟩ := hh; exact SG.n (o_ixA (i := wh) TI37 TI35 h3 h59 (by omega) ⟨rfl, Only.refl No _⟩)) ?_
        refine WDS.p rfl (by decide) (fun e w hR hh => by obtain ⟨h60, -⟩ := hh; rw [← hwd] at hR; have hc := hR.blk hV.cell (fun hF => by rcases hF with hF | hF <;> first | exact hnc hF | exact hF); exact SG.n (o_ld TI35 rfl h60 (cell_of hc (ar2 (f := (fun j => Value.pointer (some ⟨p j, 0, none⟩))) hw2)) ⟨rfl, Only.refl No _⟩)) ?_
        refine WDS.p rfl (by decide) (fun e w hR hh => by obtain ⟨h7, -⟩ := hh; exact SG.n (o_fa 2 TI45 rfl TI3 rfl h7 ⟨rfl, Only.refl No _⟩)) ?_
        refine WDS.p rfl (by decide) (fun e w hR hh => by obtain ⟨h62, -⟩ := hh; rw [← hwd] at hR; have hc := hR.blk hC7 (fun hF => by rcases hF with hF | hF <;> first | exact hn7 hF | exact hF); exact SG.n (o_ld TI3 rfl h62 (cell_of hc rfl) ⟨rfl, Only.refl No _⟩)) ?_
        refine WDS.p rfl (by decide) (fun e w hR hh => by obtain ⟨h7, -⟩ := hh; exact SG.n (o_fa 3 TI45 rfl TI3 rfl h7 ⟨rfl, Only.refl No _⟩)) ?_
        refine WDS.p rfl (by decide) (fun e w hR hh => by obtain ⟨h64, -⟩ := hh; rw [← hwd] at hR; have hc := hR.blk hC7 (fun hF => by rcases hF with hF | hF <;> first | exact hn7 hF | exact hF); exact SG.n (o_ld TI3 rfl h64 (cell_of hc rfl) ⟨rfl, Only.refl No _⟩)) ?_
        refine WDS.p rfl (by decide) (fun e w hR hh => by obtain ⟨h7, -⟩ := hh; exact SG.n (o_fa 4 TI45 rfl TI3 rfl h7 ⟨rfl, Only.refl No _⟩)) ?_
        refine WDS.p rfl (by decide) (fun e w hR hh => by obtain ⟨h66, -⟩ := hh; rw [← hwd] at hR; have hc := hR.blk hC7 (fun hF => by rcases hF with hF | hF <;> first | exact hn7 hF | exact hF); exact SG.n (o_ld TI3 rfl h66 (cell_of hc rfl) ⟨rfl, Only.refl No _⟩)) ?_
        refine WDS.p rfl (by decide) (fun e w hR hh => by obtain ⟨h7, -⟩ := hh; exact SG.n (o_fa 5 TI45 rfl TI43 rfl h7 ⟨rfl, Only.refl No _⟩)) ?_
        refine WDS.p rfl (by decide) (fun e w hR hh => by obtain ⟨h68, -⟩ := hh; rw [← hwd] at hR; have hc := hR.blk hC7 (fun hF => by rcases hF with hF | hF <;> first | exact hn7 hF | exact hF); exact SG.n (o_ld TI43 rfl h68 (cell_of hc rfl) ⟨rfl, Only.refl No _⟩)) ?_
        refine WDS.mf 0 1 (fun v w => v = .tuple #[.int .i64 (addV (AL wh) os[n].par os[n].k os[n].kind os[n].n).1, .int .i64 (addV (AL wh) os[n].par os[n].k os[n].kind os[n].n).2.1] ∧ ∃ u2, ArM w w0.heap.size (p wh) (mb wh) u2 (addV (AL wh) os[n].par os[n].k os[n].kind os[n].n).2.2 ∧ ∀ k, u2.ownBlock = some k → (cv wh).ownBlock = some k ∨ wd.heap.size ≤ k) (fun v w w2 hR hh => by obtain ⟨h1, u2, h2, h3⟩ := hh; exact ⟨h1, u2, h2.ext hR, h3⟩) (by kernel_rfl) rfl rfl rfl (fun e w hR hW hh => by obtain ⟨h69, h67, h65, h63, h61, -⟩ := hh; rw [← hwd] at hR hW; have hW2 : Ext wd w := hW.mono (fun k _ hF => hF); exact SGX.n (OP.x (o_call Tryd.call13 (lc h61 (lc h63 (lc h65 (lc h67 (lc h69 ln))))) ((vadd_spec w0.heap.size (p wh) (mb wh) (cv wh) (AL wh) os[n].par os[n].k os[n].kind os[n].n w ((hV.ar wh hw2).ext hW2) (by omega)).mono (fun v w' hh => by obtain ⟨h1, u2, h2, h3, h4⟩ := hh; exact ⟨⟨h1, u2, h2, fun k hk => (h4 k hk).imp id (fun h => Nat.le_trans hW2.size h)⟩, h3⟩))))) ?_
        refine WDS.q 1 (fun v w => v = .tuple #[.int .i64 (addV (AL wh) os[n].par os[n].k os[n].kind os[n].n).1, .int .i64 (addV (AL wh) os[n].par os[n].k os[n].kind os[n].n).2.1] ∧ ∃ u2, ArM w w0.heap.size (p wh) (mb wh) u2 (addV (AL wh) os[n].par os[n].k os[n].kind os[n].n).2.2 ∧ ∀ k, u2.ownBlock = some k → (cv wh).ownBlock = some k ∨ wd.heap.size ≤ k) (fun v w w2 hR hh => by obtain ⟨h1, u2, h2, h3⟩ := hh; exact ⟨h1, u2, h2.ext hR, h3⟩) (by kernel_rfl) rfl (by decide) (fun e w hR hh => by obtain ⟨h70, -⟩ := hh; exact SG.n (o_mv ⟨h70, Only.refl No _⟩)) ?_
        refine WDS.p rfl (by decide) (fun e w hR hh => by obtain ⟨h58, -⟩ := hh; obtain ⟨h58, -⟩ := h58; exact SG.n (o_ext h58 rfl ⟨rfl, Only.refl No _⟩)) ?_
        refine WDS.p rfl (by decide) (fun e w hR hh => by obtain ⟨h58, -⟩ := hh; obtain ⟨h58, -⟩ := h58; exact SG.n (o_ext h58 rfl ⟨rfl, Only.refl No _⟩)) ?_
        refine WDS.p rfl (by decide) (fun e w hR hh => by obtain ⟨h71, -⟩ := hh; exact SG.n (o_ash h71 ⟨rfl, Only.refl No _⟩)) ?_
        rintro e w hR ⟨h9, h72, h71, h58, h70, h69, h68, h67, h66, h65, h64, h63, h62, h61, h60, h59, h0, h3, h4, h5, h6, h7, h8, -⟩
        rw [← hwd] at hR
        obtain ⟨-, u2, hA2, hu2⟩ := h70
        have ho : Only (AF (p wh) (mb wh) (cv wh)) wd w := hR.mono (fun k _ hF => by rcases hF with hF | hF <;> first | exact hF | exact hF.elim)
        replace hW_ := hW_.only ho (fun k hk hF => Typed.off hTy hW_.typed (by decide) k hF hk)
        replace hB := hB.only ho (fun k hk hF => Typed.off hTy hB.typed (by decide) k hF hk)
        replace hC7 := ho.blk hC7 hn7
        replace hV := hV.put hw2 ho hA2 hu2
        replace hx := hx.trans' ho (fun _ h => h) (fun k hk hF => by have := (hFl k hF).1; omega)
        clear hR hA2 hu2 hTy hn7 hnc hFl hwd hxd
        refine WL.c rfl (o_ash h72 ?_)
        refine WL.nil ?_
        refine W.seq ?_
        obtain ⟨wd, hwd⟩ : ∃ wd, wd = w.drew := ⟨_, rfl⟩
        have hxd : Ext w wd := hwd ▸ Only.drew w
        replace hV := hV.ext hxd
        replace hW_ := hW_.ext hxd
        replace hB := hB.ext hxd
        replace hx := hx.tr hxd
        replace hC7 := hxd.blk hC7 (fun h => h)
        have hTy := (hW_.ar wh hw2).typed
        have hn7 : ¬ (RF (q wh) (lv wh)) b7 := fun hF => Typed.off hTy (Typed.cell hC7) (by decide) b7 hF rfl
        have hnc : ¬ (RF (q wh) (lv wh)) b4 := fun hF => Typed.off hTy (Typed.cell hW_.cell) (by decide) b4 hF rfl
        have hFl : ∀ k, (RF (q wh) (lv wh)) k → w0.heap.size ≤ k ∧ k < wd.heap.size := fun k hk => (hW_.ar wh hw2).lt hk
        refine W.drawF 16 [11] [RF (q wh) (lv wh)] [(0, fun v _ => v = _), (3, fun v _ => v = _), (4, fun v _ => v = _), (5, fun v _ => v = _), (6, fun v _ => v = _), (7, fun v _ => v = _), (8, fun v _ => v = _), (9, fun v _ => v = _), (10, fun v _ => v = _)] rfl (by kernel_rfl) (by kernel_rfl) ⟨Mono.eq, Mono.eq, Mono.eq, Mono.eq, Mono.eq, Mono.eq, Mono.eq, Mono.eq, Mono.eq, trivial⟩ ⟨h0, h3, h4, h5, h6, h7, h8, h9, rfl, trivial⟩ ?_
        refine WDS.p rfl (by decide) (fun e w hR hh => by obtain ⟨h8, -⟩ := hh; exact SG.n (o_mvh h8 ⟨rfl, Only.refl No _⟩)) ?_
        refine WDS.p rfl (by decide) (fun e w hR hh => by obtain ⟨h74, h4, -⟩ := hh; exact SG.n (o_ixA (i := wh) TI42 TI38 h4 h74 (by omega) ⟨rfl, Only.refl No _⟩)) ?_
        refine WDS.p rfl (by decide) (fun e w hR hh => by obtain ⟨h75, -⟩ := hh; rw [← hwd] at hR; have hc := hR.blk hW_.cell (fun hF => by rcases hF with hF | hF <;> first | exact hnc hF | exact hF); exact SG.n (o_ld TI38 rfl h75 (cell_of hc (ar2 (f := (fun j => Value.pointer (some ⟨q j, 0, none⟩))) hw2)) ⟨rfl, Only.refl No _⟩)) ?_
        refine WDS.p rfl (by decide) (fun e w hR hh => by obtain ⟨h7, -⟩ := hh; exact SG.n (o_fa 2 TI45 rfl TI3 rfl h7 ⟨rfl, Only.refl No _⟩)) ?_
        refine WDS.p rfl (by decide) (fun e w hR hh => by obtain ⟨h77, -⟩ := hh; rw [← hwd] at hR; have hc := hR.blk hC7 (fun hF => by rcases hF with hF | hF <;> first | exact hn7 hF | exact hF); exact SG.n (o_ld TI3 rfl h77 (cell_of hc rfl) ⟨rfl, Only.refl No _⟩)) ?_
        refine WDS.p rfl (by decide) (fun e w hR hh => by obtain ⟨h7, -⟩ := hh; exact SG.n (o_fa 3 TI45 rfl TI3 rfl h7 ⟨rfl, Only.refl No _⟩)) ?_
        refine WDS.p rfl (by decide) (fun e w hR hh => by obtain ⟨h79, -⟩ := hh; rw [← hwd] at hR; have hc := hR.blk hC7 (fun hF => by rcases hF with hF | hF <;> first | exact hn7 hF | exact hF); exact SG.n (o_ld TI3 rfl h79 (cell_of hc rfl) ⟨rfl, Only.refl No _⟩)) ?_
        refine WDS.p rfl (by decide) (fun e w hR hh => by obtain ⟨h7, -⟩ := hh; exact SG.n (o_fa 4 TI45 rfl TI3 rfl h7 ⟨rfl, Only.refl No _⟩)) ?_
        refine WDS.p rfl (by decide) (fun e w hR hh => by obtain ⟨h81, -⟩ := hh; rw [← hwd] at hR; have hc := hR.blk hC7 (fun hF => by rcases hF with hF | hF <;> first | exact hn7 hF | exact hF); exact SG.n (o_ld TI3 rfl h81 (cell_of hc rfl) ⟨rfl, Only.refl No _⟩)) ?_
        refine WDS.p rfl (by decide) (fun e w hR hh => by obtain ⟨h7, -⟩ := hh; exact SG.n (o_fa 5 TI45 rfl TI43 rfl h7 ⟨rfl, Only.refl No _⟩)) ?_
        refine WDS.p rfl (by decide) (fun e w hR hh => by obtain ⟨h83, -⟩ := hh; rw [← hwd] at hR; have hc := hR.blk hC7 (fun hF => by rcases hF with hF | hF <;> first | exact hn7 hF | exact hF); exact SG.n (o_ld TI43 rfl h83 (cell_of hc rfl) ⟨rfl, Only.refl No _⟩)) ?_
        refine WDS.mf 0 1 (fun v w => v = .tuple #[.int .i64 (addV (AL wh) os[n].par os[n].k os[n].kind os[n].n).1, .int .i64 (addV (AL wh) os[n].par os[n].k os[n].kind os[n].n).2.1] ∧ ∃ u2, RArM w w0.heap.size (q wh) u2 (addV (AL wh) os[n].par os[n].k os[n].kind os[n].n).2.2 ∧ ∀ k, u2.ownBlock = some k → (lv wh).ownBlock = some k ∨ wd.heap.size ≤ k) (fun v w w2 hR hh => by obtain ⟨h1, u2, h2, h3⟩ := hh; exact ⟨h1, u2, h2.ext hR, h3⟩) (by kernel_rfl) rfl rfl rfl (fun e w hR hW hh => by obtain ⟨h84, h82, h80, h78, h76, -⟩ := hh; rw [← hwd] at hR hW; have hW2 : Ext wd w := hW.mono (fun k _ hF => hF); exact SGX.n (OP.x (o_call Tryd.call14 (lc h76 (lc h78 (lc h80 (lc h82 (lc h84 ln))))) ((radd_spec w0.heap.size (q wh) (lv wh) (AL wh) os[n].par os[n].k os[n].kind os[n].n w ((hW_.ar wh hw2).ext hW2) (by omega)).mono (fun v w' hh => by obtain ⟨h1, u2, h2, h3, h4⟩ := hh; exact ⟨⟨h1, u2, h2, fun k hk => (h4 k hk).imp id (fun h => Nat.le_trans hW2.size h)⟩, h3⟩))))) ?_
        refine WDS.q 1 (fun v w => v = .tuple #[.int .i64 (addV (AL wh) os[n].par os[n].k os[n].kind os[n].n).1, .int .i64 (addV (AL wh) os[n].par os[n].k os[n].kind os[n].n).2.1] ∧ ∃ u2, RArM w w0.heap.size (q wh) u2 (addV (AL wh) os[n].par os[n].k os[n].kind os[n].n).2.2 ∧ ∀ k, u2.ownBlock = some k → (lv wh).ownBlock = some k ∨ wd.heap.size ≤ k) (fun v w w2 hR hh => by obtain ⟨h1, u2, h2, h3⟩ := hh; exact ⟨h1, u2, h2.ext hR, h3⟩) (by kernel_rfl) rfl (by decide) (fun e w hR hh => by obtain ⟨h85, -⟩ := hh; exact SG.n (o_mv ⟨h85, Only.refl No _⟩)) ?_
        refine WDS.p rfl (by decide) (fun e w hR hh => by obtain ⟨h73, -⟩ := hh; obtain ⟨h73, -⟩ := h73; exact SG.n (o_ext h73 rfl ⟨rfl, Only.refl No _⟩)) ?_
        refine WDS.p rfl (by decide) (fun e w hR hh => by obtain ⟨h73, -⟩ := hh; obtain ⟨h73, -⟩ := h73; exact SG.n (o_ext h73 rfl ⟨rfl, Only.refl No _⟩)) ?_
        refine WDS.p rfl (by decide) (fun e w hR hh => by obtain ⟨h86, -⟩ := hh; exact SG.n (o_ash h86 ⟨rfl, Only.refl No _⟩)) ?_
        rintro e w hR ⟨h11, h87, h86, h73, h85, h84, h83, h82, h81, h80, h79, h78, h77, h76, h75, h74, h0, h3, h4, h5, h6, h7, h8, h9, h10, -⟩
        rw [← hwd] at hR
        obtain ⟨-, u2, hA2, hu2⟩ := h85
        have ho : Only (RF (q wh) (lv wh)) wd w := hR.mono (fun k _ hF => by rcases hF with hF | hF <;> first | exact hF | exact hF.elim)
        replace hV := hV.only ho (fun k hk hF => Typed.off hTy hV.typed (by decide) k hF hk)
        replace hB := hB.only ho (fun k hk hF => Typed.off hTy hB.typed (by decide) k hF hk)
        replace hC7 := ho.blk hC7 hn7
        replace hW_ := hW_.put hw2 ho hA2 hu2
        replace hx := hx.trans' ho (fun _ h => h) (fun k hk hF => by have := (hFl k hF).1; omega)
        clear hR hA2 hu2 hTy hn7 hnc hFl hwd hxd
        refine WL.c rfl (o_ash h87 ?_)
        refine WL.nil ?_
        refine W.seq ?_
        refine W.seq ?_
        refine W.region ?_
        refine WL.c rfl (o_mvh h9 ?_)
        refine WL.c rfl (o_mvh h11 ?_)
        refine WL.c rfl (o_ne rfl rfl ?_)
        refine WL.c rfl (o_mvh (show _ = Value.bool _ from rfl) ?_)
        refine WL.g rfl (by simp) rfl (o_mvh h10 ?_)
        refine WL.g rfl (by simp) rfl (o_call Tryd.call15 (lc rfl ln) ((num_spec _ _).mono ?_))
        rintro v93 w93 ⟨rfl, rfl⟩
        refine WL.g rfl (by simp) rfl (o_mvh (show _ = Value.int _ _ from rfl) ?_)
        refine WL.g rfl (by simp) rfl (o_ne rfl rfl ?_)
        refine WL.c rfl (o_pickO rfl rfl ?_)
        refine WL.nil ?_
        have hAl2 : ∀ j, j < 2 → (putF AL wh (addV (AL wh) os[n].par os[n].k os[n].kind os[n].n).2.2 j).length ≤ n + 1 := fun j hj => by
          rw [putF]
          split
          · have := addV_len (AL wh) os[n].par os[n].k os[n].kind os[n].n; omega
          · have := hAl j hj; omega
        refine W.condF' rfl (by simp) ?_
        refine W.skip ?_
        refine W.exit ?_
        refine W.region ?_
        refine WL.c rfl (o_mvh h6 ?_)
        refine WL.c rfl (o_addi rfl rfl (by omega) ?_)
        refine WL.c rfl (o_ash (show _ = Value.int _ _ from rfl) ?_)
        refine WL.nil ?_
        first
          | refine ⟨⟨n + 1, _, _, _, _, _, _, _, _, _, _, _, _, by omega, by omega, h0.trans hve.symm, h3, h4, h5, rfl, hAl2, by omega, hV, hW_, hB, hBg, hx⟩, ?_⟩
          | refine ⟨⟨n + 1, _, _, _, _, _, _, _, _, _, _, _, _, by omega, by omega, h0.trans hve.symm, h3, h4, h5, rfl, fun j hj => by have := hAl j hj; omega, by omega, hV, hW_, hB, hBg, hx⟩, ?_⟩
        show 200 - ((n : Int) + 1).toNat < _
        rw [hm6]; simp [intOf]; omega
      · try simp only [decide_eq_true_eq, decide_eq_false_iff_not, Bool.not_eq_true', Bool.not_eq_false', Bool.and_eq_true, Bool.or_eq_true, Bool.and_eq_false_iff, Bool.or_eq_false_iff] at c57
        refine W.skip ?_
        refine W.seq ?_
        obtain ⟨wq, hwq⟩ : ∃ wq, wq = w := ⟨_, rfl⟩
        have hBq : ∀ k, BF bp a b c d nl 0 VA VB VC VD k → k < w.heap.size := fun k hk => hB.lt k hk
        have hq0 := hx.size
        refine W.region ?_
        refine WL.c rfl (o_mvh h8 ?_)
        refine WL.c rfl (o_ixA (i := wh) TI37 TI35 (show _ = Value.pointer (some ⟨b3, 0, none⟩) from by first | rfl | assumption) (show _ = Value.int .i64 (wh : Int) from by first | rfl | assumption) (by omega) ?_)
        refine WL.c rfl (o_ld TI35 rfl rfl (cell_of hV.cell (ar2 (f := (fun j => Value.pointer (some ⟨p j, 0, none⟩))) hw2)) ?_)
        refine WL.c rfl (o_call Tryd.call16 (lc rfl ln) ((vvalue_u _ (hV.ar wh hw2) hx.size (by omega)).mono ?_))
        rintro v101 w101 ⟨hx101, hvl, nv1, rfl, hn1⟩
        replace hV := hV.ext hx101
        replace hW_ := hW_.ext hx101
        replace hB := hB.ext hx101
        replace hx := hx.tr hx101
        have hs1 := hx101.size
        have hz1 : ∀ k, nv1.ownBlock = some k → k < w101.heap.size := fun k hk => (hn1.lt k hk).2
        refine WL.c rfl (o_mvh (by first | exact (show _ = Value.tuple _ from rfl) | exact rfl) ?_)
        refine WL.c rfl (o_ext rfl rfl ?_)
        refine WL.c rfl (o_ext rfl rfl ?_)
        refine WL.c rfl (o_ash (by first | exact (show _ = Value.slice _ _ _ from rfl) | exact rfl) ?_)
        refine WL.c rfl (o_ash (show _ = Value.int _ _ from rfl) ?_)
        refine WL.nil ?_
        refine W.seq ?_
        refine W.region ?_
        refine WL.c rfl (o_mvh h8 ?_)
        refine WL.c rfl (o_ixA (i := wh) TI37 TI35 (show _ = Value.pointer (some ⟨b3, 0, none⟩) from by first | rfl | assumption) (show _ = Value.int .i64 (wh : Int) from by first | rfl | assumption) (by omega) ?_)
        refine WL.c rfl (o_ld TI35 rfl rfl (cell_of hV.cell (ar2 (f := (fun j => Value.pointer (some ⟨p j, 0, none⟩))) hw2)) ?_)
        refine WL.c rfl (o_call Tryd.call16 (lc rfl ln) ((vvalue_u _ (hV.ar wh hw2) hx.size (by omega)).mono ?_))
        rintro v108 w108 ⟨hx108, -, nv2, rfl, hn2⟩
        replace hV := hV.ext hx108
        replace hW_ := hW_.ext hx108
        replace hB := hB.ext hx108
        replace hx := hx.tr hx108
        replace hn1 := own_ext hn1 hx108
        have hs2 := hx108.size
        have hz2 : ∀ k, nv2.ownBlock = some k → k < w108.heap.size := fun k hk => (hn2.lt k hk).2
        have hz21 : ∀ k, nv2.ownBlock = some k → ¬ nv1.ownBlock = some k := fun k hk h1 => by have := (hn2.lt k hk).1; have := hz1 k h1; omega
        refine WL.c rfl (o_mvh (by first | exact (show _ = Value.tuple _ from rfl) | exact rfl) ?_)
        refine WL.c rfl (o_ext rfl rfl ?_)
        refine WL.c rfl (o_ext rfl rfl ?_)
        refine WL.c rfl (o_ash (by first | exact (show _ = Value.slice _ _ _ from rfl) | exact rfl) ?_)
        refine WL.c rfl (o_ash (show _ = Value.int _ _ from rfl) ?_)
        refine WL.nil ?_
        refine W.seq ?_
        refine W.region ?_
        refine WL.c rfl (o_mvh h8 ?_)
        refine WL.c rfl (o_ixA (i := wh) TI42 TI38 (show _ = Value.pointer (some ⟨b4, 0, none⟩) from by first | rfl | assumption) (show _ = Value.int .i64 (wh : Int) from by first | rfl | assumption) (by omega) ?_)
        refine WL.c rfl (o_ld TI38 rfl rfl (cell_of hW_.cell (ar2 (f := (fun j => Value.pointer (some ⟨q j, 0, none⟩))) hw2)) ?_)
        refine WL.c rfl (o_call Tryd.call17 (lc rfl ln) ((rvalue_u _ (hW_.ar wh hw2) (by omega)).mono ?_))
        rintro v115 w115 ⟨hx115, nv3, rfl, hn3⟩
        replace hV := hV.ext hx115
        replace hW_ := hW_.ext hx115
        replace hB := hB.ext hx115
        replace hx := hx.tr hx115
        replace hn1 := own_ext hn1 hx115
        replace hn2 := own_ext hn2 hx115
        have hs115 := hx115.size
        refine WL.c rfl (o_mvh (by first | exact (show _ = Value.tuple _ from rfl) | exact rfl) ?_)
        refine WL.c rfl (o_ext rfl rfl ?_)
        refine WL.c rfl (o_ext rfl rfl ?_)
        refine WL.c rfl (o_ash (by first | exact (show _ = Value.slice _ _ _ from rfl) | exact rfl) ?_)
        refine WL.c rfl (o_ash (show _ = Value.int _ _ from rfl) ?_)
        refine WL.nil ?_
        refine W.seq ?_
        refine W.seq ?_
        obtain ⟨wd, hwd⟩ : ∃ wd, wd = w115.drew := ⟨_, rfl⟩
        have hxd : Ext w115 wd := hwd ▸ Only.drew w115
        replace hV := hV.ext hxd
        replace hW_ := hW_.ext hxd
        replace hB := hB.ext hxd
        replace hx := hx.tr hxd
        replace hn1 := own_ext hn1 hxd
        replace hn2 := own_ext hn2 hxd
        replace hn3 := own_ext hn3 hxd
        have hsd := hxd.size
        refine W.draw (Ext) [(0, fun v _ => v = _), (3, fun v _ => v = _), (4, fun v _ => v = _), (5, fun v _ => v = _), (6, fun v _ => v = _), (8, fun v _ => v = _), (13, fun v _ => v = _), (14, fun v _ => v = _), (15, fun v _ => v = _), (16, fun v _ => v = _), (17, fun v _ => v = _), (18, fun v _ => v = _)] rfl (by kernel_rfl) (Only.refl No) (fun _ _ _ h k => h.trans k) ⟨Mono.eq, Mono.eq, Mono.eq, Mono.eq, Mono.eq, Mono.eq, Mono.eq, Mono.eq, Mono.eq, Mono.eq, Mono.eq, Mono.eq, trivial⟩ ⟨h0, h3, h4, h5, h6, h8, rfl, rfl, rfl, rfl, rfl, rfl, trivial⟩ ?_
        refine WD.p rfl (fun e w hR hh => by obtain ⟨h14, -⟩ := hh; exact SG.n (o_mvh h14 ⟨rfl, Only.refl No _⟩)) ?_
        refine WD.p rfl (fun e w hR hh => by obtain ⟨h118, -⟩ := hh; exact SG.n (o_call Tryd.call15 (lc h118 ln) ((num_spec _ _).mono (fun v w' ⟨h1, h2⟩ => ⟨h1, by rw [h2]; exact Only.refl No _⟩)))) ?_
        refine WD.p rfl (fun e w hR hh => by obtain ⟨h18, -⟩ := hh; exact SG.n (o_mvh h18 ⟨rfl, Only.refl No _⟩)) ?_
        refine WD.p rfl (fun e w hR hh => by obtain ⟨h120, h119, -⟩ := hh; exact SG.n (o_ne h119 h120 ⟨rfl, Only.refl No _⟩)) ?_
        refine WD.p rfl (fun e w hR hh => by obtain ⟨h121, -⟩ := hh; exact SG.n (o_mvh h121 ⟨rfl, Only.refl No _⟩)) ?_
        refine WD.p rfl (fun e w hR hh => by obtain ⟨h122, h16, -⟩ := hh; exact SG.g h122 (by simp) (o_mvh h16 ⟨rfl, Only.refl No _⟩)) ?_
        refine WD.p rfl (fun e w hR hh => by obtain ⟨h123, h122, -⟩ := hh; exact SG.g h122 (by simp) (o_call Tryd.call15 (lc h123 ln) ((num_spec _ _).mono (fun v w' ⟨h1, h2⟩ => ⟨h1, by rw [h2]; exact Only.refl No _⟩)))) ?_
        refine WD.p rfl (fun e w hR hh => by obtain ⟨h122, h18, -⟩ := hh; exact SG.g h122 (by simp) (o_mvh h18 ⟨rfl, Only.refl No _⟩)) ?_
        refine WD.p rfl (fun e w hR hh => by obtain ⟨h125, h124, h122, -⟩ := hh; exact SG.g h122 (by simp) (o_ne h124 h125 ⟨rfl, Only.refl No _⟩)) ?_
        refine WD.p rfl (fun e w hR hh => by obtain ⟨h126, h122, -⟩ := hh; exact SG.n (o_pickO h122 h126 ⟨rfl, Only.refl No _⟩)) ?_
        refine WD.p rfl (fun e w hR hh => by obtain ⟨h127, -⟩ := hh; exact SG.n (o_mvh h127 ⟨rfl, Only.refl No _⟩)) ?_
        refine WD.p rfl (fun e w hR hh => by obtain ⟨h128, h13, -⟩ := hh; exact SG.g h128 (by simp) (o_mvh h13 ⟨rfl, Only.refl No _⟩)) ?_
        refine WD.p rfl (fun e w hR hh => by obtain ⟨h128, h17, -⟩ := hh; exact SG.g h128 (by simp) (o_mvh h17 ⟨rfl, Only.refl No _⟩)) ?_
        refine WD.p rfl (fun e w hR hh => by obtain ⟨h130, h129, h128, -⟩ := hh; rw [← hwd] at hR; exact SG.g h128 (by simp) (o_call Tryd.call18 (lc h129 (lc h130 ln)) ((requal_spec (valL (AL wh)) (valL (AL wh)) nv1 nv3 _ (Sl.own (own_ext hn1 hR)) (Sl.own (own_ext hn3 hR)) (by omega)).mono (fun v w' h => h)))) ?_
        refine WD.p rfl (fun e w hR hh => by obtain ⟨h131, h128, -⟩ := hh; exact SG.g h128 (by simp) (o_not' h131 ⟨rfl, Only.refl No _⟩)) ?_
        refine WD.p rfl (fun e w hR hh => by obtain ⟨h132, h128, -⟩ := hh; exact SG.n (o_pickO h128 h132 ⟨rfl, Only.refl No _⟩)) ?_
        refine WD.p rfl (fun e w hR hh => by obtain ⟨h133, -⟩ := hh; exact SG.n (o_mvh h133 ⟨rfl, Only.refl No _⟩)) ?_
        refine WD.p rfl (fun e w hR hh => by obtain ⟨h134, h15, -⟩ := hh; exact SG.g h134 (by simp) (o_mvh h15 ⟨rfl, Only.refl No _⟩)) ?_
        refine WD.p rfl (fun e w hR hh => by obtain ⟨h134, h17, -⟩ := hh; exact SG.g h134 (by simp) (o_mvh h17 ⟨rfl, Only.refl No _⟩)) ?_
        refine WD.p rfl (fun e w hR hh => by obtain ⟨h136, h135, h134, -⟩ := hh; rw [← hwd] at hR; exact SG.g h134 (by simp) (o_call Tryd.call18 (lc h135 (lc h136 ln)) ((requal_spec (valL (AL wh)) (valL (AL wh)) nv2 nv3 _ (Sl.own (own_ext hn2 hR)) (Sl.own (own_ext hn3 hR)) (by omega)).mono (fun v w' h => h)))) ?_
        refine WD.p rfl (fun e w hR hh => by obtain ⟨h137, h134, -⟩ := hh; exact SG.g h134 (by simp) (o_not' h137 ⟨rfl, Only.refl No _⟩)) ?_
        refine WD.p rfl (fun e w hR hh => by obtain ⟨h138, h134, -⟩ := hh; exact SG.n (o_pickO h134 h138 ⟨rfl, Only.refl No _⟩)) ?_
        refine WD.p rfl (fun e w hR hh => by obtain ⟨h139, -⟩ := hh; exact SG.n (o_mvh h139 ⟨rfl, Only.refl No _⟩)) ?_
        refine WD.p rfl (fun e w hR hh => by obtain ⟨h140, h8, -⟩ := hh; exact SG.g h140 (by simp) (o_mvh h8 ⟨rfl, Only.refl No _⟩)) ?_
        refine WD.p rfl (fun e w hR hh => by obtain ⟨h141, h140, h3, -⟩ := hh; exact SG.g h140 (by simp) (o_ixA (i := wh) TI37 TI35 h3 h141 (by omega) ⟨rfl, Only.refl No _⟩)) ?_
        refine WD.p rfl (fun e w hR hh => by obtain ⟨h142, h140, -⟩ := hh; rw [← hwd] at hR; have hc := hR.blk hV.cell (fun h => h); exact SG.g h140 (by simp) (o_ld TI35 rfl h142 (cell_of hc (ar2 (f := (fun j => Value.pointer (some ⟨p j, 0, none⟩))) hw2)) ⟨rfl, Only.refl No _⟩)) ?_
        refine WD.p rfl (fun e w hR hh => by obtain ⟨h143, h140, -⟩ := hh; rw [← hwd] at hR; exact SG.g h140 (by simp) (o_call Tryd.call19 (lc h143 ln) ((vcount_spec _ _ _ _ _ _ ((hV.ar wh hw2).ext hR)).mono (fun v w' ⟨h1, h2⟩ => ⟨h1, by rw [h2]; exact Only.refl No _⟩)))) ?_
        refine WD.p rfl (fun e w hR hh => by obtain ⟨h140, h8, -⟩ := hh; exact SG.g h140 (by simp) (o_mvh h8 ⟨rfl, Only.refl No _⟩)) ?_
        refine WD.p rfl (fun e w hR hh => by obtain ⟨h145, h140, h4, -⟩ := hh; exact SG.g h140 (by simp) (o_ixA (i := wh) TI42 TI38 h4 h145 (by omega) ⟨rfl, Only.refl No _⟩)) ?_
        refine WD.p rfl (fun e w hR hh => by obtain ⟨h146, h140, -⟩ := hh; rw [← hwd] at hR; have hc := hR.blk hW_.cell (fun h => h); exact SG.g h140 (by simp) (o_ld TI38 rfl h146 (cell_of hc (ar2 (f := (fun j => Value.pointer (some ⟨q j, 0, none⟩))) hw2)) ⟨rfl, Only.refl No _⟩)) ?_
        refine WD.p rfl (fun e w hR hh => by obtain ⟨h147, h140, -⟩ := hh; rw [← hwd] at hR; exact SG.g h140 (by simp) (o_call Tryd.call20 (lc h147 ln) ((rcount_spec _ _ _ _ _ ((hW_.ar wh hw2).ext hR)).mono (fun v w' ⟨h1, h2⟩ => ⟨h1, by rw [h2]; exact Only.refl No _⟩)))) ?_
        refine WD.p rfl (fun e w hR hh => by obtain ⟨h148, h144, h140, -⟩ := hh; exact SG.g h140 (by simp) (o_ne h144 h148 ⟨rfl, Only.refl No _⟩)) ?_
        refine WD.p rfl (fun e w hR hh => by obtain ⟨h149, h140, -⟩ := hh; exact SG.n (o_pickO h140 h149 ⟨rfl, Only.refl No _⟩)) ?_
        rintro e w hR ⟨h150, h149, h148, h147, h146, h145, h144, h143, h142, h141, h140, h139, h138, h137, h136, h135, h134, h133, h132, h131, h130, h129, h128, h127, h126, h125, h124, h123, h122, h121, h120, h119, h118, h0, h3, h4, h5, h6, h8, h13, h14, h15, h16, h17, h18, -⟩
        refine W.condF' h150 (by simp) ?_
        refine W.skip ?_
        refine W.seq ?_
        rw [← hwd] at hR
        replace hV := hV.ext hR
        replace hW_ := hW_.ext hR
        replace hB := hB.ext hR
        replace hx := hx.tr hR
        replace hn1 := own_ext hn1 hR
        replace hn2 := own_ext hn2 hR
        clear hn3
        have hsR := hR.size
        refine W.region ?_
        refine WL.c rfl (o_mvh h5 ?_)
        refine WL.c rfl (o_mvh h13 ?_)
        refine WL.c rfl (o_call Tryd.call21 (lc rfl (lc rfl ln)) ((bnodes_spec bp a b c d nl 0 VA VB VC VD _ hB (by omega) nv1 (valL (AL wh)) (own_mono hn1 (Nat.zero_le _)) (by omega) (fun k hk hF => by have := (hn1.lt k hk).1; have := hBq k hF; omega)).mono ?_))
        rintro v153 w153 ⟨a1, b1, VA1, VB1, hB1, ho1, hBF1⟩
        have hT1 := (Typed.row hn1).off (ts' := tyV) hV.typed (by decide)
        have hT2 := (Typed.row hn1).off (ts' := tyR) hW_.typed (by decide)
        have hsx := ho1.size
        have hsl := hx.size
        replace hV := hV.only ho1 (fun k hk hF => by rcases hF with hF | hF; exact Typed.off hV.typed hB.typed (by decide) k hk hF; exact hT1 k hF hk)
        replace hW_ := hW_.only ho1 (fun k hk hF => by rcases hF with hF | hF; exact Typed.off hW_.typed hB.typed (by decide) k hk hF; exact hT2 k hF hk)
        replace hn2 := own_only hn2 ho1 (fun k hk hF => by rcases hF with hF | hF; have := (hn2.lt k hk).1; have := hBq k hF; omega; exact hz21 k hk hF)
        have hge1 : ∀ k, nv1.ownBlock = some k → w0.heap.size ≤ k := fun k hk => by have := (hn1.lt k hk).1; omega
        have hn2z : ∀ k, nv2.ownBlock = some k → k < w.heap.size := fun k hk => by have := hz2 k hk; omega
        refine WL.nil ?_
        refine W.seq ?_
        refine W.region ?_
        refine WL.c rfl (o_mvh h5 ?_)
        refine WL.c rfl (o_mvh h15 ?_)
        refine WL.c rfl (o_call Tryd.call21 (lc rfl (lc rfl ln)) ((bnodes_spec bp a1 b1 c d (nl + 1) 0 VA1 VB1 VC VD _ hB1 (by omega) nv2 (valL (AL wh)) (own_mono hn2 (Nat.zero_le _)) (by omega) (fun k hk hF => by have h1 := (hn2.lt k hk).1; rcases hBF1 k hF with hF | hF | hF; have := hBq k hF; omega; exact hz21 k hk hF; have := hn2z k hk; omega)).mono ?_))
        rintro v156 w156 ⟨a2, b2, VA2, VB2, hB2, ho2, hBF2⟩
        have hT3 := (Typed.row hn2).off (ts' := tyV) hV.typed (by decide)
        have hT4 := (Typed.row hn2).off (ts' := tyR) hW_.typed (by decide)
        replace hV := hV.only ho2 (fun k hk hF => by rcases hF with hF | hF; exact Typed.off hV.typed hB1.typed (by decide) k hk hF; exact hT3 k hF hk)
        replace hW_ := hW_.only ho2 (fun k hk hF => by rcases hF with hF | hF; exact Typed.off hW_.typed hB1.typed (by decide) k hk hF; exact hT4 k hF hk)
        have hge2 : ∀ k, nv2.ownBlock = some k → w0.heap.size ≤ k := fun k hk => by have := (hn2.lt k hk).1; omega
        have hBg1 : ∀ k, BF bp a1 b1 c d (nl + 1) 0 VA1 VB1 VC VD k → w0.heap.size ≤ k := fun k hk => by
          rcases hBF1 k hk with hF | hF | hF
          · exact hBg k hF
          · exact hge1 k hF
          · omega
        have hBg2 : ∀ k, BF bp a2 b2 c d (nl + 1 + 1) 0 VA2 VB2 VC VD k → w0.heap.size ≤ k := fun k hk => by
          rcases hBF2 k hk with hF | hF | hF
          · exact hBg1 k hF
          · exact hge2 k hF
          · omega
        replace hx := (hx.trans' ho1 (fun _ h => h) (fun k _ hF => by rcases hF with hF | hF; have := hBg k hF; omega; have := hge1 k hF; omega)).trans' ho2 (fun _ h => h) (fun k _ hF => by rcases hF with hF | hF; have := hBg1 k hF; omega; have := hge2 k hF; omega)
        clear hB hBg hn1 hn2
        have hB := hB2
        have hBg := hBg2
        refine WL.nil ?_
        refine W.seq ?_
        refine W.region ?_
        refine WL.c rfl (o_mvh h5 ?_)
        refine WL.c rfl (o_call Tryd.call11 (lc rfl ln) ((holds_spec bp a2 b2 c d (nl + 1 + 1) 0 VA2 VB2 VC VD _ hB (by omega) (by omega)).mono ?_))
        rintro v158 w158 ⟨rfl, hx158⟩
        replace hV := hV.ext hx158
        replace hW_ := hW_.ext hx158
        replace hB := hB.ext hx158
        replace hx := hx.tr hx158
        refine WL.c rfl (o_not' rfl ?_)
        refine WL.nil ?_
        refine W.condF' rfl (by simp) ?_
        refine W.skip ?_
        refine W.region ?_
        refine WL.c rfl (o_mvh h6 ?_)
        refine WL.c rfl (o_addi rfl rfl (by omega) ?_)
        refine WL.c rfl (o_ash (show _ = Value.int _ _ from rfl) ?_)
        refine WL.nil ?_
        first
          | refine ⟨⟨n + 1, _, _, _, _, _, _, _, _, _, _, _, _, by omega, by omega, h0.trans hve.symm, h3, h4, h5, rfl, hAl2, by omega, hV, hW_, hB, hBg, hx⟩, ?_⟩
          | refine ⟨⟨n + 1, _, _, _, _, _, _, _, _, _, _, _, _, by omega, by omega, h0.trans hve.symm, h3, h4, h5, rfl, fun j hj => by have := hAl j hj; omega, by omega, hV, hW_, hB, hBg, hx⟩, ?_⟩
        show 200 - ((n : Int) + 1).toNat < _
        rw [hm6]; simp [intOf]; omega
    · try simp only [decide_eq_true_eq, decide_eq_false_iff_not, Bool.not_eq_true', Bool.not_eq_false', Bool.and_eq_true, Bool.or_eq_true, Bool.and_eq_false_iff, Bool.or_eq_false_iff] at c46
      refine W.exit ?_
      refine W.seq ?_
      obtain ⟨wd, hwd⟩ : ∃ wd, wd = w.drew := ⟨_, rfl⟩
      have hxd : Ext w wd := hwd ▸ Only.drew w
      replace hV := hV.ext hxd
      replace hW_ := hW_.ext hxd
      replace hB := hB.ext hxd
      replace hx := hx.tr hxd
      refine W.drawT 16 (Ext) [(3, fun v _ => v = _), (4, fun v _ => v = _)] rfl (by kernel_rfl) (Only.refl No) (fun _ _ _ h k => h.trans k) ⟨Mono.eq, Mono.eq, trivial⟩ ⟨h3, h4, trivial⟩ ?_
      refine WD.p rfl (fun e w hR hh => by obtain ⟨h3, -⟩ := hh; exact SG.n (o_ixA (i := 0) TI37 TI35 h3 rfl (by omega) ⟨rfl, Only.refl No _⟩)) ?_
      refine WD.p rfl (fun e w hR hh => by obtain ⟨h160, -⟩ := hh; rw [← hwd] at hR; have hc := hR.blk hV.cell (fun h => h); exact SG.n (o_ld TI35 rfl h160 (cell_of hc rfl) ⟨rfl, Only.refl No _⟩)) ?_
      refine WD.p rfl (fun e w hR hh => by obtain ⟨h161, -⟩ := hh; rw [← hwd] at hR; exact SG.n (o_call Tryd.call19 (lc h161 ln) ((vcount_spec _ _ _ _ _ _ ((hV.ar 0 (by decide)).ext hR)).mono (fun v w' ⟨h1, h2⟩ => ⟨h1, by rw [h2]; exact Only.refl No _⟩)))) ?_
      refine WD.p rfl (fun e w hR hh => by obtain ⟨h4, -⟩ := hh; exact SG.n (o_ixA (i := 0) TI42 TI38 h4 rfl (by omega) ⟨rfl, Only.refl No _⟩)) ?_
      refine WD.p rfl (fun e w hR hh => by obtain ⟨h163, -⟩ := hh; rw [← hwd] at hR; have hc := hR.blk hW_.cell (fun h => h); exact SG.n (o_ld TI38 rfl h163 (cell_of hc rfl) ⟨rfl, Only.refl No _⟩)) ?_
      refine WD.p rfl (fun e w hR hh => by obtain ⟨h164, -⟩ := hh; rw [← hwd] at hR; exact SG.n (o_call Tryd.call20 (lc h164 ln) ((rcount_spec _ _ _ _ _ ((hW_.ar 0 (by decide)).ext hR)).mono (fun v w' ⟨h1, h2⟩ => ⟨h1, by rw [h2]; exact Only.refl No _⟩)))) ?_
      refine WD.p rfl (fun e w hR hh => by obtain ⟨h165, h162, -⟩ := hh; exact SG.n (o_eq h162 h165 ⟨rfl, Only.refl No _⟩)) ?_
      refine WD.p rfl (fun e w hR hh => by obtain ⟨h166, -⟩ := hh; exact SG.n (o_mvh h166 ⟨rfl, Only.refl No _⟩)) ?_
      refine WD.p rfl (fun e w hR hh => by obtain ⟨h167, h3, -⟩ := hh; exact SG.g h167 (by simp) (o_ixA (i := 1) TI37 TI35 h3 rfl (by omega) ⟨rfl, Only.refl No _⟩)) ?_
      refine WD.p rfl (fun e w hR hh => by obtain ⟨h168, h167, -⟩ := hh; rw [← hwd] at hR; have hc := hR.blk hV.cell (fun h => h); exact SG.g h167 (by simp) (o_ld TI35 rfl h168 (cell_of hc rfl) ⟨rfl, Only.refl No _⟩)) ?_
      refine WD.p rfl (fun e w hR hh => by obtain ⟨h169, h167, -⟩ := hh; rw [← hwd] at hR; exact SG.g h167 (by simp) (o_call Tryd.call19 (lc h169 ln) ((vcount_spec _ _ _ _ _ _ ((hV.ar 1 (by decide)).ext hR)).mono (fun v w' ⟨h1, h2⟩ => ⟨h1, by rw [h2]; exact Only.refl No _⟩)))) ?_
      refine WD.p rfl (fun e w hR hh => by obtain ⟨h167, h4, -⟩ := hh; exact SG.g h167 (by simp) (o_ixA (i := 1) TI42 TI38 h4 rfl (by omega) ⟨rfl, Only.refl No _⟩)) ?_
      refine WD.p rfl (fun e w hR hh => by obtain ⟨h171, h167, -⟩ := hh; rw [← hwd] at hR; have hc := hR.blk hW_.cell (fun h => h); exact SG.g h167 (by simp) (o_ld TI38 rfl h171 (cell_of hc rfl) ⟨rfl, Only.refl No _⟩)) ?_
      refine WD.p rfl (fun e w hR hh => by obtain ⟨h172, h167, -⟩ := hh; rw [← hwd] at hR; exact SG.g h167 (by simp) (o_call Tryd.call20 (lc h172 ln) ((rcount_spec _ _ _ _ _ ((hW_.ar 1 (by decide)).ext hR)).mono (fun v w' ⟨h1, h2⟩ => ⟨h1, by rw [h2]; exact Only.refl No _⟩)))) ?_
      refine WD.p rfl (fun e w hR hh => by obtain ⟨h173, h170, h167, -⟩ := hh; exact SG.g h167 (by simp) (o_eq h170 h173 ⟨rfl, Only.refl No _⟩)) ?_
      refine WD.p rfl (fun e w hR hh => by obtain ⟨h174, h167, -⟩ := hh; exact SG.n (o_pickA h167 h174 ⟨rfl, Only.refl No _⟩)) ?_
      rintro e w hR ⟨h175, h174, h173, h172, h171, h170, h169, h168, h167, h166, h165, h164, h163, h162, h161, h160, h3, h4, -⟩
      rw [← hwd] at hR
      replace hx := hx.tr hR
      refine WL.c rfl (o_ash h175 ?_)
      refine WL.nil ?_
      refine W.ret ?_
      refine ret1v rfl (show _ = Value.bool _ from rfl) ?_
      exact ⟨congrArg Value.bool (by simp), hx⟩
  · skip
    refine WL.s rfl (g43) rfl ?_
    refine WL.s rfl (g43) rfl ?_
    refine WL.c rfl (o_pickF rfl (g43) ?_)
    refine WL.nil ?_
    refine W.cond rfl (fun c46 => ?_) (fun c46 => ?_)
    · try simp only [decide_eq_true_eq, decide_eq_false_iff_not, Bool.not_eq_true', Bool.not_eq_false', Bool.and_eq_true, Bool.or_eq_true, Bool.and_eq_false_iff, Bool.or_eq_false_iff] at c46
      have hn1 : n < os.length := by first | omega | simp_all
      have hn3 : n < 200 := by first | omega | simp_all
      obtain ⟨sb, so, sc, hve, hsc⟩ := Sl.stp (hS.ext hx) hn1
      rw [hve] at h0
      refine W.skip ?_
      refine W.seq ?_
      refine W.block ?_
      refine W.seq ?_
      refine W.region ?_
      refine WL.c rfl (o_mvh h0 ?_)
      refine WL.c rfl (o_mvh h6 ?_)
      refine WL.c rfl (o_ixB (i := n) TI34 TI45 (show _ = Value.slice (some ⟨sb, so, none⟩) os.length sc from by first | rfl | assumption) (show _ = Value.int .i64 (n : Int) from by first | rfl | assumption) (by omega) ?_)
      refine WL.c rfl (o_ldA TI45 rfl rfl hsc rfl ?_)
      refine WL.c rfl (o_alB TI45 ?_)
      intro wa hCa hxa hsa
      refine WL.u (o_stA TI45 rfl (show _ = Value.agg (stV os[n]).toArray from rfl) rfl rfl hCa rfl ?_)
      intro wb7 hC7 hob hsb
      have hxb := Ext.own hxa (Nat.le_refl _) hob
      obtain ⟨b7, hb7⟩ : ∃ b, b = w.heap.size := ⟨_, rfl⟩
      rw [← hb7] at hC7 ⊢
      clear hCa hxa hsa hob hsb
      replace hV := hV.ext hxb
      replace hW_ := hW_.ext hxb
      replace hB := hB.ext hxb
      replace hx := hx.tr hxb
      clear hxb
      refine WL.nil ?_
      refine W.seq ?_
      obtain ⟨wh, hwh⟩ : ∃ wh : Nat, wh = if os[n].which then 1 else 0 := ⟨_, rfl⟩
      have hw2 : wh < 2 := by rw [hwh]; split <;> omega
      have hAw := hAl wh hw2
      refine W.region ?_
      refine WL.c rfl (o_ash (show _ = Value.int _ _ from rfl) ?_)
      refine WL.nil ?_
      refine W.seq ?_
      refine W.seq ?_
      refine W.region ?_
      refine WL.c rfl (o_fa 0 TI45 rfl TI4 rfl rfl ?_)
      refine WL.c rfl (o_ld TI4 rfl rfl (cell_of hC7 rfl) ?_)
      refine WL.nil ?_
      refine W.cut (fun e1 w1 => e1 8 = .int .i64 (wh : Int) ∧ e1 0 = Value.slice (some ⟨sb, so, none⟩) os.length sc ∧ e1 3 = .pointer (some ⟨b3, 0, none⟩) ∧ e1 4 = .pointer (some ⟨b4, 0, none⟩) ∧ e1 5 = .pointer (some ⟨bp, 0, none⟩) ∧ e1 6 = .int .i64 (n : Int) ∧ e1 7 = .pointer (some ⟨b7, 0, none⟩) ∧ w1 = wb7) ?_ ?_
      · -- both ways
        refine W.cond rfl (fun c54 => ?_) (fun c54 => ?_)
        · try simp only [decide_eq_true_eq, decide_eq_false_iff_not, Bool.not_eq_true', Bool.not_eq_false', Bool.and_eq_true, Bool.or_eq_true, Bool.and_eq_false_iff, Bool.or_eq_false_iff] at c54
          refine W.region ?_
          refine WL.c rfl (o_ash (show _ = Value.int _ _ from rfl) ?_)
          refine WL.nil ?_
          first | exact ⟨by rw [hwh, c54]; rfl, h0, h3, h4, h5, h6, rfl, rfl⟩ | exact ⟨by rw [hwh, c54]; rfl, h0, h3, h4, h5, h6, rfl, rfl⟩
        · try simp only [decide_eq_true_eq, decide_eq_false_iff_not, Bool.not_eq_true', Bool.not_eq_false', Bool.and_eq_true, Bool.or_eq_true, Bool.and_eq_false_iff, Bool.or_eq_false_iff] at c54
          refine W.skip ?_
          first | exact ⟨by rw [hwh, c54]; rfl, h0, h3, h4, h5, h6, rfl, rfl⟩ | exact ⟨by rw [hwh, c54]; rfl, h0, h3, h4, h5, h6, rfl, rfl⟩
      rintro e w ⟨h8, h0, h3, h4, h5, h6, h7, hw1⟩
      refine W.seq ?_
      refine W.seq ?_
      subst hw1
      refine W.region ?_
      refine WL.c rfl (o_fa 1 TI45 rfl TI4 rfl h7 ?_)
      refine WL.c rfl (o_ld TI4 rfl rfl (cell_of hC7 rfl) ?_)
      refine WL.c rfl (o_not' rfl ?_)
      refine WL.nil ?_
      refine W.cond rfl (fun c57 => ?_) (fun c57 => ?_)
      · try simp only [decide_eq_true_eq, decide_eq_false_iff_not, Bool.not_eq_true', Bool.not_eq_false', Bool.and_eq_true, Bool.or_eq_true, Bool.and_eq_false_iff, Bool.or_eq_false_iff] at c57
        refine W.seq ?_
        obtain ⟨wd, hwd⟩ : ∃ wd, wd = w.drew := ⟨_, rfl⟩
        have hxd : Ext w wd := hwd ▸ Only.drew w
        replace hV := hV.ext hxd
        replace hW_ := hW_.ext hxd
        replace hB := hB.ext hxd
        replace hx := hx.tr hxd
        replace hC7 := hxd.blk hC7 (fun h => h)
        have hTy := (hV.ar wh hw2).typed
        have hn7 : ¬ (AF (p wh) (mb wh) (cv wh)) b7 := fun hF => Typed.off hTy (Typed.cell hC7) (by decide) b7 hF rfl
        have hnc : ¬ (AF (p wh) (mb wh) (cv wh)) b3 := fun hF => Typed.off hTy (Typed.cell hV.cell) (by decide) b3 hF rfl
        have hFl : ∀ k, (AF (p wh) (mb wh) (cv wh)) k → w0.heap.size ≤ k ∧ k < wd.heap.size := fun k hk => (hV.ar wh hw2).lt k hk
        refine W.drawF 16 [11] [AF (p wh) (mb wh) (cv wh)] [(0, fun v _ => v = _), (3, fun v _ => v = _), (4, fun v _ => v = _), (5, fun v _ => v = _), (6, fun v _ => v = _), (7, fun v _ => v = _), (8, fun v _ => v = _)] rfl (by kernel_rfl) (by kernel_rfl) ⟨Mono.eq, Mono.eq, Mono.eq, Mono.eq, Mono.eq, Mono.eq, Mono.eq, trivial⟩ ⟨h0, h3, h4, h5, h6, h7, h8, trivial⟩ ?_
        refine WDS.p rfl (by decide) (fun e w hR hh => by obtain ⟨h8, -⟩ := hh; exact SG.n (o_mvh h8 ⟨rfl, Only.refl No _⟩)) ?_
        refine WDS.p rfl (by decide) (fun e w hR hh => by obtain ⟨h59, h3, -⟩ := hh; exact SG.n (o_ixA (i := wh) TI37 TI35 h3 h59 (by omega) ⟨rfl, Only.refl No _⟩)) ?_
        refine WDS.p rfl (by decide) (fun e w hR hh => by obtain ⟨h60, -⟩ := hh; rw [← hwd] at hR; have hc := hR.blk hV.cell (fun hF => by rcases hF with hF | hF <;> first | exact hnc hF | exact hF); exact SG.n (o_ld TI35 rfl h60 (cell_of hc (ar2 (f := (fun j => Value.pointer (some ⟨p j, 0, none⟩))) hw2)) ⟨rfl, Only.refl No _⟩)) ?_
        refine WDS.p rfl (by decide) (fun e w hR hh => by obtain ⟨h7, -⟩ := hh; exact SG.n (o_fa 2 TI45 rfl TI3 rfl h7 ⟨rfl, Only.refl No _⟩)) ?_
        refine WDS.p rfl (by decide) (fun e w hR hh => by obtain ⟨h62, -⟩ := hh; rw [← hwd] at hR; have hc := hR.blk hC7 (fun hF => by rcases hF with hF | hF <;> first | exact hn7 hF | exact hF); exact SG.n (o_ld TI3 rfl h62 (cell_of hc rfl) ⟨rfl, Only.refl No _⟩)) ?_
        refine WDS.p rfl (by decide) (fun e w hR hh => by obtain ⟨h7, -⟩ := hh; exact SG.n (o_fa 3 TI45 rfl TI3 rfl h7 ⟨rfl, Only.refl No _⟩)) ?_
        refine WDS.p rfl (by decide) (fun e w hR hh => by obtain ⟨h64, -⟩ := hh; rw [← hwd] at hR; have hc := hR.blk hC7 (fun hF => by rcases hF with hF | hF <;> first | exact hn7 hF | exact hF); exact SG.n (o_ld TI3 rfl h64 (cell_of hc rfl) ⟨rfl, Only.refl No _⟩)) ?_
        refine WDS.p rfl (by decide) (fun e w hR hh => by obtain ⟨h7, -⟩ := hh; exact SG.n (o_fa 4 TI45 rfl TI3 rfl h7 ⟨rfl, Only.refl No _⟩)) ?_
        refine WDS.p rfl (by decide) (fun e w hR hh => by obtain ⟨h66, -⟩ := hh; rw [← hwd] at hR; have hc := hR.blk hC7 (fun hF => by rcases hF with hF | hF <;> first | exact hn7 hF | exact hF); exact SG.n (o_ld TI3 rfl h66 (cell_of hc rfl) ⟨rfl, Only.refl No _⟩)) ?_
        refine WDS.p rfl (by decide) (fun e w hR hh => by obtain ⟨h7, -⟩ := hh; exact SG.n (o_fa 5 TI45 rfl TI43 rfl h7 ⟨rfl, Only.refl No _⟩)) ?_
        refine WDS.p rfl (by decide) (fun e w hR hh => by obtain ⟨h68, -⟩ := hh; rw [← hwd] at hR; have hc := hR.blk hC7 (fun hF => by rcases hF with hF | hF <;> first | exact hn7 hF | exact hF); exact SG.n (o_ld TI43 rfl h68 (cell_of hc rfl) ⟨rfl, Only.refl No _⟩)) ?_
        refine WDS.mf 0 1 (fun v w => v = .tuple #[.int .i64 (addV (AL wh) os[n].par os[n].k os[n].kind os[n].n).1, .int .i64 (addV (AL wh) os[n].par os[n].k os[n].kind os[n].n).2.1] ∧ ∃ u2, ArM w w0.heap.size (p wh) (mb wh) u2 (addV (AL wh) os[n].par os[n].k os[n].kind os[n].n).2.2 ∧ ∀ k, u2.ownBlock = some k → (cv wh).ownBlock = some k ∨ wd.heap.size ≤ k) (fun v w w2 hR hh => by obtain ⟨h1, u2, h2, h3⟩ := hh; exact ⟨h1, u2, h2.ext hR, h3⟩) (by kernel_rfl) rfl rfl rfl (fun e w hR hW hh => by obtain ⟨h69, h67, h65, h63, h61, -⟩ := hh; rw [← hwd] at hR hW; have hW2 : Ext wd w := hW.mono (fun k _ hF => hF); exact SGX.n (OP.x (o_call Tryd.call13 (lc h61 (lc h63 (lc h65 (lc h67 (lc h69 ln))))) ((vadd_spec w0.heap.size (p wh) (mb wh) (cv wh) (AL wh) os[n].par os[n].k os[n].kind os[n].n w ((hV.ar wh hw2).ext hW2) (by omega)).mono (fun v w' hh => by obtain ⟨h1, u2, h2, h3, h4⟩ := hh; exact ⟨⟨h1, u2, h2, fun k hk => (h4 k hk).imp id (fun h => Nat.le_trans hW2.size h)⟩, h3⟩))))) ?_
        refine WDS.q 1 (fun v w => v = .tuple #[.int .i64 (addV (AL wh) os[n].par os[n].k os[n].kind os[n].n).1, .int .i64 (addV (AL wh) os[n].par os[n].k os[n].kind os[n].n).2.1] ∧ ∃ u2, ArM w w0.heap.size (p wh) (mb wh) u2 (addV (AL wh) os[n].par os[n].k os[n].kind os[n].n).2.2 ∧ ∀ k, u2.ownBlock = some k → (cv wh).ownBlock = some k ∨ wd.heap.size ≤ k) (fun v w w2 hR hh => by obtain ⟨h1, u2, h2, h3⟩ := hh; exact ⟨h1, u2, h2.ext hR, h3⟩) (by kernel_rfl) rfl (by decide) (fun e w hR hh => by obtain ⟨h70, -⟩ := hh; exact SG.n (o_mv ⟨h70, Only.refl No _⟩)) ?_
        refine WDS.p rfl (by decide) (fun e w hR hh => by obtain ⟨h58, -⟩ := hh; obtain ⟨h58, -⟩ := h58; exact SG.n (o_ext h58 rfl ⟨rfl, Only.refl No _⟩)) ?_
        refine WDS.p rfl (by decide) (fun e w hR hh => by obtain ⟨h58, -⟩ := hh; obtain ⟨h58, -⟩ := h58; exact SG.n (o_ext h58 rfl ⟨rfl, Only.refl No _⟩)) ?_
        refine WDS.p rfl (by decide) (fun e w hR hh => by obtain ⟨h71, -⟩ := hh; exact SG.n (o_ash h71 ⟨rfl, Only.refl No _⟩)) ?_
        rintro e w hR ⟨h9, h72, h71, h58, h70, h69, h68, h67, h66, h65, h64, h63, h62, h61, h60, h59, h0, h3, h4, h5, h6, h7, h8, -⟩
        rw [← hwd] at hR
        obtain ⟨-, u2, hA2, hu2⟩ := h70
        have ho : Only (AF (p wh) (mb wh) (cv wh)) wd w := hR.mono (fun k _ hF => by rcases hF with hF | hF <;> first | exact hF | exact hF.elim)
        replace hW_ := hW_.only ho (fun k hk hF => Typed.off hTy hW_.typed (by decide) k hF hk)
        replace hB := hB.only ho (fun k hk hF => Typed.off hTy hB.typed (by decide) k hF hk)
        replace hC7 := ho.blk hC7 hn7
        replace hV := hV.put hw2 ho hA2 hu2
        replace hx := hx.trans' ho (fun _ h => h) (fun k hk hF => by have := (hFl k hF).1; omega)
        clear hR hA2 hu2 hTy hn7 hnc hFl hwd hxd
        refine WL.c rfl (o_ash h72 ?_)
        refine WL.nil ?_
        refine W.seq ?_
        obtain ⟨wd, hwd⟩ : ∃ wd, wd = w.drew := ⟨_, rfl⟩
        have hxd : Ext w wd := hwd ▸ Only.drew w
        replace hV := hV.ext hxd
        replace hW_ := hW_.ext hxd
        replace hB := hB.ext hxd
        replace hx := hx.tr hxd
        replace hC7 := hxd.blk hC7 (fun h => h)
        have hTy := (hW_.ar wh hw2).typed
        have hn7 : ¬ (RF (q wh) (lv wh)) b7 := fun hF => Typed.off hTy (Typed.cell hC7) (by decide) b7 hF rfl
        have hnc : ¬ (RF (q wh) (lv wh)) b4 := fun hF => Typed.off hTy (Typed.cell hW_.cell) (by decide) b4 hF rfl
        have hFl : ∀ k, (RF (q wh) (lv wh)) k → w0.heap.size ≤ k ∧ k < wd.heap.size := fun k hk => (hW_.ar wh hw2).lt hk
        refine W.drawF 16 [11] [RF (q wh) (lv wh)] [(0, fun v _ => v = _), (3, fun v _ => v = _), (4, fun v _ => v = _), (5, fun v _ => v = _), (6, fun v _ => v = _), (7, fun v _ => v = _), (8, fun v _ => v = _), (9, fun v _ => v = _), (10, fun v _ => v = _)] rfl (by kernel_rfl) (by kernel_rfl) ⟨Mono.eq, Mono.eq, Mono.eq, Mono.eq, Mono.eq, Mono.eq, Mono.eq, Mono.eq, Mono.eq, trivial⟩ ⟨h0, h3, h4, h5, h6, h7, h8, h9, rfl, trivial⟩ ?_
        refine WDS.p rfl (by decide) (fun e w hR hh => by obtain ⟨h8, -⟩ := hh; exact SG.n (o_mvh h8 ⟨rfl, Only.refl No _⟩)) ?_
        refine WDS.p rfl (by decide) (fun e w hR hh => by obtain ⟨h74, h4, -⟩ := hh; exact SG.n (o_ixA (i := wh) TI42 TI38 h4 h74 (by omega) ⟨rfl, Only.refl No _⟩)) ?_
        refine WDS.p rfl (by decide) (fun e w hR hh => by obtain ⟨h75, -⟩ := hh; rw [← hwd] at hR; have hc := hR.blk hW_.cell (fun hF => by rcases hF with hF | hF <;> first | exact hnc hF | exact hF); exact SG.n (o_ld TI38 rfl h75 (cell_of hc (ar2 (f := (fun j => Value.pointer (some ⟨q j, 0, none⟩))) hw2)) ⟨rfl, Only.refl No _⟩)) ?_
        refine WDS.p rfl (by decide) (fun e w hR hh => by obtain ⟨h7, -⟩ := hh; exact SG.n (o_fa 2 TI45 rfl TI3 rfl h7 ⟨rfl, Only.refl No _⟩)) ?_
        refine WDS.p rfl (by decide) (fun e w hR hh => by obtain ⟨h77, -⟩ := hh; rw [← hwd] at hR; have hc := hR.blk hC7 (fun hF => by rcases hF with hF | hF <;> first | exact hn7 hF | exact hF); exact SG.n (o_ld TI3 rfl h77 (cell_of hc rfl) ⟨rfl, Only.refl No _⟩)) ?_
        refine WDS.p rfl (by decide) (fun e w hR hh => by obtain ⟨h7, -⟩ := hh; exact SG.n (o_fa 3 TI45 rfl TI3 rfl h7 ⟨rfl, Only.refl No _⟩)) ?_
        refine WDS.p rfl (by decide) (fun e w hR hh => by obtain ⟨h79, -⟩ := hh; rw [← hwd] at hR; have hc := hR.blk hC7 (fun hF => by rcases hF with hF | hF <;> first | exact hn7 hF | exact hF); exact SG.n (o_ld TI3 rfl h79 (cell_of hc rfl) ⟨rfl, Only.refl No _⟩)) ?_
        refine WDS.p rfl (by decide) (fun e w hR hh => by obtain ⟨h7, -⟩ := hh; exact SG.n (o_fa 4 TI45 rfl TI3 rfl h7 ⟨rfl, Only.refl No _⟩)) ?_
        refine WDS.p rfl (by decide) (fun e w hR hh => by obtain ⟨h81, -⟩ := hh; rw [← hwd] at hR; have hc := hR.blk hC7 (fun hF => by rcases hF with hF | hF <;> first | exact hn7 hF | exact hF); exact SG.n (o_ld TI3 rfl h81 (cell_of hc rfl) ⟨rfl, Only.refl No _⟩)) ?_
        refine WDS.p rfl (by decide) (fun e w hR hh => by obtain ⟨h7, -⟩ := hh; exact SG.n (o_fa 5 TI45 rfl TI43 rfl h7 ⟨rfl, Only.refl No _⟩)) ?_
        refine WDS.p rfl (by decide) (fun e w hR hh => by obtain ⟨h83, -⟩ := hh; rw [← hwd] at hR; have hc := hR.blk hC7 (fun hF => by rcases hF with hF | hF <;> first | exact hn7 hF | exact hF); exact SG.n (o_ld TI43 rfl h83 (cell_of hc rfl) ⟨rfl, Only.refl No _⟩)) ?_
        refine WDS.mf 0 1 (fun v w => v = .tuple #[.int .i64 (addV (AL wh) os[n].par os[n].k os[n].kind os[n].n).1, .int .i64 (addV (AL wh) os[n].par os[n].k os[n].kind os[n].n).2.1] ∧ ∃ u2, RArM w w0.heap.size (q wh) u2 (addV (AL wh) os[n].par os[n].k os[n].kind os[n].n).2.2 ∧ ∀ k, u2.ownBlock = some k → (lv wh).ownBlock = some k ∨ wd.heap.size ≤ k) (fun v w w2 hR hh => by obtain ⟨h1, u2, h2, h3⟩ := hh; exact ⟨h1, u2, h2.ext hR, h3⟩) (by kernel_rfl) rfl rfl rfl (fun e w hR hW hh => by obtain ⟨h84, h82, h80, h78, h76, -⟩ := hh; rw [← hwd] at hR hW; have hW2 : Ext wd w := hW.mono (fun k _ hF => hF); exact SGX.n (OP.x (o_call Tryd.call14 (lc h76 (lc h78 (lc h80 (lc h82 (lc h84 ln))))) ((radd_spec w0.heap.size (q wh) (lv wh) (AL wh) os[n].par os[n].k os[n].kind os[n].n w ((hW_.ar wh hw2).ext hW2) (by omega)).mono (fun v w' hh => by obtain ⟨h1, u2, h2, h3, h4⟩ := hh; exact ⟨⟨h1, u2, h2, fun k hk => (h4 k hk).imp id (fun h => Nat.le_trans hW2.size h)⟩, h3⟩))))) ?_
        refine WDS.q 1 (fun v w => v = .tuple #[.int .i64 (addV (AL wh) os[n].par os[n].k os[n].kind os[n].n).1, .int .i64 (addV (AL wh) os[n].par os[n].k os[n].kind os[n].n).2.1] ∧ ∃ u2, RArM w w0.heap.size (q wh) u2 (addV (AL wh) os[n].par os[n].k os[n].kind os[n].n).2.2 ∧ ∀ k, u2.ownBlock = some k → (lv wh).ownBlock = some k ∨ wd.heap.size ≤ k) (fun v w w2 hR hh => by obtain ⟨h1, u2, h2, h3⟩ := hh; exact ⟨h1, u2, h2.ext hR, h3⟩) (by kernel_rfl) rfl (by decide) (fun e w hR hh => by obtain ⟨h85, -⟩ := hh; exact SG.n (o_mv ⟨h85, Only.refl No _⟩)) ?_
        refine WDS.p rfl (by decide) (fun e w hR hh => by obtain ⟨h73, -⟩ := hh; obtain ⟨h73, -⟩ := h73; exact SG.n (o_ext h73 rfl ⟨rfl, Only.refl No _⟩)) ?_
        refine WDS.p rfl (by decide) (fun e w hR hh => by obtain ⟨h73, -⟩ := hh; obtain ⟨h73, -⟩ := h73; exact SG.n (o_ext h73 rfl ⟨rfl, Only.refl No _⟩)) ?_
        refine WDS.p rfl (by decide) (fun e w hR hh => by obtain ⟨h86, -⟩ := hh; exact SG.n (o_ash h86 ⟨rfl, Only.refl No _⟩)) ?_
        rintro e w hR ⟨h11, h87, h86, h73, h85, h84, h83, h82, h81, h80, h79, h78, h77, h76, h75, h74, h0, h3, h4, h5, h6, h7, h8, h9, h10, -⟩
        rw [← hwd] at hR
        obtain ⟨-, u2, hA2, hu2⟩ := h85
        have ho : Only (RF (q wh) (lv wh)) wd w := hR.mono (fun k _ hF => by rcases hF with hF | hF <;> first | exact hF | exact hF.elim)
        replace hV := hV.only ho (fun k hk hF => Typed.off hTy hV.typed (by decide) k hF hk)
        replace hB := hB.only ho (fun k hk hF => Typed.off hTy hB.typed (by decide) k hF hk)
        replace hC7 := ho.blk hC7 hn7
        replace hW_ := hW_.put hw2 ho hA2 hu2
        replace hx := hx.trans' ho (fun _ h => h) (fun k hk hF => by have := (hFl k hF).1; omega)
        clear hR hA2 hu2 hTy hn7 hnc hFl hwd hxd
        refine WL.c rfl (o_ash h87 ?_)
        refine WL.nil ?_
        refine W.seq ?_
        refine W.seq ?_
        refine W.region ?_
        refine WL.c rfl (o_mvh h9 ?_)
        refine WL.c rfl (o_mvh h11 ?_)
        refine WL.c rfl (o_ne rfl rfl ?_)
        refine WL.c rfl (o_mvh (show _ = Value.bool _ from rfl) ?_)
        refine WL.g rfl (by simp) rfl (o_mvh h10 ?_)
        refine WL.g rfl (by simp) rfl (o_call Tryd.call15 (lc rfl ln) ((num_spec _ _).mono ?_))
        rintro v93 w93 ⟨rfl, rfl⟩
        refine WL.g rfl (by simp) rfl (o_mvh (show _ = Value.int _ _ from rfl) ?_)
        refine WL.g rfl (by simp) rfl (o_ne rfl rfl ?_)
        refine WL.c rfl (o_pickO rfl rfl ?_)
        refine WL.nil ?_
        have hAl2 : ∀ j, j < 2 → (putF AL wh (addV (AL wh) os[n].par os[n].k os[n].kind os[n].n).2.2 j).length ≤ n + 1 := fun j hj => by
          rw [putF]
          split
          · have := addV_len (AL wh) os[n].par os[n].k os[n].kind os[n].n; omega
          · have := hAl j hj; omega
        refine W.condF' rfl (by simp) ?_
        refine W.skip ?_
        refine W.exit ?_
        refine W.region ?_
        refine WL.c rfl (o_mvh h6 ?_)
        refine WL.c rfl (o_addi rfl rfl (by omega) ?_)
        refine WL.c rfl (o_ash (show _ = Value.int _ _ from rfl) ?_)
        refine WL.nil ?_
        first
          | refine ⟨⟨n + 1, _, _, _, _, _, _, _, _, _, _, _, _, by omega, by omega, h0.trans hve.symm, h3, h4, h5, rfl, hAl2, by omega, hV, hW_, hB, hBg, hx⟩, ?_⟩
          | refine ⟨⟨n + 1, _, _, _, _, _, _, _, _, _, _, _, _, by omega, by omega, h0.trans hve.symm, h3, h4, h5, rfl, fun j hj => by have := hAl j hj; omega, by omega, hV, hW_, hB, hBg, hx⟩, ?_⟩
        show 200 - ((n : Int) + 1).toNat < _
        rw [hm6]; simp [intOf]; omega
      · try simp only [decide_eq_true_eq, decide_eq_false_iff_not, Bool.not_eq_true', Bool.not_eq_false', Bool.and_eq_true, Bool.or_eq_true, Bool.and_eq_false_iff, Bool.or_eq_false_iff] at c57
        refine W.skip ?_
        refine W.seq ?_
        obtain ⟨wq, hwq⟩ : ∃ wq, wq = w := ⟨_, rfl⟩
        have hBq : ∀ k, BF bp a b c d nl 0 VA VB VC VD k → k < w.heap.size := fun k hk => hB.lt k hk
        have hq0 := hx.size
        refine W.region ?_
        refine WL.c rfl (o_mvh h8 ?_)
        refine WL.c rfl (o_ixA (i := wh) TI37 TI35 (show _ = Value.pointer (some ⟨b3, 0, none⟩) from by first | rfl | assumption) (show _ = Value.int .i64 (wh : Int) from by first | rfl | assumption) (by omega) ?_)
        refine WL.c rfl (o_ld TI35 rfl rfl (cell_of hV.cell (ar2 (f := (fun j => Value.pointer (some ⟨p j, 0, none⟩))) hw2)) ?_)
        refine WL.c rfl (o_call Tryd.call16 (lc rfl ln) ((vvalue_u _ (hV.ar wh hw2) hx.size (by omega)).mono ?_))
        rintro v101 w101 ⟨hx101, hvl, nv1, rfl, hn1⟩
        replace hV := hV.ext hx101
        replace hW_ := hW_.ext hx101
        replace hB := hB.ext hx101
        replace hx := hx.tr hx101
        have hs1 := hx101.size
        have hz1 : ∀ k, nv1.ownBlock = some k → k < w101.heap.size := fun k hk => (hn1.lt k hk).2
        refine WL.c rfl (o_mvh (by first | exact (show _ = Value.tuple _ from rfl) | exact rfl) ?_)
        refine WL.c rfl (o_ext rfl rfl ?_)
        refine WL.c rfl (o_ext rfl rfl ?_)
        refine WL.c rfl (o_ash (by first | exact (show _ = Value.slice _ _ _ from rfl) | exact rfl) ?_)
        refine WL.c rfl (o_ash (show _ = Value.int _ _ from rfl) ?_)
        refine WL.nil ?_
        refine W.seq ?_
        refine W.region ?_
        refine WL.c rfl (o_mvh h8 ?_)
        refine WL.c rfl (o_ixA (i := wh) TI37 TI35 (show _ = Value.pointer (some ⟨b3, 0, none⟩) from by first | rfl | assumption) (show _ = Value.int .i64 (wh : Int) from by first | rfl | assumption) (by omega) ?_)
        refine WL.c rfl (o_ld TI35 rfl rfl (cell_of hV.cell (ar2 (f := (fun j => Value.pointer (some ⟨p j, 0, none⟩))) hw2)) ?_)
        refine WL.c rfl (o_call Tryd.call16 (lc rfl ln) ((vvalue_u _ (hV.ar wh hw2) hx.size (by omega)).mono ?_))
        rintro v108 w108 ⟨hx108, -, nv2, rfl, hn2⟩
        replace hV := hV.ext hx108
        replace hW_ := hW_.ext hx108
        replace hB := hB.ext hx108
        replace hx := hx.tr hx108
        replace hn1 := own_ext hn1 hx108
        have hs2 := hx108.size
        have hz2 : ∀ k, nv2.ownBlock = some k → k < w108.heap.size := fun k hk => (hn2.lt k hk).2
        have hz21 : ∀ k, nv2.ownBlock = some k → ¬ nv1.ownBlock = some k := fun k hk h1 => by have := (hn2.lt k hk).1; have := hz1 k h1; omega
        refine WL.c rfl (o_mvh (by first | exact (show _ = Value.tuple _ from rfl) | exact rfl) ?_)
        refine WL.c rfl (o_ext rfl rfl ?_)
        refine WL.c rfl (o_ext rfl rfl ?_)
        refine WL.c rfl (o_ash (by first | exact (show _ = Value.slice _ _ _ from rfl) | exact rfl) ?_)
        refine WL.c rfl (o_ash (show _ = Value.int _ _ from rfl) ?_)
        refine WL.nil ?_
        refine W.seq ?_
        refine W.region ?_
        refine WL.c rfl (o_mvh h8 ?_)
        refine WL.c rfl (o_ixA (i := wh) TI42 TI38 (show _ = Value.pointer (some ⟨b4, 0, none⟩) from by first | rfl | assumption) (show _ = Value.int .i64 (wh : Int) from by first | rfl | assumption) (by omega) ?_)
        refine WL.c rfl (o_ld TI38 rfl rfl (cell_of hW_.cell (ar2 (f := (fun j => Value.pointer (some ⟨q j, 0, none⟩))) hw2)) ?_)
        refine WL.c rfl (o_call Tryd.call17 (lc rfl ln) ((rvalue_u _ (hW_.ar wh hw2) (by omega)).mono ?_))
        rintro v115 w115 ⟨hx115, nv3, rfl, hn3⟩
        replace hV := hV.ext hx115
        replace hW_ := hW_.ext hx115
        replace hB := hB.ext hx115
        replace hx := hx.tr hx115
        replace hn1 := own_ext hn1 hx115
        replace hn2 := own_ext hn2 hx115
        have hs115 := hx115.size
        refine WL.c rfl (o_mvh (by first | exact (show _ = Value.tuple _ from rfl) | exact rfl) ?_)
        refine WL.c rfl (o_ext rfl rfl ?_)
        refine WL.c rfl (o_ext rfl rfl ?_)
        refine WL.c rfl (o_ash (by first | exact (show _ = Value.slice _ _ _ from rfl) | exact rfl) ?_)
        refine WL.c rfl (o_ash (show _ = Value.int _ _ from rfl) ?_)
        refine WL.nil ?_
        refine W.seq ?_
        refine W.seq ?_
        obtain ⟨wd, hwd⟩ : ∃ wd, wd = w115.drew := ⟨_, rfl⟩
        have hxd : Ext w115 wd := hwd ▸ Only.drew w115
        replace hV := hV.ext hxd
        replace hW_ := hW_.ext hxd
        replace hB := hB.ext hxd
        replace hx := hx.tr hxd
        replace hn1 := own_ext hn1 hxd
        replace hn2 := own_ext hn2 hxd
        replace hn3 := own_ext hn3 hxd
        have hsd := hxd.size
        refine W.draw (Ext) [(0, fun v _ => v = _), (3, fun v _ => v = _), (4, fun v _ => v = _), (5, fun v _ => v = _), (6, fun v _ => v = _), (8, fun v _ => v = _), (13, fun v _ => v = _), (14, fun v _ => v = _), (15, fun v _ => v = _), (16, fun v _ => v = _), (17, fun v _ => v = _), (18, fun v _ => v = _)] rfl (by kernel_rfl) (Only.refl No) (fun _ _ _ h k => h.trans k) ⟨Mono.eq, Mono.eq, Mono.eq, Mono.eq, Mono.eq, Mono.eq, Mono.eq, Mono.eq, Mono.eq, Mono.eq, Mono.eq, Mono.eq, trivial⟩ ⟨h0, h3, h4, h5, h6, h8, rfl, rfl, rfl, rfl, rfl, rfl, trivial⟩ ?_
        refine WD.p rfl (fun e w hR hh => by obtain ⟨h14, -⟩ := hh; exact SG.n (o_mvh h14 ⟨rfl, Only.refl No _⟩)) ?_
        refine WD.p rfl (fun e w hR hh => by obtain ⟨h118, -⟩ := hh; exact SG.n (o_call Tryd.call15 (lc h118 ln) ((num_spec _ _).mono (fun v w' ⟨h1, h2⟩ => ⟨h1, by rw [h2]; exact Only.refl No _⟩)))) ?_
        refine WD.p rfl (fun e w hR hh => by obtain ⟨h18, -⟩ := hh; exact SG.n (o_mvh h18 ⟨rfl, Only.refl No _⟩)) ?_
        refine WD.p rfl (fun e w hR hh => by obtain ⟨h120, h119, -⟩ := hh; exact SG.n (o_ne h119 h120 ⟨rfl, Only.refl No _⟩)) ?_
        refine WD.p rfl (fun e w hR hh => by obtain ⟨h121, -⟩ := hh; exact SG.n (o_mvh h121 ⟨rfl, Only.refl No _⟩)) ?_
        refine WD.p rfl (fun e w hR hh => by obtain ⟨h122, h16, -⟩ := hh; exact SG.g h122 (by simp) (o_mvh h16 ⟨rfl, Only.refl No _⟩)) ?_
        refine WD.p rfl (fun e w hR hh => by obtain ⟨h123, h122, -⟩ := hh; exact SG.g h122 (by simp) (o_call Tryd.call15 (lc h123 ln) ((num_spec _ _).mono (fun v w' ⟨h1, h2⟩ => ⟨h1, by rw [h2]; exact Only.refl No _⟩)))) ?_
        refine WD.p rfl (fun e w hR hh => by obtain ⟨h122, h18, -⟩ := hh; exact SG.g h122 (by simp) (o_mvh h18 ⟨rfl, Only.refl No _⟩)) ?_
        refine WD.p rfl (fun e w hR hh => by obtain ⟨h125, h124, h122, -⟩ := hh; exact SG.g h122 (by simp) (o_ne h124 h125 ⟨rfl, Only.refl No _⟩)) ?_
        refine WD.p rfl (fun e w hR hh => by obtain ⟨h126, h122, -⟩ := hh; exact SG.n (o_pickO h122 h126 ⟨rfl, Only.refl No _⟩)) ?_
        refine WD.p rfl (fun e w hR hh => by obtain ⟨h127, -⟩ := hh; exact SG.n (o_mvh h127 ⟨rfl, Only.refl No _⟩)) ?_
        refine WD.p rfl (fun e w hR hh => by obtain ⟨h128, h13, -⟩ := hh; exact SG.g h128 (by simp) (o_mvh h13 ⟨rfl, Only.refl No _⟩)) ?_
        refine WD.p rfl (fun e w hR hh => by obtain ⟨h128, h17, -⟩ := hh; exact SG.g h128 (by simp) (o_mvh h17 ⟨rfl, Only.refl No _⟩)) ?_
        refine WD.p rfl (fun e w hR hh => by obtain ⟨h130, h129, h128, -⟩ := hh; rw [← hwd] at hR; exact SG.g h128 (by simp) (o_call Tryd.call18 (lc h129 (lc h130 ln)) ((requal_spec (valL (AL wh)) (valL (AL wh)) nv1 nv3 _ (Sl.own (own_ext hn1 hR)) (Sl.own (own_ext hn3 hR)) (by omega)).mono (fun v w' h => h)))) ?_
        refine WD.p rfl (fun e w hR hh => by obtain ⟨h131, h128, -⟩ := hh; exact SG.g h128 (by simp) (o_not' h131 ⟨rfl, Only.refl No _⟩)) ?_
        refine WD.p rfl (fun e w hR hh => by obtain ⟨h132, h128, -⟩ := hh; exact SG.n (o_pickO h128 h132 ⟨rfl, Only.refl No _⟩)) ?_
        refine WD.p rfl (fun e w hR hh => by obtain ⟨h133, -⟩ := hh; exact SG.n (o_mvh h133 ⟨rfl, Only.refl No _⟩)) ?_
        refine WD.p rfl (fun e w hR hh => by obtain ⟨h134, h15, -⟩ := hh; exact SG.g h134 (by simp) (o_mvh h15 ⟨rfl, Only.refl No _⟩)) ?_
        refine WD.p rfl (fun e w hR hh => by obtain ⟨h134, h17, -⟩ := hh; exact SG.g h134 (by simp) (o_mvh h17 ⟨rfl, Only.refl No _⟩)) ?_
        refine WD.p rfl (fun e w hR hh => by obtain ⟨h136, h135, h134, -⟩ := hh; rw [← hwd] at hR; exact SG.g h134 (by simp) (o_call Tryd.call18 (lc h135 (lc h136 ln)) ((requal_spec (valL (AL wh)) (valL (AL wh)) nv2 nv3 _ (Sl.own (own_ext hn2 hR)) (Sl.own (own_ext hn3 hR)) (by omega)).mono (fun v w' h => h)))) ?_
        refine WD.p rfl (fun e w hR hh => by obtain ⟨h137, h134, -⟩ := hh; exact SG.g h134 (by simp) (o_not' h137 ⟨rfl, Only.refl No _⟩)) ?_
        refine WD.p rfl (fun e w hR hh => by obtain ⟨h138, h134, -⟩ := hh; exact SG.n (o_pickO h134 h138 ⟨rfl, Only.refl No _⟩)) ?_
        refine WD.p rfl (fun e w hR hh => by obtain ⟨h139, -⟩ := hh; exact SG.n (o_mvh h139 ⟨rfl, Only.refl No _⟩)) ?_
        refine WD.p rfl (fun e w hR hh => by obtain ⟨h140, h8, -⟩ := hh; exact SG.g h140 (by simp) (o_mvh h8 ⟨rfl, Only.refl No _⟩)) ?_
        refine WD.p rfl (fun e w hR hh => by obtain ⟨h141, h140, h3, -⟩ := hh; exact SG.g h140 (by simp) (o_ixA (i := wh) TI37 TI35 h3 h141 (by omega) ⟨rfl, Only.refl No _⟩)) ?_
        refine WD.p rfl (fun e w hR hh => by obtain ⟨h142, h140, -⟩ := hh; rw [← hwd] at hR; have hc := hR.blk hV.cell (fun h => h); exact SG.g h140 (by simp) (o_ld TI35 rfl h142 (cell_of hc (ar2 (f := (fun j => Value.pointer (some ⟨p j, 0, none⟩))) hw2)) ⟨rfl, Only.refl No _⟩)) ?_
        refine WD.p rfl (fun e w hR hh => by obtain ⟨h143, h140, -⟩ := hh; rw [← hwd] at hR; exact SG.g h140 (by simp) (o_call Tryd.call19 (lc h143 ln) ((vcount_spec _ _ _ _ _ _ ((hV.ar wh hw2).ext hR)).mono (fun v w' ⟨h1, h2⟩ => ⟨h1, by rw [h2]; exact Only.refl No _⟩)))) ?_
        refine WD.p rfl (fun e w hR hh => by obtain ⟨h140, h8, -⟩ := hh; exact SG.g h140 (by simp) (o_mvh h8 ⟨rfl, Only.refl No _⟩)) ?_
        refine WD.p rfl (fun e w hR hh => by obtain ⟨h145, h140, h4, -⟩ := hh; exact SG.g h140 (by simp) (o_ixA (i := wh) TI42 TI38 h4 h145 (by omega) ⟨rfl, Only.refl No _⟩)) ?_
        refine WD.p rfl (fun e w hR hh => by obtain ⟨h146, h140, -⟩ := hh; rw [← hwd] at hR; have hc := hR.blk hW_.cell (fun h => h); exact SG.g h140 (by simp) (o_ld TI38 rfl h146 (cell_of hc (ar2 (f := (fun j => Value.pointer (some ⟨q j, 0, none⟩))) hw2)) ⟨rfl, Only.refl No _⟩)) ?_
        refine WD.p rfl (fun e w hR hh => by obtain ⟨h147, h140, -⟩ := hh; rw [← hwd] at hR; exact SG.g h140 (by simp) (o_call Tryd.call20 (lc h147 ln) ((rcount_spec _ _ _ _ _ ((hW_.ar wh hw2).ext hR)).mono (fun v w' ⟨h1, h2⟩ => ⟨h1, by rw [h2]; exact Only.refl No _⟩)))) ?_
        refine WD.p rfl (fun e w hR hh => by obtain ⟨h148, h144, h140, -⟩ := hh; exact SG.g h140 (by simp) (o_ne h144 h148 ⟨rfl, Only.refl No _⟩)) ?_
        refine WD.p rfl (fun e w hR hh => by obtain ⟨h149, h140, -⟩ := hh; exact SG.n (o_pickO h140 h149 ⟨rfl, Only.refl No _⟩)) ?_
        rintro e w hR ⟨h150, h149, h148, h147, h146, h145, h144, h143, h142, h141, h140, h139, h138, h137, h136, h135, h134, h133, h132, h131, h130, h129, h128, h127, h126, h125, h124, h123, h122, h121, h120, h119, h118, h0, h3, h4, h5, h6, h8, h13, h14, h15, h16, h17, h18, -⟩
        refine W.condF' h150 (by simp) ?_
        refine W.skip ?_
        refine W.seq ?_
        rw [← hwd] at hR
        replace hV := hV.ext hR
        replace hW_ := hW_.ext hR
        replace hB := hB.ext hR
        replace hx := hx.tr hR
        replace hn1 := own_ext hn1 hR
        replace hn2 := own_ext hn2 hR
        clear hn3
        have hsR := hR.size
        refine W.region ?_
        refine WL.c rfl (o_mvh h5 ?_)
        refine WL.c rfl (o_mvh h13 ?_)
        refine WL.c rfl (o_call Tryd.call21 (lc rfl (lc rfl ln)) ((bnodes_spec bp a b c d nl 0 VA VB VC VD _ hB (by omega) nv1 (valL (AL wh)) (own_mono hn1 (Nat.zero_le _)) (by omega) (fun k hk hF => by have := (hn1.lt k hk).1; have := hBq k hF; omega)).mono ?_))
        rintro v153 w153 ⟨a1, b1, VA1, VB1, hB1, ho1, hBF1⟩
        have hT1 := (Typed.row hn1).off (ts' := tyV) hV.typed (by decide)
        have hT2 := (Typed.row hn1).off (ts' := tyR) hW_.typed (by decide)
        have hsx := ho1.size
        have hsl := hx.size
        replace hV := hV.only ho1 (fun k hk hF => by rcases hF with hF | hF; exact Typed.off hV.typed hB.typed (by decide) k hk hF; exact hT1 k hF hk)
        replace hW_ := hW_.only ho1 (fun k hk hF => by rcases hF with hF | hF; exact Typed.off hW_.typed hB.typed (by decide) k hk hF; exact hT2 k hF hk)
        replace hn2 := own_only hn2 ho1 (fun k hk hF => by rcases hF with hF | hF; have := (hn2.lt k hk).1; have := hBq k hF; omega; exact hz21 k hk hF)
        have hge1 : ∀ k, nv1.ownBlock = some k → w0.heap.size ≤ k := fun k hk => by have := (hn1.lt k hk).1; omega
        have hn2z : ∀ k, nv2.ownBlock = some k → k < w.heap.size := fun k hk => by have := hz2 k hk; omega
        refine WL.nil ?_
        refine W.seq ?_
        refine W.region ?_
        refine WL.c rfl (o_mvh h5 ?_)
        refine WL.c rfl (o_mvh h15 ?_)
        refine WL.c rfl (o_call Tryd.call21 (lc rfl (lc rfl ln)) ((bnodes_spec bp a1 b1 c d (nl + 1) 0 VA1 VB1 VC VD _ hB1 (by omega) nv2 (valL (AL wh)) (own_mono hn2 (Nat.zero_le _)) (by omega) (fun k hk hF => by have h1 := (hn2.lt k hk).1; rcases hBF1 k hF with hF | hF | hF; have := hBq k hF; omega; exact hz21 k hk hF; have := hn2z k hk; omega)).mono ?_))
        rintro v156 w156 ⟨a2, b2, VA2, VB2, hB2, ho2, hBF2⟩
        have hT3 := (Typed.row hn2).off (ts' := tyV) hV.typed (by decide)
        have hT4 := (Typed.row hn2).off (ts' := tyR) hW_.typed (by decide)
        replace hV := hV.only ho2 (fun k hk hF => by rcases hF with hF | hF; exact Typed.off hV.typed hB1.typed (by decide) k hk hF; exact hT3 k hF hk)
        replace hW_ := hW_.only ho2 (fun k hk hF => by rcases hF with hF | hF; exact Typed.off hW_.typed hB1.typed (by decide) k hk hF; exact hT4 k hF hk)
        have hge2 : ∀ k, nv2.ownBlock = some k → w0.heap.size ≤ k := fun k hk => by have := (hn2.lt k hk).1; omega
        have hBg1 : ∀ k, BF bp a1 b1 c d (nl + 1) 0 VA1 VB1 VC VD k → w0.heap.size ≤ k := fun k hk => by
          rcases hBF1 k hk with hF | hF | hF
          · exact hBg k hF
          · exact hge1 k hF
          · omega
        have hBg2 : ∀ k, BF bp a2 b2 c d (nl + 1 + 1) 0 VA2 VB2 VC VD k → w0.heap.size ≤ k := fun k hk => by
          rcases hBF2 k hk with hF | hF | hF
          · exact hBg1 k hF
          · exact hge2 k hF
          · omega
        replace hx := (hx.trans' ho1 (fun _ h => h) (fun k _ hF => by rcases hF with hF | hF; have := hBg k hF; omega; have := hge1 k hF; omega)).trans' ho2 (fun _ h => h) (fun k _ hF => by rcases hF with hF | hF; have := hBg1 k hF; omega; have := hge2 k hF; omega)
        clear hB hBg hn1 hn2
        have hB := hB2
        have hBg := hBg2
        refine WL.nil ?_
        refine W.seq ?_
        refine W.region ?_
        refine WL.c rfl (o_mvh h5 ?_)
        refine WL.c rfl (o_call Tryd.call11 (lc rfl ln) ((holds_spec bp a2 b2 c d (nl + 1 + 1) 0 VA2 VB2 VC VD _ hB (by omega) (by omega)).mono ?_))
        rintro v158 w158 ⟨rfl, hx158⟩
        replace hV := hV.ext hx158
        replace hW_ := hW_.ext hx158
        replace hB := hB.ext hx158
        replace hx := hx.tr hx158
        refine WL.c rfl (o_not' rfl ?_)
        refine WL.nil ?_
        refine W.condF' rfl (by simp) ?_
        refine W.skip ?_
        refine W.region ?_
        refine WL.c rfl (o_mvh h6 ?_)
        refine WL.c rfl (o_addi rfl rfl (by omega) ?_)
        refine WL.c rfl (o_ash (show _ = Value.int _ _ from rfl) ?_)
        refine WL.nil ?_
        first
          | refine ⟨⟨n + 1, _, _, _, _, _, _, _, _, _, _, _, _, by omega, by omega, h0.trans hve.symm, h3, h4, h5, rfl, hAl2, by omega, hV, hW_, hB, hBg, hx⟩, ?_⟩
          | refine ⟨⟨n + 1, _, _, _, _, _, _, _, _, _, _, _, _, by omega, by omega, h0.trans hve.symm, h3, h4, h5, rfl, fun j hj => by have := hAl j hj; omega, by omega, hV, hW_, hB, hBg, hx⟩, ?_⟩
        show 200 - ((n : Int) + 1).toNat < _
        rw [hm6]; simp [intOf]; omega
    · try simp only [decide_eq_true_eq, decide_eq_false_iff_not, Bool.not_eq_true', Bool.not_eq_false', Bool.and_eq_true, Bool.or_eq_true, Bool.and_eq_false_iff, Bool.or_eq_false_iff] at c46
      refine W.exit ?_
      refine W.seq ?_
      obtain ⟨wd, hwd⟩ : ∃ wd, wd = w.drew := ⟨_, rfl⟩
      have hxd : Ext w wd := hwd ▸ Only.drew w
      replace hV := hV.ext hxd
      replace hW_ := hW_.ext hxd
      replace hB := hB.ext hxd
      replace hx := hx.tr hxd
      refine W.drawT 16 (Ext) [(3, fun v _ => v = _), (4, fun v _ => v = _)] rfl (by kernel_rfl) (Only.refl No) (fun _ _ _ h k => h.trans k) ⟨Mono.eq, Mono.eq, trivial⟩ ⟨h3, h4, trivial⟩ ?_
      refine WD.p rfl (fun e w hR hh => by obtain ⟨h3, -⟩ := hh; exact SG.n (o_ixA (i := 0) TI37 TI35 h3 rfl (by omega) ⟨rfl, Only.refl No _⟩)) ?_
      refine WD.p rfl (fun e w hR hh => by obtain ⟨h160, -⟩ := hh; rw [← hwd] at hR; have hc := hR.blk hV.cell (fun h => h); exact SG.n (o_ld TI35 rfl h160 (cell_of hc rfl) ⟨rfl, Only.refl No _⟩)) ?_
      refine WD.p rfl (fun e w hR hh => by obtain ⟨h161, -⟩ := hh; rw [← hwd] at hR; exact SG.n (o_call Tryd.call19 (lc h161 ln) ((vcount_spec _ _ _ _ _ _ ((hV.ar 0 (by decide)).ext hR)).mono (fun v w' ⟨h1, h2⟩ => ⟨h1, by rw [h2]; exact Only.refl No _⟩)))) ?_
      refine WD.p rfl (fun e w hR hh => by obtain ⟨h4, -⟩ := hh; exact SG.n (o_ixA (i := 0) TI42 TI38 h4 rfl (by omega) ⟨rfl, Only.refl No _⟩)) ?_
      refine WD.p rfl (fun e w hR hh => by obtain ⟨h163, -⟩ := hh; rw [← hwd] at hR; have hc := hR.blk hW_.cell (fun h => h); exact SG.n (o_ld TI38 rfl h163 (cell_of hc rfl) ⟨rfl, Only.refl No _⟩)) ?_
      refine WD.p rfl (fun e w hR hh => by obtain ⟨h164, -⟩ := hh; rw [← hwd] at hR; exact SG.n (o_call Tryd.call20 (lc h164 ln) ((rcount_spec _ _ _ _ _ ((hW_.ar 0 (by decide)).ext hR)).mono (fun v w' ⟨h1, h2⟩ => ⟨h1, by rw [h2]; exact Only.refl No _⟩)))) ?_
      refine WD.p rfl (fun e w hR hh => by obtain ⟨h165, h162, -⟩ := hh; exact SG.n (o_eq h162 h165 ⟨rfl, Only.refl No _⟩)) ?_
      refine WD.p rfl (fun e w hR hh => by obtain ⟨h166, -⟩ := hh; exact SG.n (o_mvh h166 ⟨rfl, Only.refl No _⟩)) ?_
      refine WD.p rfl (fun e w hR hh => by obtain ⟨h167, h3, -⟩ := hh; exact SG.g h167 (by simp) (o_ixA (i := 1) TI37 TI35 h3 rfl (by omega) ⟨rfl, Only.refl No _⟩)) ?_
      refine WD.p rfl (fun e w hR hh => by obtain ⟨h168, h167, -⟩ := hh; rw [← hwd] at hR; have hc := hR.blk hV.cell (fun h => h); exact SG.g h167 (by simp) (o_ld TI35 rfl h168 (cell_of hc rfl) ⟨rfl, Only.refl No _⟩)) ?_
      refine WD.p rfl (fun e w hR hh => by obtain ⟨h169, h167, -⟩ := hh; rw [← hwd] at hR; exact SG.g h167 (by simp) (o_call Tryd.call19 (lc h169 ln) ((vcount_spec _ _ _ _ _ _ ((hV.ar 1 (by decide)).ext hR)).mono (fun v w' ⟨h1, h2⟩ => ⟨h1, by rw [h2]; exact Only.refl No _⟩)))) ?_
      refine WD.p rfl (fun e w hR hh => by obtain ⟨h167, h4, -⟩ := hh; exact SG.g h167 (by simp) (o_ixA (i := 1) TI42 TI38 h4 rfl (by omega) ⟨rfl, Only.refl No _⟩)) ?_
      refine WD.p rfl (fun e w hR hh => by obtain ⟨h171, h167, -⟩ := hh; rw [← hwd] at hR; have hc := hR.blk hW_.cell (fun h => h); exact SG.g h167 (by simp) (o_ld TI38 rfl h171 (cell_of hc rfl) ⟨rfl, Only.refl No _⟩)) ?_
      refine WD.p rfl (fun e w hR hh => by obtain ⟨h172, h167, -⟩ := hh; rw [← hwd] at hR; exact SG.g h167 (by simp) (o_call Tryd.call20 (lc h172 ln) ((rcount_spec _ _ _ _ _ ((hW_.ar 1 (by decide)).ext hR)).mono (fun v w' ⟨h1, h2⟩ => ⟨h1, by rw [h2]; exact Only.refl No _⟩)))) ?_
      refine WD.p rfl (fun e w hR hh => by obtain ⟨h173, h170, h167, -⟩ := hh; exact SG.g h167 (by simp) (o_eq h170 h173 ⟨rfl, Only.refl No _⟩)) ?_
      refine WD.p rfl (fun e w hR hh => by obtain ⟨h174, h167, -⟩ := hh; exact SG.n (o_pickA h167 h174 ⟨rfl, Only.refl No _⟩)) ?_
      rintro e w hR ⟨h175, h174, h173, h172, h171, h170, h169, h168, h167, h166, h165, h164, h163, h162, h161, h160, h3, h4, -⟩
      rw [← hwd] at hR
      replace hx := hx.tr hR
      refine WL.c rfl (o_ash h175 ?_)
      refine WL.nil ?_
      refine W.ret ?_
      refine ret1v rfl (show _ = Value.bool _ from rfl) ?_
      exact ⟨congrArg Value.bool (by simp), hx⟩
end Go.Proofs.YtgmjfcekeglhjaaDoor
