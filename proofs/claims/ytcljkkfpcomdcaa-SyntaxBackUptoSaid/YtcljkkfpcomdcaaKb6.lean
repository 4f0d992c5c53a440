/-
  Walks and lemmas. Written by program out of specs of mine.
-/
import Derived.WalkKit
import Derived.WalkSpells
import Derived.WalkLawsBesides
import Derived.Deep.Quiet
import Derived.StillTail
import Derived.StringKeys
import Derived.Laws.StructEq
import Derived.Laws.Externs
import Derived.Laws.Tables
import Derived.Scope
import Derived.Test.YtcljkkfpcomdcaaProg
import Derived.Laws.AppendOwn
import Derived.Maps.AppendAt
import Derived.Recover
import Derived.Lib.Bytealg
import Derived.SizedLaws
import Derived.ChangeArms
import Derived.ChangeSlices
import Derived.Test.YtcljkkfpcomdcaaRows
import Derived.ProofKit
import Derived.OpenShut
import Derived.ShutString
import Derived.ChangeOld
import Derived.Below
import Derived.JoinedCond
import Derived.SliceStrings
import Derived.Test.YtcljkkfpcomdcaaKb5
set_option linter.unusedSimpArgs false
set_option linter.unusedVariables false
set_option maxRecDepth 100000
set_option linter.unusedSimpArgs false
set_option linter.unusedVariables false
set_option maxRecDepth 100000
namespace Go.Proofs.Ytcljkkfpcomdcaa
open Go Go.Vc Go.RowKit Go.Proofs

theorem many_setG {w w' : World} {H0 : Nat} {el : TypeId} {s N : Nat} {V : Nat → Value} {n : Nat → Nat} {X : Nat → List Value} {F : Nat → Prop} (h : Many w H0 el s N V n X) {j0 m : Nat} {xs : List Value} (ho : Only F w w') (hF : ∀ j, j < N → j ≠ j0 → ∀ k, (V j).ownBlock = some k → ¬ F k) (hr : w'.ownsRow H0 el s (V j0) m xs) :
    Many w' H0 el s N V (fun j => if j = j0 then m else n j) (fun j => if j = j0 then xs else X j) := by
  refine ⟨fun j hj' => ?_, h.off⟩
  by_cases e : j = j0
  · simp only [if_pos e]; subst e; exact hr
  · simp only [if_neg e]
    exact own_only (h.row j hj') ho (hF j hj' e)
theorem getD_mid {P C : List Df} {d : Df} : (P ++ d :: C).getD P.length df0 = d := by simp [List.getD_eq_getElem?_getD]
theorem setAt_mid {P C : List Df} {d : Df} {z : Int} : setAt (P ++ d :: C) P.length z = P ++ { d with at_ := z } :: C := by
  rw [setAt, getD_mid, List.set_append_right _ _ (Nat.le_refl _), Nat.sub_self]; rfl
theorem getD_other {P C : List Df} {d e : Df} {j : Nat} (h : ¬ j = P.length) : (P ++ d :: C).getD j df0 = (P ++ e :: C).getD j df0 := by
  rw [List.getD_eq_getElem?_getD, List.getD_eq_getElem?_getD]
  rcases Nat.lt_or_ge j P.length with hl | hl
  · rw [List.getElem?_append_left hl, List.getElem?_append_left hl]
  · rw [List.getElem?_append_right hl, List.getElem?_append_right hl]
    obtain ⟨k, hk⟩ : ∃ k, j - P.length = k + 1 := ⟨j - P.length - 1, by omega⟩
    rw [hk]; rfl
theorem Defs.setT {w w' : World} {H : Nat} {P C : List Df} {nm : List UInt8} {z : Int} {L M : List Ex} {lv : Value} {V : Nat → Value} {F : Nat → Prop} (h : Defs w H (P ++ ⟨nm, z, L⟩ :: C) lv V) (hl : M.length = L.length) (ho : Only F w w') (hR : ∀ k, lv.ownBlock = some k → ¬ F k)
    (hF : ∀ j, j < (P ++ (⟨nm, z, L⟩ : Df) :: C).length → j ≠ P.length → ∀ k, (V j).ownBlock = some k → ¬ F k) (hr : w'.ownsRow H 30 7 (V P.length) M.length (exs M)) : Defs w' H (P ++ ⟨nm, z, M⟩ :: C) lv V := by
  have hlen : (P ++ (⟨nm, z, M⟩ : Df) :: C).length = (P ++ (⟨nm, z, L⟩ : Df) :: C).length := by simp
  have hrows : drows (P ++ (⟨nm, z, M⟩ : Df) :: C) V = drows (P ++ (⟨nm, z, L⟩ : Df) :: C) V := by
    rw [drows, drows, hlen]
    refine dfm_congr fun j hj => ?_
    by_cases e : j = P.length
    · rw [e, getD_mid, getD_mid]; rfl
    · rw [getD_other (e := ⟨nm, z, L⟩) e]
  refine ⟨by rw [hrows, hlen]; exact own_only h.row ho hR, ?_⟩
  rw [hlen]
  refine (many_setG h.tys ho hF hr).congr (fun _ _ => rfl) (fun j hj => ?_) (fun j hj => ?_)
  · by_cases e : j = P.length
    · rw [if_pos e, e, tyD, getD_mid]
    · rw [if_neg e, tyD, tyD, getD_other (e := ⟨nm, z, L⟩) e]
  · by_cases e : j = P.length
    · rw [if_pos e, e, tyD, getD_mid]
    · rw [if_neg e, tyD, tyD, getD_other (e := ⟨nm, z, L⟩) e]
theorem wexpr : ∀ n, WExpr n := by
  intro n
  induction n with
  | zero =>
    intro t above deep H p v0 g cap HL A C bs at0 inside N w0 hn
    cases t with
    | node y ks => simp [Tr.flat] at hn
  | succ n ih =>
    intro t above deep H p v0 g cap HL A C bs at0 inside N w0 hn hw hM hN hNb hrow hg h1 h0 hb
    cases t with
    | node y ks =>
      exact wexpr_step n ih y ks above deep H p v0 g cap HL A C bs at0 inside N w0 (by simpa [Tr.flat] using hn) hw hM hN hNb hrow hg h1 h0 (by simpa [Tr.flat] using hb)
theorem pl_ex : ∀ (D : List Df) (l : List DefT) (bs : List UInt8), (∀ q ∈ l, DefW q) → D.map (fun d => (d.name, d.ty)) = l.map (fun q => (q.1, q.2.flat)) → (∀ d ∈ D, d.ty.length ≤ 1048576) → ∀ d ∈ plDefs bs l, d.ty.length ≤ 1048576
  | [], [], _, _, _, _, d, hd => by cases hd
  | [], q :: l, _, _, h, _, _, _ => by simp at h
  | d :: D, [], _, _, h, _, _, _ => by simp at h
  | d :: D, q :: l, bs, hw, h, hs, e, he => by
    simp only [List.map_cons, List.cons.injEq, Prod.mk.injEq] at h
    rcases List.mem_cons.1 he with rfl | he
    · have h1 := hs d (List.mem_cons_self ..)
      rw [h.1.2] at h1
      show (q.2.pl _ _).length ≤ _
      rw [pl_len _ _ _ _ _ (hw q (List.mem_cons_self ..)).2]; exact h1
    · exact pl_ex D l _ (fun q hq => hw q (List.mem_cons_of_mem _ hq)) h.2 (fun d hd => hs d (List.mem_cons_of_mem _ hd)) e he

set_option maxHeartbeats 4000000 in
theorem back_walk0 (w0 : World) (D : List Df) (dv : Value) (V : Nat → Value) (hD : DefR w0 D dv V) (hlim : DOk D) (hszD : ∀ d ∈ D, d.ty.length ≤ 1048576) : Ca Try.prog 5 #[.agg #[dv]] w0 (fun v w' => v = .bool true ∧ Ext w0 w') := by
  refine Ca.of Try.func5 Try.ntmps5 rfl rfl ?_
  refine W.seq ?_
  refine W.region ?_
  refine WL.c rfl (o_boxB rfl ?_)
  intro w1 hC1 hx hs1
  replace hC1 : w1.heap[w0.heap.size]? = some (.cells #[dv] 28 (0, 0)) := hC1
  obtain ⟨c1, hc1⟩ : ∃ c, c = w0.heap.size := ⟨_, rfl⟩
  rw [← hc1] at hC1 ⊢
  refine WL.c rfl (o_ash (show _ = Value.bool _ from rfl) ?_)
  refine WL.nil ?_
  refine W.seq ?_
  refine W.seq ?_
  refine W.region ?_
  refine WL.c rfl (o_call Try.call11 ln ((first_spec _).mono ?_))
  rintro v12 w12 ⟨rfl, hx12⟩
  replace hx := hx.tr hx12
  replace hC1 := hx12.blk hC1 (fun h => h)
  refine WL.c rfl (o_not' rfl ?_)
  refine WL.nil ?_
  refine W.condF' rfl (rfl) ?_
  refine W.skip ?_
  refine W.seq ?_
  refine W.region ?_
  refine WL.c rfl (o_ldA TI28 rfl rfl (show Cells _ c1 0 [dv] from Cells.of hC1 0 _ (by simp)) rfl ?_)
  refine WL.c rfl (o_call Try.call13 (lc rfl ln) ((lent_spec D dv V _ (hD.ext hx) hlim).mono ?_))
  rintro v15 w15 ⟨gv, U, rfl, hL, hx15⟩
  obtain ⟨BB, hBB⟩ : ∃ B, B = w12.heap.size := ⟨_, rfl⟩
  rw [← hBB] at hL
  have hB0 : w0.heap.size ≤ BB := by have := hx.size; omega
  replace hx := hx.tr hx15
  replace hC1 := hx15.blk hC1 (fun h => h)
  obtain ⟨gg, capg, hgv, -⟩ := own_some hL.row (by omega)
  have hDe := hL.defs
  clear hL
  subst hgv
  replace hDe : Defs w15 BB D (Value.slice (some ⟨gg, 0, none⟩) D.length capg) (fun j => shr (U j)) := hDe
  generalize (fun j => shr (U j)) = V2 at hDe
  refine WL.c rfl (o_alB TI28 ?_)
  intro wa hCa hxa hsa
  refine WL.u (o_stA TI28 rfl (show _ = Value.agg #[Value.slice (some ⟨gg, 0, none⟩) D.length capg] from rfl) rfl rfl hCa rfl ?_)
  intro wb hC3 ho3 hs3
  have hxn := Ext.own hxa (Nat.le_refl _) ho3
  obtain ⟨c3, hc3⟩ : ∃ c, c = w15.heap.size := ⟨_, rfl⟩
  rw [← hc3] at hC3 ⊢
  clear hCa hxa hsa ho3 hs3
  replace hx := hx.tr hxn
  replace hC1 := hxn.blk hC1 (fun h => h)
  replace hDe := hDe.ext hxn
  refine WL.nil ?_
  refine W.seq ?_
  refine W.region ?_
  refine WL.c rfl (o_ldA TI28 rfl rfl (show Cells _ c3 0 [Value.slice (some ⟨gg, 0, none⟩) D.length capg] from Cells.of hC3 0 _ (by simp)) rfl ?_)
  refine WL.c rfl (o_call Try.call14 (lc rfl ln) ((check_spec D (Value.slice (some ⟨gg, 0, none⟩) D.length capg) V2 _ hDe.rd hlim.lim).mono ?_))
  rintro v18 w18 ⟨rfl, hx18⟩
  rw [tupE]
  replace hx := hx.tr hx18
  replace hC1 := hx18.blk hC1 (fun h => h)
  replace hDe := hDe.ext hx18
  replace hC3 := hx18.blk hC3 (fun h => h)
  refine WL.c rfl (o_mvh (by first | exact (show _ = Value.tuple _ from rfl) | exact rfl) ?_)
  refine WL.c rfl (o_ext rfl rfl ?_)
  refine WL.c rfl (o_ext rfl rfl ?_)
  refine WL.c rfl (o_ext rfl rfl ?_)
  refine WL.c rfl (o_ash (show _ = Value.int _ _ from rfl) ?_)
  refine WL.c rfl (o_ash (show _ = Value.int _ _ from rfl) ?_)
  refine WL.c rfl (o_ash (show _ = Value.int _ _ from rfl) ?_)
  refine WL.nil ?_
  refine W.seq ?_
  refine W.seq ?_
  refine W.region ?_
  refine WL.c rfl (o_mvh (show _ = Value.int _ _ from rfl) ?_)
  refine WL.c rfl (o_ne rfl rfl ?_)
  refine WL.nil ?_
  refine W.cond rfl (fun c23 => ?_) (fun c23 => ?_)
  · try simp only [decide_eq_true_eq, decide_eq_false_iff_not, Bool.not_eq_true', Bool.not_eq_false', Bool.and_eq_true, Bool.or_eq_true, Bool.and_eq_false_iff, Bool.or_eq_false_iff] at c23
    refine W.seq ?_
    refine W.region ?_
    refine WL.c rfl (o_ash (show _ = Value.bool _ from rfl) ?_)
    refine WL.nil ?_
    refine W.ret ?_
    refine ret1v rfl (show _ = Value.bool _ from rfl) ?_
    exact ⟨rfl, hx⟩
  · try simp only [decide_eq_true_eq, decide_eq_false_iff_not, Bool.not_eq_true', Bool.not_eq_false', Bool.and_eq_true, Bool.or_eq_true, Bool.and_eq_false_iff, Bool.or_eq_false_iff] at c23
    have hck : (chkS D).2.2 = 0 := by omega
    obtain ⟨h256, l, hws, hmap⟩ := chkS_trees hck
    refine W.skip ?_
    refine W.seq ?_
    refine W.region ?_
    refine WL.c rfl (o_bldC (cs := [(.slice none 0 0)]) TI45 (Sizes.cons TI43 Sizes.nil) rfl lnp rfl rfl ?_)
    refine WL.c rfl (o_boxB rfl ?_)
    intro w25 hC25 hx25 hs25
    have hM : WrM w25 w18.heap.size w18.heap.size (.slice none 0 0) [] := ⟨hC25, World.ownsRow_nil _ _ _ _, Nat.le_refl _⟩
    have hlt : ∀ k, DF (Value.slice (some ⟨gg, 0, none⟩) D.length capg) V2 D.length k → k < w18.heap.size := fun k hk => (hDe.lt k hk).2
    have hc3l := (Array.getElem?_eq_some_iff.1 hC3).1
    have hH0 := hx.size
    obtain ⟨HH, hHH⟩ : ∃ H, H = w18.heap.size := ⟨_, rfl⟩
    rw [← hHH] at hM hlt hc3l hH0 ⊢
    replace hx := hx.tr hx25
    replace hC1 := hx25.blk hC1 (fun h => h)
    replace hDe := hDe.ext hx25
    replace hC3 := hx25.blk hC3 (fun h => h)
    clear hC25
    refine WL.c rfl (o_ash (by first | exact (show _ = Value.pointer _ from rfl) | exact rfl) ?_)
    refine WL.nil ?_
    refine W.seq ?_
    refine W.seq ?_
    refine W.region ?_
    refine WL.c rfl (o_ash (show _ = Value.int _ _ from rfl) ?_)
    refine WL.nil ?_
    refine W.block ?_
    refine W.loop (fun e w => ∃ (b : List UInt8) (P C : List Df) (rest : List DefT) (vv : Value), P.length + C.length = D.length ∧ (∀ q ∈ rest, DefW q) ∧ C.map (fun d => (d.name, d.ty)) = rest.map (fun q => (q.1, q.2.flat)) ∧ wrDefs [] l = wrDefs b rest ∧ plDefs [] l = P ++ plDefs b rest ∧ b.length ≤ P.length * 83887080 ∧ (∀ d ∈ C, d.ty.length ≤ 1048576) ∧ e 3 = .pointer (some ⟨c3, 0, none⟩) ∧ e 7 = .pointer (some ⟨HH, 0, none⟩) ∧ e 8 = .int .i64 (P.length : Int) ∧ w.heap[c3]? = some (.cells #[Value.slice (some ⟨gg, 0, none⟩) D.length capg] 28 (0, 0)) ∧ Defs w BB (P ++ C) (Value.slice (some ⟨gg, 0, none⟩) D.length capg) V2 ∧ WrM w HH HH vv b ∧ Ext w0 w) (fun e w => D.length - (intOf (e 8)).toNat) ?_ ?_
    · exact ⟨[], [], D, l, _, by simp, hws, hmap, rfl, rfl, by simp, hszD, rfl, rfl, rfl, hC3, hDe, hM, hx⟩
    rintro e w ⟨b, P, C, rest, vv, hlen, hws1, hmap1, hwq, hpq, hbl, hszC, h3, h7, h8, hC3, hDe, hM, hx⟩
    have hm8 := h8
    have hEl : (P ++ C).length = D.length := by simp; omega
    refine W.seq ?_
    refine W.seq ?_
    refine W.region ?_
    refine WL.c rfl (o_mvh h8 ?_)
    refine WL.c rfl (o_fa 0 TI28 rfl TI26 rfl h3 ?_)
    refine WL.c rfl (o_ld TI26 rfl rfl (cell_of hC3 rfl) ?_)
    refine WL.c rfl (o_lenR TI26 rfl (show Sl _ 3 _ D.length _ from hEl ▸ hDe.rd.row) ?_)
    refine WL.c rfl (o_lt rfl rfl ?_)
    refine WL.nil ?_
    refine W.cond rfl (fun c30 => ?_) (fun c30 => ?_)
    · try simp only [decide_eq_true_eq, decide_eq_false_iff_not, Bool.not_eq_true', Bool.not_eq_false', Bool.and_eq_true, Bool.or_eq_true, Bool.and_eq_false_iff, Bool.or_eq_false_iff] at c30
      have hk1 : P.length < D.length := by omega
      obtain ⟨d, C, rfl⟩ : ∃ d C2, C = d :: C2 := by
        cases C with
        | nil => simp at hlen; omega
        | cons d C2 => exact ⟨d, C2, rfl⟩
      obtain ⟨⟨nm, t⟩, rest, rfl⟩ : ∃ q r2, rest = q :: r2 := by
        cases rest with
        | nil => simp at hmap1
        | cons q r2 => exact ⟨q, r2, rfl⟩
      rw [List.map_cons, List.map_cons, List.cons.injEq, Prod.mk.injEq] at hmap1
      obtain ⟨⟨hn1, hn2⟩, hmap1⟩ := hmap1
      obtain ⟨nm0, at0, ty0⟩ := d
      simp only at hn1 hn2
      obtain rfl := hn1
      obtain rfl := hn2
      have hw1 := hws1 _ (List.mem_cons_self ..)
      obtain ⟨hnb, htw⟩ := hw1
      replace hnb : nm0.length ≤ 32 := nameB_len hnb
      replace htw : t.wf 0 0 := htw
      have htl : t.flat.length ≤ 1048576 := hszC _ (List.mem_cons_self ..)
      have hblw := wr_len t (wrHd b (nm0, t)) 0 0 htw
      have hwh : b ++ [116, 121, 112, 101, 32] ++ (nm0 ++ [32, 61, 32]) = wrHd b (nm0, t) := rfl
      have hwl : (wrHd b (nm0, t)).length ≤ b.length + 40 := by rw [← hwh]; simp; omega
      have hwd : wrDef b (nm0, t) = t.wr (wrHd b (nm0, t)) ++ [59, 10] := rfl
      have hPl : P.length * 83887080 ≤ 256 * 83887080 := Nat.mul_le_mul_right _ (by omega)
      have hty0 := hDe.tys.row P.length (by rw [hEl]; omega)
      simp only [tyD, getD_mid] at hty0
      have htp : 0 < t.flat.length := by cases t; simp [Tr.flat]
      obtain ⟨g, cap, hV, -⟩ := own_some hty0 htp
      refine W.skip ?_
      refine W.seq ?_
      refine W.block ?_
      refine W.seq ?_
      refine W.region ?_
      refine WL.c rfl (o_mvh h7 ?_)
      refine WL.c rfl (o_call Try.call17 (lc rfl (lc rfl ln)) ((put_f HH HH _ _ ([116, 121, 112, 101, 32]) _ hM (by simp; omega)).mono ?_))
      rintro v34 w34 ⟨vm34, hM2, ho34⟩
      replace hDe := hDe.only ho34 (fun k hk hF => by have h1 := hlt k (by rw [← hEl]; exact hk); have h2 := hF.1; omega)
      replace hC3 := ho34.blk hC3 (fun hF => by have h2 := hF.1; omega)
      replace hx := hx.trans' ho34 (fun _ h => h) (fun k hk hF => by have h2 := hF.1; omega)
      clear hM
      have hM := hM2
      clear hM2
      refine WL.nil ?_
      refine W.seq ?_
      obtain ⟨_, _, _, hvv, htc⟩ := hDe.rd.at (k := P.length) (by rw [hEl]; omega)
      rw [hEl] at hvv
      cases hvv
      rw [getD_mid] at htc
      have hty := hDe.rd.tys P.length (by rw [hEl]; omega)
      rw [tyD, getD_mid] at hty
      rw [hV] at htc hty
      refine W.tail 10 rfl (by kernel_rfl) ?_
      refine WS.c rfl ((SO.o rfl (o_fa 0 TI28 rfl TI26 rfl h3 ⟨rfl, rfl⟩))) ?_
      refine WS.c rfl ((SO.o rfl (o_ld TI26 rfl rfl (cell_of hC3 rfl) ⟨rfl, rfl⟩))) ?_
      refine WS.c rfl ((SO.o rfl (o_mvh h8 ⟨rfl, rfl⟩))) ?_
      refine WS.c rfl ((SO.o rfl (o_mvh h7 ⟨rfl, rfl⟩))) ?_
      refine WS.c rfl ((SO.r (r_nil rfl))) ?_
      refine WS.c rfl ((SO.o rfl (o_fa 0 TI45 rfl TI43 rfl rfl ⟨rfl, rfl⟩))) ?_
      refine WS.c rfl ((SO.o rfl (o_ld TI43 rfl rfl (cell_of hM.cell rfl) ⟨rfl, rfl⟩))) ?_
      refine WS.c rfl ((SO.r (r_lenR TI43 rfl (Sl.own hM.row)))) ?_
      refine WS.c rfl ((SO.o rfl (o_ixB TI26 TI40 rfl rfl (by omega) ⟨rfl, rfl⟩))) ?_
      refine WS.c rfl ((SO.o rfl (o_fa 1 TI40 rfl TI3 rfl rfl ⟨rfl, rfl⟩))) ?_
      refine WS.nil ?_
      have hxd := Only.drew w34
      replace hx := hx.tr hxd
      replace hDe := hDe.ext hxd
      replace hC3 := hxd.blk hC3 (fun h => h)
      replace hM := hM.ext hxd
      clear hxd
      generalize w34.drew = wd at *
      have hrw := hDe.row
      rw [hEl] at hrw
      refine WL.u (o_stRj (i := P.length * 3 + 1) TI3 rfl (by omega) (show _ = Value.int .i64 ((b ++ [116, 121, 112, 101, 32]).length : Int) from rfl) rfl hrw rfl (by omega) ?_)
      intro wc hr44 ho hs44
      have hRW := hDe.row
      replace hC3 := ho.blk hC3 (fun he => own_off hRW hC3 (by decide) he)
      replace hM := hM.only ho (fun k hk => hlt k (.inl hk))
      replace hx := hx.trans' ho (fun _ h => h) (fun k hk he => by have := (hRW.lt k he).1; omega)
      replace hDe := hDe.setAt (k := P.length) (z := ((b ++ [116, 121, 112, 101, 32]).length : Int)) (by omega) ho (by rw [hEl]; exact hr44)
      rw [setAt_mid] at hDe
      clear hRW hrw hr44 ho htc hty hEl
      have hEl : (P ++ (⟨nm0, ((b ++ [116, 121, 112, 101, 32]).length : Int), t.flat⟩ : Df) :: C).length = D.length := by simp at hlen ⊢; omega
      refine WL.nil ?_
      refine W.seq ?_
      obtain ⟨_, _, _, hvv, htc⟩ := hDe.rd.at (k := P.length) (by rw [hEl]; omega)
      rw [hEl] at hvv
      cases hvv
      rw [getD_mid] at htc
      have hty := hDe.rd.tys P.length (by rw [hEl]; omega)
      rw [tyD, getD_mid] at hty
      rw [hV] at htc hty
      refine W.region ?_
      refine WL.c rfl (o_mvh h7 ?_)
      refine WL.c rfl (o_fa 0 TI28 rfl TI26 rfl h3 ?_)
      refine WL.c rfl (o_ld TI26 rfl rfl (cell_of hC3 rfl) ?_)
      refine WL.c rfl (o_mvh h8 ?_)
      refine WL.c rfl (o_ixB TI26 TI40 rfl rfl (by omega) ?_)
      refine WL.c rfl (o_fa 0 TI40 rfl TI9 rfl rfl ?_)
      refine WL.c rfl (o_ld TI9 rfl rfl (htc 0 _ rfl) ?_)
      refine WL.c rfl (o_addT (xs := nm0) (ys := [32, 61, 32]) rfl rfl (by simp; omega) ?_)
      refine WL.c rfl (o_call Try.call17 (lc rfl (lc rfl ln)) ((put_f HH HH _ _ (nm0 ++ [32, 61, 32]) _ hM (by simp; omega)).mono ?_))
      rintro v53 w53 ⟨vm53, hM2, ho53⟩
      replace hDe := hDe.only ho53 (fun k hk hF => by have h1 := hlt k (by rw [← hEl]; exact hk); have h2 := hF.1; omega)
      replace hC3 := ho53.blk hC3 (fun hF => by have h2 := hF.1; omega)
      replace hx := hx.trans' ho53 (fun _ h => h) (fun k hk hF => by have h2 := hF.1; omega)
      clear hM
      have hM := hM2
      clear hM2
      refine WL.nil ?_
      refine W.seq ?_
      refine W.seq ?_
      clear htc hty
      rw [hwh] at hM
      obtain ⟨_, _, _, hvv, htc⟩ := hDe.rd.at (k := P.length) (by rw [hEl]; omega)
      rw [hEl] at hvv
      cases hvv
      rw [getD_mid] at htc
      have hty := hDe.rd.tys P.length (by rw [hEl]; omega)
      rw [tyD, getD_mid] at hty
      rw [hV] at htc hty
      refine W.region ?_
      refine WL.c rfl (o_fa 0 TI28 rfl TI26 rfl h3 ?_)
      refine WL.c rfl (o_ld TI26 rfl rfl (cell_of hC3 rfl) ?_)
      refine WL.c rfl (o_mvh h8 ?_)
      refine WL.c rfl (o_ixB TI26 TI40 rfl rfl (by omega) ?_)
      refine WL.c rfl (o_fa 2 TI40 rfl TI38 rfl rfl ?_)
      refine WL.c rfl (o_ld TI38 rfl rfl (htc 2 _ rfl) ?_)
      refine WL.c rfl (o_lenR TI38 rfl hty ?_)
      refine WL.c rfl (o_eq rfl rfl ?_)
      refine WL.nil ?_
      refine W.condF' rfl (decide_eq_false (show ¬ ((t.flat.length : Int) = 0) by omega)) ?_
      refine W.skip ?_
      refine W.seq ?_
      refine W.region ?_
      refine WL.c rfl (o_mvh h7 ?_)
      refine WL.c rfl (o_fa 0 TI28 rfl TI26 rfl h3 ?_)
      refine WL.c rfl (o_ld TI26 rfl rfl (cell_of hC3 rfl) ?_)
      refine WL.c rfl (o_mvh h8 ?_)
      refine WL.c rfl (o_ixB TI26 TI40 rfl rfl (by omega) ?_)
      refine WL.c rfl (o_fa 2 TI40 rfl TI38 rfl rfl ?_)
      refine WL.c rfl (o_ld TI38 rfl rfl (htc 2 _ rfl) ?_)
      have hrE := hDe.tys.row P.length (by rw [hEl]; omega)
      simp only [tyD, getD_mid] at hrE
      rw [hV] at hrE
      have hgH : g < HH := hlt g (.inr ⟨P.length, hk1, by rw [hV]; rfl⟩)
      have hIH := wexpr t.flat.length t 0 0 HH HH _ g cap BB [] [] _ (wrHd b (nm0, t)).length false t.flat.length _ (Nat.le_refl _) htw hM (by simp) (by omega) (by simpa using hrE) hgH (fun h => by cases h) (fun _ => rfl) (by omega)
      simp only [List.length_nil, Nat.zero_add, List.nil_append, List.append_nil] at hIH
      refine WL.c rfl (o_call Try.call18 (lc rfl (lc rfl (lc rfl (lc rfl ln)))) ((hIH).mono ?_))
      rintro v69 w69 ⟨rfl, vm69, hM2, hr69, ho69⟩
      replace hDe := hDe.setT (M := t.pl (wrHd b (nm0, t)).length (wrHd b (nm0, t))) (pl_len _ _ _ _ _ htw) ho69 (fun k hk hF => by
        rcases hF with rfl | hF
        · have h1 := hDe.tys.row P.length (by rw [hEl]; omega)
          exact own_row_off hDe.row h1 (by decide) _ (by rw [hV]; rfl) hk
        · have h1 := hlt k (.inl hk); have h2 := hF.1; omega) (fun j hj hne k hk hF => by
        rcases hF with rfl | hF
        · exact hDe.tys.off j P.length hj (by rw [hEl]; omega) hne _ hk (by rw [hV]; rfl)
        · have h1 := hlt k (.inr ⟨j, by rw [← hEl]; exact hj, hk⟩); have h2 := hF.1; omega) (by rw [hV, pl_len _ _ _ _ _ htw]; exact hr69)
      replace hC3 := ho69.blk hC3 (fun hF => by
        rcases hF with hF | hF
        · exact own_off hrE hC3 (by decide) (by rw [← hF]; rfl)
        · have h2 := hF.1; omega)
      replace hx := hx.trans' ho69 (fun _ h => h) (fun k hk hF => by
        rcases hF with hF | hF
        · have h1 := (hrE.lt g rfl).1; omega
        · have h2 := hF.1; omega)
      clear hM hrE hr69 ho69 htc hty hEl
      have hM := hM2
      clear hM2
      have hEl : (P ++ (⟨nm0, ((b ++ [116, 121, 112, 101, 32]).length : Int), t.pl (wrHd b (nm0, t)).length (wrHd b (nm0, t))⟩ : Df) :: C).length = D.length := by simp at hlen ⊢; omega
      refine WL.c rfl (o_ash (show _ = Value.int _ _ from rfl) ?_)
      refine WL.nil ?_
      refine W.seq ?_
      refine W.seq ?_
      obtain ⟨_, _, _, hvv, htc⟩ := hDe.rd.at (k := P.length) (by rw [hEl]; omega)
      rw [hEl] at hvv
      cases hvv
      rw [getD_mid] at htc
      have hty := hDe.rd.tys P.length (by rw [hEl]; omega)
      rw [tyD, getD_mid] at hty
      rw [hV] at htc hty
      refine W.region ?_
      refine WL.c rfl (o_mvh (show _ = Value.int _ _ from rfl) ?_)
      refine WL.c rfl (o_fa 0 TI28 rfl TI26 rfl h3 ?_)
      refine WL.c rfl (o_ld TI26 rfl rfl (cell_of hC3 rfl) ?_)
      refine WL.c rfl (o_mvh h8 ?_)
      refine WL.c rfl (o_ixB TI26 TI40 rfl rfl (by omega) ?_)
      refine WL.c rfl (o_fa 2 TI40 rfl TI38 rfl rfl ?_)
      refine WL.c rfl (o_ld TI38 rfl rfl (htc 2 _ rfl) ?_)
      refine WL.c rfl (o_lenR TI38 rfl hty ?_)
      refine WL.c rfl (o_ne rfl rfl ?_)
      refine WL.nil ?_
      refine W.condF' rfl (by rw [pl_len _ _ _ _ _ htw]; simp) ?_
      refine W.skip ?_
      refine W.region ?_
      refine WL.c rfl (o_mvh h7 ?_)
      refine WL.c rfl (o_call Try.call17 (lc rfl (lc rfl ln)) ((put_f HH HH _ _ ([59, 10]) _ hM (by simp; omega)).mono ?_))
      rintro v80 w80 ⟨vm80, hM2, ho80⟩
      replace hDe := hDe.only ho80 (fun k hk hF => by have h1 := hlt k (by rw [← hEl]; exact hk); have h2 := hF.1; omega)
      replace hC3 := ho80.blk hC3 (fun hF => by have h2 := hF.1; omega)
      replace hx := hx.trans' ho80 (fun _ h => h) (fun k hk hF => by have h2 := hF.1; omega)
      clear hM
      have hM := hM2
      clear hM2
      refine WL.nil ?_
      refine W.region ?_
      refine WL.c rfl (o_mvh h8 ?_)
      refine WL.c rfl (o_addi rfl rfl (by omega) ?_)
      refine WL.c rfl (o_ash (show _ = Value.int _ _ from rfl) ?_)
      refine WL.nil ?_
      refine ⟨⟨wrDef b (nm0, t), P ++ [plDef b (nm0, t)], C, rest, vm80, by simp at hlen ⊢; omega, fun q hq => hws1 q (List.mem_cons_of_mem _ hq), hmap1, hwq, by rw [hpq]; simp [plDefs], ?_, fun d hd => hszC d (List.mem_cons_of_mem _ hd), h3, h7, ?_, hC3, ?_, ?_, hx⟩, ?_⟩
      · rw [hwd, List.length_append]; simp at hblw ⊢; omega
      · refine congrArg (fun z : Nat => Value.int .i64 (z : Int)) ?_; simp
      · rw [List.append_assoc]; exact hDe
      · rw [hwd]; exact hM
      · show D.length - ((P.length : Int) + 1).toNat < _
        rw [hm8]; simp [intOf]; omega
    · try simp only [decide_eq_true_eq, decide_eq_false_iff_not, Bool.not_eq_true', Bool.not_eq_false', Bool.and_eq_true, Bool.or_eq_true, Bool.and_eq_false_iff, Bool.or_eq_false_iff] at c30
      have hC0 : C = [] := by cases C with
        | nil => rfl
        | cons d C2 => simp at hlen; omega
      subst hC0
      have hr0 : rest = [] := by cases rest with
        | nil => rfl
        | cons d C2 => simp at hmap1
      subst hr0
      have hwb : wrDefs [] l = b := hwq
      have hpb : plDefs [] l = P := by rw [hpq]; simp [plDefs]
      refine W.exit ?_
      refine W.seq ?_
      refine W.seq ?_
      refine W.region ?_
      refine WL.c rfl (o_mvh h7 ?_)
      refine WL.c rfl (o_nil rfl ?_)
      refine WL.c rfl (o_fa 0 TI45 rfl TI43 rfl rfl ?_)
      refine WL.c rfl (o_ld TI43 rfl rfl (cell_of hM.cell rfl) ?_)
      refine WL.c rfl (o_lenR TI43 rfl (Sl.own hM.row) ?_)
      refine WL.c rfl (o_gt rfl rfl ?_)
      refine WL.nil ?_
      refine W.cond rfl (fun c86 => ?_) (fun c86 => ?_)
      · try simp only [decide_eq_true_eq, decide_eq_false_iff_not, Bool.not_eq_true', Bool.not_eq_false', Bool.and_eq_true, Bool.or_eq_true, Bool.and_eq_false_iff, Bool.or_eq_false_iff] at c86
        refine W.seq ?_
        refine W.region ?_
        refine WL.c rfl (o_ash (show _ = Value.bool _ from rfl) ?_)
        refine WL.nil ?_
        refine W.ret ?_
        refine ret1v rfl (show _ = Value.bool _ from rfl) ?_
        exact ⟨rfl, hx⟩
      · try simp only [decide_eq_true_eq, decide_eq_false_iff_not, Bool.not_eq_true', Bool.not_eq_false', Bool.and_eq_true, Bool.or_eq_true, Bool.and_eq_false_iff, Bool.or_eq_false_iff] at c86
        have hb16 : b.length ≤ 65536 := by omega
        have hpk := parse_back (l := l) hws (by have := congrArg List.length hmap; simp at this; omega) (by rw [hwb]; exact hb16)
        rw [hwb, hpb] at hpk
        refine W.skip ?_
        refine W.seq ?_
        refine W.region ?_
        refine WL.c rfl (o_mvh h7 ?_)
        refine WL.c rfl (o_nil rfl ?_)
        refine WL.c rfl (o_fa 0 TI45 rfl TI43 rfl rfl ?_)
        refine WL.c rfl (o_ld TI43 rfl rfl (cell_of hM.cell rfl) ?_)
        refine WL.c rfl (o_cvBS (xs := b) TI43 TI5 TI9 rfl (Sl.own hM.row) ?_)
        refine WL.c rfl (o_call Try.call19 (lc rfl ln) ((parse_spec b _ (by omega)).mono ?_))
        rintro v93 w93 ⟨dv93, V93, rfl, hD93, hxp93⟩
        replace hx := hx.tr hxp93
        replace hC3 := hxp93.blk hC3 (fun h => h)
        replace hDe := hDe.ext hxp93
        refine WL.c rfl (o_mvh (by first | exact (show _ = Value.tuple _ from rfl) | exact rfl) ?_)
        refine WL.c rfl (o_ext rfl rfl ?_)
        refine WL.c rfl (o_ext rfl rfl ?_)
        refine WL.c rfl (o_alB TI28 ?_)
        intro wa hCs hxs hss
        refine WL.c rfl (o_alB TI49 ?_)
        intro wb hCf hxf hsf
        replace hCs := hxf.blk hCs (fun h => h)
        refine WL.u (o_stA TI28 rfl (show _ = Value.agg #[dv93] from rfl) rfl (by simp [own_one hD93.row]) hCs rfl ?_)
        intro wc hB10 hos hsz
        replace hCf := hos.blk hCf (by omega)
        refine WL.u (o_stA TI49 rfl (show _ = Value.agg (faultV (parseA b).2.1 (parseA b).2.2) from rfl) rfl rfl hCf rfl ?_)
        intro w11z hB11 hof hsz2
        replace hB10 := hof.blk hB10 (by omega)
        have hxn : Ext w93 w11z := ((hxs.tr hxf).trans' hos (fun _ h => h) (fun k hk he => by omega)).trans' hof (fun _ h => h) (fun k hk he => by omega)
        obtain ⟨b10, hb10⟩ : ∃ b, b = w93.heap.size := ⟨_, rfl⟩
        obtain ⟨b11, hb11⟩ : ∃ b, b = wa.heap.size := ⟨_, rfl⟩
        rw [← hb10] at hB10 ⊢
        rw [← hb11] at hB11 ⊢
        clear hCs hCf hos hof
        replace hx := hx.tr hxn
        replace hC3 := hxn.blk hC3 (fun h => h)
        replace hDe := hDe.ext hxn
        replace hD93 := hD93.ext hxn
        clear hxn
        rw [hpk] at hB11 hD93
        replace hB11 : w11z.heap[b11]? = some (.cells #[.int .i64 0, .int .i64 0] 49 (0, 0)) := hB11
        refine WL.nil ?_
        refine W.seq ?_
        refine W.region ?_
        refine WL.c rfl (o_ldA TI49 rfl rfl (cells_all hB11) rfl ?_)
        refine WL.c rfl (o_bldC (cs := [(.int .i64 0), (.int .i64 0)]) TI49 (Sizes.cons TI32 (Sizes.cons TI3 Sizes.nil)) rfl lnp rfl rfl ?_)
        refine WL.c rfl (o_eqR TI49 (by kernel_rfl) (by kernel_rfl) rfl rfl (.int TI32 (by decide) rfl rfl (.int TI3 (by decide) rfl rfl .nil)) ?_)
        refine WL.c rfl (o_mvh (show _ = Value.bool _ from rfl) ?_)
        refine WL.g rfl (by decide) rfl (o_ldA TI28 rfl h3 (show Cells _ c3 0 [Value.slice (some ⟨gg, 0, none⟩) D.length capg] from Cells.of hC3 0 _ (by simp)) rfl ?_)
        refine WL.g rfl (by decide) rfl (o_ldA TI28 rfl rfl (show Cells _ b10 0 [dv93] from Cells.of hB10 0 _ (by simp)) rfl ?_)
        refine WL.g rfl (by decide) rfl (o_call Try.call20 (lc rfl (lc rfl (lc rfl ln))) ((same_spec P P (Value.slice (some ⟨gg, 0, none⟩) D.length capg) dv93 V2 V93 _ (by have := hDe.rd; rwa [List.append_nil] at this) hD93.rd (by simp at hlen; omega) (fun d hd => by have := pl_ex D l [] hws hmap hszD d (by rw [hpb]; exact hd); omega)).mono ?_))
        rintro v102 w102 ⟨rfl, hx102⟩
        replace hx := hx.tr hx102
        refine WL.c rfl (o_pickA rfl rfl ?_)
        refine WL.c rfl (o_ash (show _ = Value.bool _ from rfl) ?_)
        refine WL.nil ?_
        refine W.ret ?_
        refine ret1v rfl (show _ = Value.bool _ from rfl) ?_
        exact ⟨congrArg Value.bool (by simp), hx⟩
end Go.Proofs.Ytcljkkfpcomdcaa

set_option linter.unusedSimpArgs false
set_option linter.unusedVariables false
set_option maxRecDepth 100000
namespace Go.Proofs.Ytcljkkfpcomdcaa
open Go Go.Vc Go.RowKit Go.Proofs

/-- its bulk is bounded -/
def Blk {H : Type} (d : DataW H) : Prop := Rows.uptoBulk d ≤ 1048576
theorem bulk_mem {H : Type} : ∀ {l : List (DataW H)} {d : DataW H}, d ∈ l → Rows.uptoBulk d ≤ Rows.uptoBulkAll l
  | d0 :: l, d, h => by
    rw [Rows.uptoBulkAll]
    rcases List.mem_cons.1 h with rfl | h
    · omega
    · have := bulk_mem h; omega
theorem bulk_pos {H : Type} (d : DataW H) : 1 ≤ Rows.uptoBulk d := by
  cases d with
  | lit x => cases x <;> simp [Rows.uptoBulk]
  | _ => simp [Rows.uptoBulk]
theorem bulk_len {H : Type} : ∀ l : List (DataW H), l.length ≤ Rows.uptoBulkAll l
  | [] => Nat.zero_le _
  | d :: l => by rw [Rows.uptoBulkAll, List.length_cons]; have := bulk_len l; have := bulk_pos d; omega
theorem Blk.elem {H : Type} {elems spare : List (DataW H)} {d : DataW H} (h : Blk (.slice elems spare)) (hd : d ∈ elems) : Blk d := by
  have := bulk_mem hd; unfold Blk at h ⊢; rw [Rows.uptoBulk] at h; omega
theorem Blk.part {H : Type} {parts : List (DataW H)} {i : Nat} {d : DataW H} (h : Blk (.agg parts)) (hd : parts[i]? = some d) : Blk d := by
  have := bulk_mem (List.mem_of_getElem? hd); unfold Blk at h ⊢; rw [Rows.uptoBulk] at h; omega
theorem Blk.size {H : Type} {elems spare : List (DataW H)} (h : Blk (.slice elems spare)) : elems.length ≤ 1048576 := by
  have := bulk_len elems; unfold Blk at h; rw [Rows.uptoBulk] at h; omega
section
variable {H : Type} {enc : TypeId × Value → H} {P : Program} {W : World} {held : Bool}
/-- a slice of what is opened by 'hc' -/
theorem open_rowsQ {α : Type} {t e : TypeId} (s : Nat) (cells : α → List Value) (p : α → Prop) (hu : P.underlying t = some (.slice e)) (hs : P.cellsOf e = s) (hs0 : 0 < s) (hlen : ∀ o, (cells o).length = s)
    (hc : ∀ (n : Nat) (cs : List Value) (y : DataW H × List MemPlace), DataW.trod enc P W 0 (fun _ => true) held n e cs = some y → Blk y.1 → ∃ o, cs = cells o ∧ p o)
    {fuel : Nat} {v : Value} {x : DataW H × List MemPlace} (h : DataW.trod enc P W 0 (fun _ => true) held fuel t [v] = some x) (hz : Blk x.1) :
    ∃ os : List α, os.length ≤ maxLen ∧ Sl W s v os.length (os.flatMap cells) ∧ ∀ o ∈ os, p o := by
  rcases DataW.trod_slice hu h with ⟨hcs, hd⟩ | ⟨a, len, cap, elems, rest, n, -, hcs, hx, -, hl, hm, hle, hel, -, -⟩
  · simp only [List.cons.injEq, and_true] at hcs
    subst hcs
    exact ⟨[], Nat.zero_le _, Sl.nil W s, fun o h => by cases h⟩
  · simp only [List.cons.injEq, and_true] at hcs
    subst hcs
    subst hx
    have key : ∀ i, i < len → ∃ o : α, (∀ j v, (cells o)[j]? = some v → W.cell? (a.add (i * s + j)) = some v) ∧ p o := by
      intro i hi
      have he := hel i hi
      rw [List.getElem?_eq_getElem (by omega), hs, Option.bind_eq_some_iff] at he
      obtain ⟨cs, h1, h2⟩ := he
      obtain ⟨-, h4, h5⟩ := World.cells?_some h1
      obtain ⟨o, ho, hp⟩ := hc n cs _ h2 (hz.elem (List.mem_map.2 ⟨_, List.getElem_mem (by omega), rfl⟩))
      subst ho
      refine ⟨o, fun j v hj => ?_, hp⟩
      have hjs : j < s := by have := (List.getElem?_eq_some_iff.1 hj).1; rw [hlen] at this; exact this
      have := h5 j hjs
      rw [← hj, ← this, addr_add]
    obtain ⟨os, ho1, ho2⟩ := list_of _ len key
    refine ⟨os, by omega, ⟨?_, ?_⟩, fun o ho => ?_⟩
    · clear ho2 ho1
      induction os with
      | nil => simp
      | cons o os ih => rw [List.flatMap_cons, List.length_append, hlen, ih, List.length_cons, Nat.add_mul]; omega
    · by_cases h0 : len = 0
      · subst h0; exact .inl ⟨ho1, _, _, rfl⟩
      · obtain ⟨b, off, spot⟩ := a
        have h00 := (ho2 0 (by omega)).1 0 ((cells (os[0]'(by omega)))[0]'(by rw [hlen]; exact hs0)) (List.getElem?_eq_getElem _)
        have hsp : spot = none := by simpa [Addr.add] using World.cell?_spot h00
        subst hsp
        refine .inr ⟨b, off, cap, by rw [ho1], by omega, fun idx u hu => ?_⟩
        obtain ⟨i, j, hi, h1, h2⟩ := flatMap_get hlen os idx u hu
        have h3 := (ho2 i hi).1 j u h2
        rw [h1, ← h3, add_none]
    · obtain ⟨i, hi, rfl⟩ := List.getElem_of_mem ho
      exact (ho2 i hi).2
/-- a struct's field -/
theorem open_fieldQ {t u : TypeId} {fs : Array Field} {f : Field} (i off s : Nat) (hu : P.underlying t = some (.struct fs)) (hf : fs[i]? = some f) (ht : f.type = u) (ho : f.offset = off) (hs : P.cellsOf u = s) {fuel : Nat} {cs : List Value} {x : DataW H × List MemPlace}
    (h : DataW.trod enc P W 0 (fun _ => true) held fuel t cs = some x) (hz : Blk x.1) : ∃ n y, DataW.trod enc P W 0 (fun _ => true) held n u ((cs.drop off).take s) = some y ∧ Blk y.1 := by
  subst ht ho hs
  obtain ⟨xs, n, -, hx, -, hl, hall⟩ := DataW.trod_struct hu h
  have hi : i < fs.size := (Array.getElem?_eq_some_iff.1 hf).1
  have h1 := hall i f hf
  rw [List.getElem?_eq_getElem (by omega)] at h1
  refine ⟨n, _, h1, ?_⟩
  subst hx
  refine hz.part (i := i) ?_
  · rw [List.getElem?_map, List.getElem?_eq_getElem (by omega)]; rfl

theorem rows_lenQ {t e : TypeId} (hu : P.underlying t = some (.slice e)) {fuel : Nat} {a : Option Addr} {n c : Nat} {x : DataW H × List MemPlace}
    (h : DataW.trod enc P W 0 (fun _ => true) held fuel t [.slice a n c] = some x) (hz : Blk x.1) : n ≤ 1048576 := by
  rcases DataW.trod_slice hu h with ⟨hcs, hd⟩ | ⟨a', len, cap, elems, rest, k, -, hcs, hx, -, hl, hm, hle, hel, -, -⟩
  · simp only [List.cons.injEq, and_true, Value.slice.injEq] at hcs
    omega
  · simp only [List.cons.injEq, and_true, Value.slice.injEq] at hcs
    subst hx
    have h1 := hz.size
    simp only [List.length_map, List.length_take] at h1
    omega
theorem open_exprQ {n : Nat} {cs : List Value} {y : DataW H × List MemPlace} (h : DataW.trod enc Try.prog W 0 (fun _ => true) held n 30 cs = some y) (hz : Blk y.1) : ∃ x : Ex, cs = exV x ∧ ExOk x := by
  have hl := open_struct_len (s := 7) Try.underlying30 (by kernel_rfl) h
  obtain ⟨a, b, c, d, e, f, g, rfl⟩ := seven_cells hl
  obtain ⟨n0, y0, h0, -⟩ := open_fieldQ 0 0 1 Try.underlying30 rfl rfl rfl (by kernel_rfl) h hz
  obtain ⟨n1, y1, h1, -⟩ := open_fieldQ 1 1 1 Try.underlying30 rfl rfl rfl (by kernel_rfl) h hz
  obtain ⟨n2, y2, h2, -⟩ := open_fieldQ 2 2 1 Try.underlying30 rfl rfl rfl (by kernel_rfl) h hz
  obtain ⟨n3, y3, h3, -⟩ := open_fieldQ 3 3 1 Try.underlying30 rfl rfl rfl (by kernel_rfl) h hz
  obtain ⟨n4, y4, h4, -⟩ := open_fieldQ 4 4 1 Try.underlying30 rfl rfl rfl (by kernel_rfl) h hz
  obtain ⟨n5, y5, h5, -⟩ := open_fieldQ 5 5 1 Try.underlying30 rfl rfl rfl (by kernel_rfl) h hz
  obtain ⟨n6, y6, h6, -⟩ := open_fieldQ 6 6 1 Try.underlying30 rfl rfl rfl (by kernel_rfl) h hz
  obtain ⟨k0, e0, -, -⟩ := DataW.trod_int Try.underlying3 h0
  obtain ⟨k1, e1, -, -⟩ := DataW.trod_int Try.underlying3 h1
  obtain ⟨k2, e2, -, l2⟩ := DataW.trod_string Try.underlying9 h2
  obtain ⟨k3, e3, -, l3⟩ := DataW.trod_string Try.underlying9 h3
  obtain ⟨k4, e4, -, -⟩ := DataW.trod_int Try.underlying3 h4
  obtain ⟨k5, e5, -, -⟩ := DataW.trod_int Try.underlying3 h5
  obtain ⟨k6, e6, -, -⟩ := DataW.trod_int Try.underlying3 h6
  simp only [List.drop_zero, List.drop_succ_cons, List.take_succ_cons, List.take_zero, List.cons.injEq, and_true] at e0 e1 e2 e3 e4 e5 e6
  refine ⟨⟨k0, k1, k2.data.toList, k3.data.toList, k4, k5, k6⟩, ?_, size_list l2, size_list l3⟩
  rw [e0, e1, e2, e3, e4, e5, e6, str_list, str_list]
  rfl

theorem open_exprsQ {n : Nat} {v : Value} {y : DataW H × List MemPlace} (h : DataW.trod enc Try.prog W 0 (fun _ => true) held n 38 [v] = some y) (hz : Blk y.1) :
    ∃ l : List Ex, Sl W 7 v l.length (exs l) ∧ l.length ≤ 1048576 ∧ ∀ x ∈ l, ExOk x := by
  obtain ⟨l, -, h1, h2⟩ := open_rowsQ 7 exV ExOk Try.underlying38 (by kernel_rfl) (by decide) (fun _ => rfl) (fun n cs y hy hz => open_exprQ hy hz) (v := v) h hz
  refine ⟨l, h1, ?_, h2⟩
  obtain ⟨a, c, rfl⟩ := h1.isSlice
  exact rows_lenQ Try.underlying38 h hz
def DfOkQ (W : World) (o : DfV) : Prop := Sl W 7 o.2 o.1.ty.length (exs o.1.ty) ∧ o.1.name.length ≤ 9223372036854775807 ∧ o.1.ty.length ≤ 1048576 ∧ ∀ x ∈ o.1.ty, ExOk x
theorem open_defQ {n : Nat} {cs : List Value} {y : DataW H × List MemPlace} (h : DataW.trod enc Try.prog W 0 (fun _ => true) held n 40 cs = some y) (hz : Blk y.1) : ∃ o : DfV, cs = dfV o ∧ DfOkQ W o := by
  have hl := open_struct_len (s := 3) Try.underlying40 (by kernel_rfl) h
  obtain ⟨a, b, c, rfl⟩ := three_cells hl
  obtain ⟨n0, y0, h0, -⟩ := open_fieldQ 0 0 1 Try.underlying40 rfl rfl rfl (by kernel_rfl) h hz
  obtain ⟨n1, y1, h1, -⟩ := open_fieldQ 1 1 1 Try.underlying40 rfl rfl rfl (by kernel_rfl) h hz
  obtain ⟨n2, y2, h2, z2⟩ := open_fieldQ 2 2 1 Try.underlying40 rfl rfl rfl (by kernel_rfl) h hz
  obtain ⟨k0, e0, -, l0⟩ := DataW.trod_string Try.underlying9 h0
  obtain ⟨k1, e1, -, -⟩ := DataW.trod_int Try.underlying3 h1
  obtain ⟨l, hS, hb, hok⟩ := open_exprsQ h2 z2
  simp only [List.drop_zero, List.drop_succ_cons, List.take_succ_cons, List.take_zero, List.cons.injEq, and_true] at e0 e1
  refine ⟨(⟨k0.data.toList, k1, l⟩, c), ?_, hS, size_list l0, hb, hok⟩
  rw [e0, e1, str_list]
  rfl
theorem open_sourceQ {n : Nat} {cs : List Value} {y : DataW H × List MemPlace} (h : DataW.trod enc Try.prog W 0 (fun _ => true) held n 28 cs = some y) (hz : Blk y.1) : ∃ D dv V, cs = [dv] ∧ DefR W D dv V ∧ DOk D ∧ ∀ d ∈ D, d.ty.length ≤ 1048576 := by
  have hl := open_struct_len (s := 1) Try.underlying28 (by kernel_rfl) h
  obtain ⟨a, rfl⟩ := List.length_eq_one_iff.1 hl
  obtain ⟨n0, y0, h0, z0⟩ := open_fieldQ 0 0 1 Try.underlying28 rfl rfl rfl (by kernel_rfl) h hz
  simp only [List.drop_zero, List.take_succ_cons, List.take_zero] at h0
  obtain ⟨os, -, h1, h2⟩ := open_rowsQ 3 dfV (DfOkQ W) Try.underlying26 (by kernel_rfl) (by decide) (fun _ => rfl) (fun n cs y hy hz => open_defQ hy hz) (v := a) h0 z0
  have hb : os.length * 48 ≤ 140737488351232 := by
    obtain ⟨b, c, rfl⟩ := h1.isSlice
    have := rows_lenQ Try.underlying26 h0 z0
    omega
  have hg : ∀ j (hj : j < os.length), (os.map Prod.fst).getD j df0 = os[j].1 := fun j hj => by simp [List.getD_eq_getElem?_getD, hj]
  have hr : drows (os.map Prod.fst) (fun j => (os.getD j (df0, undef)).2) = os.flatMap dfV := by
    rw [drows, List.length_map]
    have : ∀ (n : Nat), n ≤ os.length → ((List.range n).flatMap fun j => dcell ((os.map Prod.fst).getD j df0) ((os.getD j (df0, undef)).2)) = (os.take n).flatMap dfV := by
      intro n
      induction n with
      | zero => intro _; rfl
      | succ n ih =>
        intro hn
        rw [List.range_succ, List.flatMap_append, ih (by omega), List.flatMap_singleton, hg n hn, List.take_add_one, List.flatMap_append]
        simp [List.getD_eq_getElem?_getD, List.getElem?_eq_getElem (show n < os.length by omega), dfV]
    rw [this _ (Nat.le_refl _), List.take_length]
  refine ⟨os.map Prod.fst, a, fun j => (os.getD j (df0, undef)).2, rfl, ⟨?_, fun j hj => ?_⟩, ⟨by rw [List.length_map]; exact hb, ?_, ?_, ?_⟩, ?_⟩
  · rw [hr, List.length_map]; exact h1
  · have hj' : j < os.length := by simpa using hj
    have := h2 os[j] (List.getElem_mem hj')
    rw [tyD, hg j hj']
    have e : (os.getD j (df0, undef)) = os[j] := by simp [List.getD_eq_getElem?_getD, hj']
    rw [e]
    exact this.1
  all_goals
    intro d hd
    obtain ⟨o, ho, rfl⟩ := List.mem_map.1 hd
    obtain ⟨-, g1, g2, g3⟩ := h2 o ho
    first | omega | exact g1 | exact g3
end

end Go.Proofs.Ytcljkkfpcomdcaa
