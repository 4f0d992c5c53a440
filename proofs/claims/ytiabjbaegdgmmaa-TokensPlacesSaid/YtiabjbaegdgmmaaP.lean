/-
  Walks. Written by program out of specs of mine.
-/
import Derived.Test.YtiabjbaegdgmmaaO
set_option linter.unusedSimpArgs false
set_option linter.unusedVariables false
namespace Go.Proofs.Ytiabjbaegdgmmaa
open Go Go.Vc Go.RowKit Go.Proofs
set_option maxHeartbeats 1000000 in
theorem places_walk0 (w0 : World) (xs : List UInt8) (hlen : xs.length ≤ 9223372036854775807) : Ca Try.prog 5 #[st xs] w0 (fun v w' => v = .bool true ∧ Ext w0 w') := by
  refine Ca.of Try.func5 Try.ntmps5 rfl rfl ?_
  refine W.seq ?_
  refine W.region ?_
  refine WL.c rfl (o_as ?_)
  refine WL.nil ?_
  refine W.seq ?_
  refine W.seq ?_
  refine W.region ?_
  refine WL.c rfl (o_call Try.call9 ln ((first_spec _).mono ?_))
  rintro v10 w10 ⟨rfl, hx⟩
  refine WL.c rfl (o_not' rfl ?_)
  refine WL.nil ?_
  refine W.condF' rfl (rfl) ?_
  refine W.skip ?_
  refine W.seq ?_
  refine W.region ?_
  refine WL.c rfl (o_mv ?_)
  refine WL.c rfl (o_call Try.call15 (lc rfl ln) ((cut_spec (xs) _ (by omega)).mono ?_))
  rintro v14 w14 ⟨vA, rfl, ownA, hx14⟩
  replace hx := hx.tr hx14
  have hzA := hx.size
  have ownA_lt := ownA.lt
  refine WL.c rfl (o_mv ?_)
  refine WL.c rfl (o_ext rfl rfl ?_)
  refine WL.c rfl (o_ext rfl rfl ?_)
  refine WL.c rfl (o_alB TI29 ?_)
  intro wa4 hFA hxa hsa
  replace ownA := own_ext ownA hxa
  replace hx := hx.tr hxa
  refine WL.c rfl (o_as ?_)
  refine WL.u (o_stA TI29 rfl rfl rfl rfl hFA rfl ?_)
  intro wb4 hFA hob hsb
  replace ownA := own_only ownA hob (fun j hj he => by have := (ownA_lt j hj).2; omega)
  replace hx := Ext.own hx hzA hob
  clear hob hsb hxa hsa
  refine WL.nil ?_
  refine W.seq ?_
  refine W.seq ?_
  rcases cutA_cases xs with ⟨hA, hl⟩ | ⟨hl, h0, hA⟩ | ⟨hl, h50, hA⟩
  · skip
    rw [hA] at hFA ownA
    refine W.region ?_
    refine WL.c rfl (o_fa 0 TI29 rfl TI27 rfl rfl ?_)
    refine WL.c rfl (o_ld TI27 rfl rfl (cell_of hFA rfl) ?_)
    refine WL.c rfl (o_ne rfl rfl ?_)
    refine WL.nil ?_
    refine W.condT' rfl (by simp) ?_
    refine W.seq ?_
    refine W.region ?_
    refine WL.c rfl (o_mv ?_)
    refine WL.c rfl (o_lenR TI26 rfl (Sl.own ownA) ?_)
    refine WL.c rfl (o_eq rfl rfl ?_)
    refine WL.c rfl (o_mv ?_)
    refine WL.g rfl (by simp) rfl (o_fa 1 TI29 rfl TI3 rfl rfl ?_)
    refine WL.g rfl (by simp) rfl (o_ld TI3 rfl rfl (cell_of hFA rfl) ?_)
    refine WL.g rfl (by simp) rfl (o_ge rfl rfl ?_)
    refine WL.c rfl (o_pickA rfl rfl ?_)
    refine WL.c rfl (o_mv ?_)
    refine WL.g rfl (by simp) rfl (o_fa 1 TI29 rfl TI3 rfl rfl ?_)
    refine WL.g rfl (by simp) rfl (o_ld TI3 rfl rfl (cell_of hFA rfl) ?_)
    refine WL.g rfl (by simp) rfl (o_mv ?_)
    refine WL.g rfl (by simp) rfl (o_lenT TI9 rfl ?_)
    refine WL.g rfl (by simp) rfl (o_le rfl rfl ?_)
    refine WL.c rfl (o_pickA rfl rfl ?_)
    refine WL.c rfl (o_as ?_)
    refine WL.nil ?_
    refine W.ret ?_
    refine ret1v rfl (show _ = Value.bool _ from rfl) ?_
    exact ⟨congrArg Value.bool (by simp), hx⟩
  · skip
    rw [hA, show cutL xs 0 = ((cutL xs 0).1, 0, 0) from by rw [← h0]] at hFA ownA
    have hcu : cutL xs 0 = ((cutL xs 0).1, 0, 0) := by rw [← h0]
    generalize (cutL xs 0).1 = ts at hFA ownA hcu
    have hcnt := cutL_count xs 0 (Nat.zero_le _)
    rw [hcu] at hcnt
    replace hcnt : ts.length ≤ xs.length := hcnt
    refine W.region ?_
    refine WL.c rfl (o_fa 0 TI29 rfl TI27 rfl rfl ?_)
    refine WL.c rfl (o_ld TI27 rfl rfl (cell_of hFA rfl) ?_)
    refine WL.c rfl (o_ne rfl rfl ?_)
    refine WL.nil ?_
    refine W.condF' rfl (by simp) ?_
    refine W.skip ?_
    refine W.seq ?_
    refine W.region ?_
    refine WL.c rfl (o_as ?_)
    refine WL.nil ?_
    refine W.seq ?_
    refine W.seq ?_
    refine W.region ?_
    refine WL.c rfl (o_as ?_)
    refine WL.nil ?_
    refine W.block ?_
    refine W.loop (fun e w => ∃ (i fr : Nat) (pr us : List Tk), ts = pr ++ us ∧ pr.length = i ∧ fr ≤ xs.length ∧ cutL xs fr = (us, 0, 0) ∧ e 0 = st xs ∧ e 3 = vA ∧ e 4 = .pointer (some ⟨w14.heap.size, 0, none⟩) ∧ e 5 = .int .i64 (fr : Int) ∧ e 6 = .int .i64 (i : Int) ∧ w.heap[w14.heap.size]? = some (.cells (faultV 0 0) 29 (0, 0)) ∧ w.ownsRow w10.heap.size 33 5 vA ts.length (flat ts) ∧ Ext w0 w) (fun e w => ts.length - (intOf (e 6)).toNat) ?_ ?_
    · exact ⟨0, 0, [], ts, rfl, rfl, Nat.zero_le _, hcu, rfl, rfl, rfl, rfl, rfl, hFA, ownA, hx⟩
    rintro e w ⟨i, fr, pr, us, hts, hpr, hfr, hcu1, h0, h3, h4, h5, h6, hFA, own, hx⟩
    have hm6 := h6
    have h3v := h3
    refine W.seq ?_
    refine W.seq ?_
    rcases cutL_next xs fr hfr us hcu1 with ⟨rfl, rm, hrm⟩ | ⟨t, us1, hat, rfl, hle, hgp, hon, hcn, h1, h2, hbl, h35⟩
    · skip
      simp only [List.append_nil] at hts
      subst hts
      refine W.region ?_
      refine WL.c rfl (o_mvh h6 ?_)
      refine WL.c rfl (o_mvh h3 ?_)
      refine WL.c rfl (o_lenR TI26 rfl (Sl.own own) ?_)
      refine WL.c rfl (o_lt rfl rfl ?_)
      refine WL.nil ?_
      refine W.condF' rfl (by simp <;> omega) ?_
      refine W.exit ?_
      refine W.seq ?_
      refine W.region ?_
      refine WL.c rfl (o_fa 1 TI29 rfl TI3 rfl h4 ?_)
      refine WL.c rfl (o_ld TI3 rfl rfl (cell_of hFA rfl) ?_)
      refine WL.c rfl (o_eq rfl rfl ?_)
      refine WL.c rfl (o_mv ?_)
      refine WL.g rfl (by simp) rfl (o_mvh h0 ?_)
      refine WL.g rfl (by simp) rfl (o_mvh h5 ?_)
      refine WL.g rfl (by simp) rfl (o_ssT TI9 rfl (Lo.s rfl) Hi.n hfr (Nat.le_refl _) ?_)
      refine WL.g rfl (by simp) rfl (o_call Try.call16 (lc rfl (lc rfl ln)) ((gap_spec ((xs.take xs.length).drop fr) true _ (by simp; omega)).mono ?_))
      rintro v127 w127 ⟨rfl, rfl⟩
      refine WL.c rfl (o_pickA rfl rfl ?_)
      refine WL.c rfl (o_as ?_)
      refine WL.nil ?_
      refine W.ret ?_
      refine ret1v rfl (show _ = Value.bool _ from rfl) ?_
      exact ⟨congrArg Value.bool (by rw [List.take_length, gapB, hrm]; simp), hx⟩
    · skip
      have hil : i < ts.length := by rw [hts]; simp; omega
      have hti : ts[i] = t := by simp [hts, ← hpr]
      refine W.region ?_
      refine WL.c rfl (o_mvh h6 ?_)
      refine WL.c rfl (o_mvh h3 ?_)
      refine WL.c rfl (o_lenR TI26 rfl (Sl.own own) ?_)
      refine WL.c rfl (o_lt rfl rfl ?_)
      refine WL.nil ?_
      refine W.condT' rfl (by simp <;> omega) ?_
      refine W.skip ?_
      refine W.seq ?_
      refine W.block ?_
      refine W.seq ?_
      have hFA_l2 := (Array.getElem?_eq_some_iff.1 hFA).1
      obtain ⟨b43, o43, c43, hv43, hc43⟩ := Sl.tok (Sl.own own) hil
      rw [hti] at hc43
      rw [hv43] at h3
      refine W.region ?_
      refine WL.c rfl (o_mvh h3 ?_)
      refine WL.c rfl (o_mvh h6 ?_)
      refine WL.c rfl (o_ixB TI26 TI33 rfl rfl (by omega) ?_)
      refine WL.c rfl (o_ldA TI33 rfl rfl hc43 rfl ?_)
      refine WL.c rfl (o_alB TI33 ?_)
      intro wa7 hB7 hx7 hs7
      replace hFA := hx7.blk hFA (fun h => h)
      have hFA_lt := (Array.getElem?_eq_some_iff.1 hFA).1
      have hlt := own.lt
      replace own := own_ext own hx7
      replace hx := hx.tr hx7
      refine WL.u (o_stA TI33 rfl (show _ = Value.agg (tokV t) from rfl) rfl rfl hB7 rfl ?_)
      intro wb7 hB7 ho7 hsb7
      replace hFA := ho7.blk hFA (by show ¬ _ = _; omega)
      replace own := own_only own ho7 (fun j hj he => by have := (hlt j hj).2; omega)
      replace hx := Ext.own hx (by have := hx.size; omega) ho7
      have hgap : gapB ((xs.take t.at_).drop fr) false = true := by rw [gapB, hgp]; rfl
      refine WL.nil ?_
      refine W.seq ?_
      refine W.seq ?_
      refine W.region ?_
      refine WL.c rfl (o_fa 3 TI33 rfl TI3 rfl rfl ?_)
      refine WL.c rfl (o_ld TI3 rfl rfl (cell_of hB7 rfl) ?_)
      refine WL.c rfl (o_mvh h5 ?_)
      refine WL.c rfl (o_lt rfl rfl ?_)
      refine WL.c rfl (o_mv ?_)
      refine WL.g rfl (by simp <;> omega) rfl (o_fa 4 TI33 rfl TI3 rfl rfl ?_)
      refine WL.g rfl (by simp <;> omega) rfl (o_ld TI3 rfl rfl (cell_of hB7 rfl) ?_)
      refine WL.g rfl (by simp <;> omega) rfl (o_fa 3 TI33 rfl TI3 rfl rfl ?_)
      refine WL.g rfl (by simp <;> omega) rfl (o_ld TI3 rfl rfl (cell_of hB7 rfl) ?_)
      refine WL.g rfl (by simp <;> omega) rfl (o_le rfl rfl ?_)
      refine WL.c rfl (o_pickO rfl rfl ?_)
      refine WL.c rfl (o_mv ?_)
      refine WL.g rfl (by simp <;> omega) rfl (o_fa 4 TI33 rfl TI3 rfl rfl ?_)
      refine WL.g rfl (by simp <;> omega) rfl (o_ld TI3 rfl rfl (cell_of hB7 rfl) ?_)
      refine WL.g rfl (by simp <;> omega) rfl (o_mvh h0 ?_)
      refine WL.g rfl (by simp <;> omega) rfl (o_lenT TI9 rfl ?_)
      refine WL.g rfl (by simp <;> omega) rfl (o_gt rfl rfl ?_)
      refine WL.c rfl (o_pickO rfl rfl ?_)
      refine WL.c rfl (o_mv ?_)
      refine WL.g rfl (by simp <;> omega) rfl (o_mvh h0 ?_)
      refine WL.g rfl (by simp <;> omega) rfl (o_mvh h5 ?_)
      refine WL.g rfl (by simp <;> omega) rfl (o_fa 3 TI33 rfl TI3 rfl rfl ?_)
      refine WL.g rfl (by simp <;> omega) rfl (o_ld TI3 rfl rfl (cell_of hB7 rfl) ?_)
      refine WL.g rfl (by simp <;> omega) rfl (o_ssT TI9 rfl (Lo.s rfl) (Hi.s rfl) hle (by omega) ?_)
      refine WL.g rfl (by simp <;> omega) rfl (o_call Try.call16 (lc rfl (lc rfl ln)) ((gap_spec ((xs.take t.at_).drop fr) false _ (by simp; omega)).mono ?_))
      rintro v69 w69 ⟨rfl, rfl⟩
      refine WL.g rfl (by simp <;> omega) rfl (o_not' rfl ?_)
      refine WL.c rfl (o_pickO rfl rfl ?_)
      refine WL.nil ?_
      refine W.condF' rfl (by simp [hgap] <;> omega) ?_
      refine W.skip ?_
      refine W.seq ?_
      refine W.region ?_
      refine WL.c rfl (o_mvh h0 ?_)
      refine WL.c rfl (o_fa 3 TI33 rfl TI3 rfl rfl ?_)
      refine WL.c rfl (o_ld TI3 rfl rfl (cell_of hB7 rfl) ?_)
      refine WL.c rfl (o_fa 4 TI33 rfl TI3 rfl rfl ?_)
      refine WL.c rfl (o_ld TI3 rfl rfl (cell_of hB7 rfl) ?_)
      refine WL.c rfl (o_ssT TI9 rfl (Lo.s rfl) (Hi.s rfl) (by omega) h2 ?_)
      refine WL.c rfl (o_call Try.call15 (lc rfl ln) ((cut_spec (sub xs t.at_ t.fin) _ (by have := sub_len xs t.at_ t.fin; omega)).mono ?_))
      rintro v79 w79 ⟨vB, rfl, ownB, hx79⟩
      replace own := own_ext own hx79
      replace hFA := hx79.blk hFA (fun h => h)
      replace hB7 := hx79.blk hB7 (fun h => h)
      replace hx := hx.tr hx79
      have hzB := hx.size
      have ownB_lt := ownB.lt
      have own_lt := own.lt
      have hFA_lt := (Array.getElem?_eq_some_iff.1 hFA).1
      have hB7_lt := (Array.getElem?_eq_some_iff.1 hB7).1
      refine WL.c rfl (o_mv ?_)
      refine WL.c rfl (o_ext rfl rfl ?_)
      refine WL.c rfl (o_ext rfl rfl ?_)
      refine WL.c rfl (o_alB TI29 ?_)
      intro wa9 hFB hxa hsa
      replace own := own_ext own hxa
      replace hFA := hxa.blk hFA (fun h => h)
      replace hB7 := hxa.blk hB7 (fun h => h)
      replace ownB := own_ext ownB hxa
      replace hx := hx.tr hxa
      refine WL.c rfl (o_as ?_)
      refine WL.u (o_stA TI29 rfl rfl rfl rfl hFB rfl ?_)
      intro wb9 hFB hob hsb
      replace own := own_only own hob (fun j hj he => by have := (own_lt j hj).2; omega)
      replace hFA := hob.blk hFA (by show ¬ _ = _; omega)
      replace hB7 := hob.blk hB7 (by show ¬ _ = _; omega)
      replace ownB := own_only ownB hob (fun j hj he => by have := (ownB_lt j hj).2; omega)
      replace hx := Ext.own hx hzB hob
      clear hob hsb hxa hsa
      refine WL.nil ?_
      refine W.seq ?_
      refine W.seq ?_
      have hoc := own_cut hat hon h1 h2 hbl h35 hl
      rw [hoc] at ownB hFB
      obtain ⟨b8, o8, c8, hv8, hc8⟩ := Sl.tok (ts := [⟨t.kind, t.text, t.n, 0, t.fin - t.at_⟩]) (k := 0) (Sl.own ownB) Nat.zero_lt_one
      subst hv8
      have hxd := hx.tr (Only.drew wb9)
      have hFBd := (Only.drew wb9).blk hFB (fun h => h)
      have hFAd := (Only.drew wb9).blk hFA (fun h => h)
      have hB7d := (Only.drew wb9).blk hB7 (fun h => h)
      have ownd := own_ext own (Only.drew wb9)
      have hc8d := hc8.only (Only.drew wb9) (fun h => h)
      refine W.draw (Ext) [(0, fun v _ => v = _), (3, fun v _ => v = _), (4, fun v _ => v = _), (5, fun v _ => v = _), (6, fun v _ => v = _), (7, fun v _ => v = _), (8, fun v _ => v = _), (9, fun v _ => v = _)] rfl (by kernel_rfl) (Only.refl No) (fun _ _ _ h k => h.trans k) ⟨Mono.eq, Mono.eq, Mono.eq, Mono.eq, Mono.eq, Mono.eq, Mono.eq, Mono.eq, trivial⟩ ⟨h0, h3, h4, h5, h6, rfl, rfl, rfl, trivial⟩ ?_
      refine WD.p rfl (fun e w hR hh => by obtain ⟨h9, -⟩ := hh; exact SG.n (o_ldA TI29 rfl h9 (cells_all (hR.blk hFBd (fun h => h))) rfl ⟨rfl, Only.refl No _⟩)) ?_
      refine WD.p rfl (fun e w hR hh => by skip; exact SG.n (o_bldC (cs := [(.int .i64 0), (.int .i64 0)]) TI29 (Sizes.cons TI27 (Sizes.cons TI3 Sizes.nil)) rfl lnp rfl rfl ⟨rfl, Only.refl No _⟩)) ?_
      refine WD.p rfl (fun e w hR hh => by obtain ⟨h83, h82, -⟩ := hh; exact SG.n (o_neR TI29 (by kernel_rfl) (by kernel_rfl) h82 h83 (.int TI27 (by decide) rfl rfl (.int TI3 (by decide) rfl rfl .nil)) ⟨rfl, Only.refl No _⟩)) ?_
      refine WD.p rfl (fun e w hR hh => by obtain ⟨h84, -⟩ := hh; exact SG.n (o_mvh h84 ⟨rfl, Only.refl No _⟩)) ?_
      refine WD.p rfl (fun e w hR hh => by obtain ⟨h85, h8, -⟩ := hh; exact SG.g h85 (by simp) (o_mvh h8 ⟨rfl, Only.refl No _⟩)) ?_
      refine WD.p rfl (fun e w hR hh => by obtain ⟨h86, h85, -⟩ := hh; exact SG.g h85 (by simp) (o_len TI26 h86 ⟨rfl, Only.refl No _⟩)) ?_
      refine WD.p rfl (fun e w hR hh => by obtain ⟨h87, h85, -⟩ := hh; exact SG.g h85 (by simp) (o_ne h87 rfl ⟨rfl, Only.refl No _⟩)) ?_
      refine WD.p rfl (fun e w hR hh => by obtain ⟨h88, h85, -⟩ := hh; exact SG.n (o_pickO h85 h88 ⟨rfl, Only.refl No _⟩)) ?_
      refine WD.p rfl (fun e w hR hh => by obtain ⟨h89, -⟩ := hh; exact SG.n (o_mvh h89 ⟨rfl, Only.refl No _⟩)) ?_
      refine WD.p rfl (fun e w hR hh => by obtain ⟨h90, h8, -⟩ := hh; exact SG.g h90 (by simp) (o_mvh h8 ⟨rfl, Only.refl No _⟩)) ?_
      refine WD.p rfl (fun e w hR hh => by obtain ⟨h91, h90, -⟩ := hh; exact SG.g h90 (by simp) (o_ixB (i := 0) TI26 TI33 h91 rfl (Nat.zero_lt_one) ⟨rfl, Only.refl No _⟩)) ?_
      refine WD.p rfl (fun e w hR hh => by obtain ⟨h92, h90, -⟩ := hh; exact SG.g h90 (by simp) (o_ldA TI33 rfl h92 (hc8d.only hR (fun h => h)) rfl ⟨rfl, Only.refl No _⟩)) ?_
      refine WD.p rfl (fun e w hR hh => by obtain ⟨h93, h90, -⟩ := hh; exact SG.g h90 (by simp) (o_call Try.call17 (lc h93 ln) ((bare_spec ⟨t.kind, t.text, t.n, 0, t.fin - t.at_⟩ _).mono (fun _ _ h => h)))) ?_
      refine WD.p rfl (fun e w hR hh => by obtain ⟨h90, h7, -⟩ := hh; exact SG.g h90 (by simp) (o_ldA TI33 rfl h7 (cells_all (hR.blk hB7d (fun h => h))) rfl ⟨rfl, Only.refl No _⟩)) ?_
      refine WD.p rfl (fun e w hR hh => by obtain ⟨h95, h90, -⟩ := hh; exact SG.g h90 (by simp) (o_call Try.call17 (lc h95 ln) ((bare_spec t _).mono (fun _ _ h => h)))) ?_
      refine WD.p rfl (fun e w hR hh => by obtain ⟨h96, h94, h90, -⟩ := hh; exact SG.g h90 (by simp) (o_neR TI33 (by kernel_rfl) (by kernel_rfl) h94 h96 (.int TI3 (by decide) rfl rfl (.str TI9 (by decide) rfl rfl (.int TI3 (by decide) rfl rfl (.int TI3 (by decide) rfl rfl (.int TI3 (by decide) rfl rfl .nil))))) ⟨rfl, Only.refl No _⟩)) ?_
      refine WD.p rfl (fun e w hR hh => by obtain ⟨h97, h90, -⟩ := hh; exact SG.n (o_pickO h90 h97 ⟨rfl, Only.refl No _⟩)) ?_
      refine WD.p rfl (fun e w hR hh => by obtain ⟨h98, -⟩ := hh; exact SG.n (o_mvh h98 ⟨rfl, Only.refl No _⟩)) ?_
      refine WD.p rfl (fun e w hR hh => by obtain ⟨h99, h8, -⟩ := hh; exact SG.g h99 (by simp) (o_mvh h8 ⟨rfl, Only.refl No _⟩)) ?_
      refine WD.p rfl (fun e w hR hh => by obtain ⟨h100, h99, -⟩ := hh; exact SG.g h99 (by simp) (o_ixB (i := 0) TI26 TI33 h100 rfl (Nat.zero_lt_one) ⟨rfl, Only.refl No _⟩)) ?_
      refine WD.p rfl (fun e w hR hh => by obtain ⟨h101, h99, -⟩ := hh; exact SG.g h99 (by simp) (o_fa 3 TI33 rfl TI3 rfl h101 ⟨rfl, Only.refl No _⟩)) ?_
      refine WD.p rfl (fun e w hR hh => by obtain ⟨h102, h99, -⟩ := hh; exact SG.g h99 (by simp) (o_ld TI3 rfl h102 ((hc8d.only hR (fun h => h)) 3 _ rfl) ⟨rfl, Only.refl No _⟩)) ?_
      refine WD.p rfl (fun e w hR hh => by obtain ⟨h103, h99, -⟩ := hh; exact SG.g h99 (by simp) (o_ne h103 rfl ⟨rfl, Only.refl No _⟩)) ?_
      refine WD.p rfl (fun e w hR hh => by obtain ⟨h104, h99, -⟩ := hh; exact SG.n (o_pickO h99 h104 ⟨rfl, Only.refl No _⟩)) ?_
      refine WD.p rfl (fun e w hR hh => by obtain ⟨h105, -⟩ := hh; exact SG.n (o_mvh h105 ⟨rfl, Only.refl No _⟩)) ?_
      refine WD.p rfl (fun e w hR hh => by obtain ⟨h106, h8, -⟩ := hh; exact SG.g h106 (by simp) (o_mvh h8 ⟨rfl, Only.refl No _⟩)) ?_
      refine WD.p rfl (fun e w hR hh => by obtain ⟨h107, h106, -⟩ := hh; exact SG.g h106 (by simp) (o_ixB (i := 0) TI26 TI33 h107 rfl (Nat.zero_lt_one) ⟨rfl, Only.refl No _⟩)) ?_
      refine WD.p rfl (fun e w hR hh => by obtain ⟨h108, h106, -⟩ := hh; exact SG.g h106 (by simp) (o_fa 4 TI33 rfl TI3 rfl h108 ⟨rfl, Only.refl No _⟩)) ?_
      refine WD.p rfl (fun e w hR hh => by obtain ⟨h109, h106, -⟩ := hh; exact SG.g h106 (by simp) (o_ld TI3 rfl h109 ((hc8d.only hR (fun h => h)) 4 _ rfl) ⟨rfl, Only.refl No _⟩)) ?_
      refine WD.p rfl (fun e w hR hh => by obtain ⟨h106, h7, -⟩ := hh; exact SG.g h106 (by simp) (o_fa 4 TI33 rfl TI3 rfl h7 ⟨rfl, Only.refl No _⟩)) ?_
      refine WD.p rfl (fun e w hR hh => by obtain ⟨h111, h106, -⟩ := hh; exact SG.g h106 (by simp) (o_ld TI3 rfl h111 (cell_of (hR.blk hB7d (fun h => h)) rfl) ⟨rfl, Only.refl No _⟩)) ?_
      refine WD.p rfl (fun e w hR hh => by obtain ⟨h106, h7, -⟩ := hh; exact SG.g h106 (by simp) (o_fa 3 TI33 rfl TI3 rfl h7 ⟨rfl, Only.refl No _⟩)) ?_
      refine WD.p rfl (fun e w hR hh => by obtain ⟨h113, h106, -⟩ := hh; exact SG.g h106 (by simp) (o_ld TI3 rfl h113 (cell_of (hR.blk hB7d (fun h => h)) rfl) ⟨rfl, Only.refl No _⟩)) ?_
      refine WD.p rfl (fun e w hR hh => by obtain ⟨h114, h112, h106, -⟩ := hh; exact SG.g h106 (by simp) (o_subi h112 h114 (by omega) ⟨rfl, Only.refl No _⟩)) ?_
      refine WD.p rfl (fun e w hR hh => by obtain ⟨h115, h110, h106, -⟩ := hh; exact SG.g h106 (by simp) (o_ne h110 h115 ⟨rfl, Only.refl No _⟩)) ?_
      refine WD.p rfl (fun e w hR hh => by obtain ⟨h116, h106, -⟩ := hh; exact SG.n (o_pickO h106 h116 ⟨rfl, Only.refl No _⟩)) ?_
      rintro e w hR ⟨h117, h116, h115, h114, h113, h112, h111, h110, h109, h108, h107, h106, h105, h104, h103, h102, h101, h100, h99, h98, h97, h96, h95, h94, h93, h92, h91, h90, h89, h88, h87, h86, h85, h84, h83, h82, h0, h3, h4, h5, h6, h7, h8, h9, -⟩
      have hFA1 := hR.blk hFAd (fun h => h)
      have hB71 := hR.blk hB7d (fun h => h)
      have own1 := own_ext ownd hR
      have hx1 := hxd.tr hR
      refine W.condF' h117 (by simp <;> omega) ?_
      refine W.skip ?_
      refine W.region ?_
      refine WL.c rfl (o_fa 4 TI33 rfl TI3 rfl h7 ?_)
      refine WL.c rfl (o_ld TI3 rfl rfl (cell_of hB71 rfl) ?_)
      refine WL.c rfl (o_as ?_)
      refine WL.nil ?_
      refine W.region ?_
      refine WL.c rfl (o_mvh h6 ?_)
      refine WL.c rfl (o_addi rfl rfl (by omega) ?_)
      refine WL.c rfl (o_as ?_)
      refine WL.nil ?_
      refine ⟨⟨i + 1, t.fin, pr ++ [t], us1, by rw [hts]; simp, by simp; omega, h2, hcn, h0, h3.trans hv43.symm, h4, rfl, rfl, hFA1, own1, hx1⟩, ?_⟩
      show ts.length - ((i : Int) + 1).toNat < _
      rw [hm6]; simp [intOf]; omega
  · skip
    rw [hA] at hFA ownA
    have hpl := (cutL_place xs 0 (Nat.zero_le _) (by omega)).2.2.1
    refine W.region ?_
    refine WL.c rfl (o_fa 0 TI29 rfl TI27 rfl rfl ?_)
    refine WL.c rfl (o_ld TI27 rfl rfl (cell_of hFA rfl) ?_)
    refine WL.c rfl (o_ne rfl rfl ?_)
    refine WL.nil ?_
    refine W.condT' rfl (by simp <;> omega) ?_
    refine W.seq ?_
    refine W.region ?_
    refine WL.c rfl (o_mv ?_)
    refine WL.c rfl (o_lenR TI26 rfl (Sl.own ownA) ?_)
    refine WL.c rfl (o_eq rfl rfl ?_)
    refine WL.c rfl (o_mv ?_)
    refine WL.g rfl (by simp) rfl (o_fa 1 TI29 rfl TI3 rfl rfl ?_)
    refine WL.g rfl (by simp) rfl (o_ld TI3 rfl rfl (cell_of hFA rfl) ?_)
    refine WL.g rfl (by simp) rfl (o_ge rfl rfl ?_)
    refine WL.c rfl (o_pickA rfl rfl ?_)
    refine WL.c rfl (o_mv ?_)
    refine WL.g rfl (by simp) rfl (o_fa 1 TI29 rfl TI3 rfl rfl ?_)
    refine WL.g rfl (by simp) rfl (o_ld TI3 rfl rfl (cell_of hFA rfl) ?_)
    refine WL.g rfl (by simp) rfl (o_mv ?_)
    refine WL.g rfl (by simp) rfl (o_lenT TI9 rfl ?_)
    refine WL.g rfl (by simp) rfl (o_le rfl rfl ?_)
    refine WL.c rfl (o_pickA rfl rfl ?_)
    refine WL.c rfl (o_as ?_)
    refine WL.nil ?_
    refine W.ret ?_
    refine ret1v rfl (show _ = Value.bool _ from rfl) ?_
    exact ⟨congrArg Value.bool (by simp <;> omega), hx⟩

theorem places_walk (w0 : World) (s : ByteArray) (hs : s.size ≤ maxLen) : Ca Try.prog 5 #[.string s] w0 (fun v w' => v = .bool true ∧ Ext w0 w') := by
  obtain ⟨⟨xs⟩⟩ := s
  exact places_walk0 w0 xs hs

end Go.Proofs.Ytiabjbaegdgmmaa
