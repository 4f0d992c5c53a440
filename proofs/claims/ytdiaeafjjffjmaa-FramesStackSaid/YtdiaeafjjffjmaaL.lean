/-
  Walks. Written by program out of specs of mine.
-/
import Derived.Test.YtdiaeafjjffjmaaK
set_option linter.unusedSimpArgs false
set_option linter.unusedVariables false
set_option maxRecDepth 100000
namespace Go.Proofs.Ytdiaeafjjffjmaa
open Go Go.Vc Go.RowKit Go.Proofs

theorem run_load1 {P : Program} {w : World} {t : TypeId} {d : TypeDesc} {bs b o : Nat} {z v : Value} (ht : Ty P t d 1 bs z) (hd : isAggD d = false) (hc : w.cell? ⟨b, o, none⟩ = some v) : (loadVar t ⟨b, o, none⟩).run P w = .ok v w := by
  simp [loadVar, ht.run_agg, hd, hc]
theorem retCC {fn : Func} {P : Program} {e : Env} {w : World} {R : Value → World → Prop} {a1 a2 : Tmp} {T1 T2 : TypeId} {d1 d2 : TypeDesc} {bs1 s bs b1 b2 o1 o2 : Nat} {z1 z v : Value} {xs : List Value} (hr : fn.results = #[.cell a1 T1, .cell a2 T2]) (ht1 : Ty P T1 d1 1 bs1 z1) (hd1 : isAggD d1 = false) (ht : Ty P T2 d2 s bs z) (hd : isAggD d2 = true)
    (h1 : e a1 = .pointer (some ⟨b1, o1, none⟩)) (h2 : e a2 = .pointer (some ⟨b2, o2, none⟩)) (hc1 : w.cell? ⟨b1, o1, none⟩ = some v) (hc : Cells w b2 o2 xs) (hl : xs.length = s) (h : R (.tuple #[v, .agg xs.toArray]) w) : Rt fn P R e w :=
  ⟨fun _ ac ha => ⟨.tuple #[v, .agg xs.toArray], by
    have g1 : ac.tmps.getD a1 undef = .pointer (some ⟨b1, o1, none⟩) := by rw [ha.get]; exact h1
    have g2 : ac.tmps.getD a2 undef = .pointer (some ⟨b2, o2, none⟩) := by rw [ha.get]; exact h2
    simp only [Array.getD_eq_getD_getElem?] at g1 g2
    simp [results, hr, asAddr, g1, g2, run_load1 ht1 hd1 hc1, run_loadA ht hd hc hl], h⟩⟩

theorem load1_panic (b2 b3 : Nat) (e a : Nat) (x y1 y2 : Value) (w0 : World) (hC2 : w0.heap[b2]? = some (.cells #[x] 25 (0, 0))) (hC3 : w0.heap[b3]? = some (.cells #[y1, y2] 31 (0, 0))) : CallsD Try.prog 32 #[.pointer (some ⟨b2, 0, none⟩), .pointer (some ⟨b3, 0, none⟩)] (.panicking [pan e a]) w0 (fun en u2 w' => match en with | .returned _ => u2 = .panicking [{ pan e a with recovered := true }] ∧ (w'.heap[b2]? = some (.cells #[.pointer none] 25 (0, 0)) ∧ w'.heap[b3]? = some (.cells #[.int .i64 (e : Int), .int .i64 (a : Int)] 31 (0, 0)) ∧ Only (fun k => k = b2 ∨ k = b3) w0 w') | _ => False) := by
  refine calls_recover (l := [.pointer (some ⟨b2, 0, none⟩), .pointer (some ⟨b3, 0, none⟩)]) Try.func32 Try.ntmps32 rfl rfl rfl (.inl ⟨[], rfl, rfl⟩) ?_
  have hne : b2 ≠ b3 := fun he => by subst he; rw [hC2] at hC3; cases hC3
  have hb2 := (Array.getElem?_eq_some_iff.1 hC2).1
  refine W.block ?_
  refine W.seq ?_
  refine W.region ?_
  refine WL.c rfl (o_eqIN Try.underlying20 rfl rfl ?_)
  refine WL.nil ?_
  refine W.condF' rfl (rfl) ?_
  refine W.seq ?_
  refine W.region ?_
  refine WL.c rfl (o_taT TI31 rfl (show _ = Value.iface 31 (.agg #[.int .i64 (e : Int), .int .i64 (a : Int)]) from rfl) ?_)
  refine WL.c rfl (o_ext rfl rfl ?_)
  refine WL.c rfl (o_ext rfl rfl ?_)
  refine WL.nil ?_
  refine W.condT' rfl (rfl) ?_
  refine W.seq ?_
  refine W.region ?_
  refine WL.c rfl (o_alB TI31 ?_)
  intro w3 hC hx3 hs3
  refine WL.u (o_stA TI31 rfl (show _ = Value.agg #[.int .i64 (e : Int), .int .i64 (a : Int)] from rfl) rfl rfl hC rfl ?_)
  intro w4 hB4 ho4 hs4
  replace hC2 := ho4.blk (hx3.blk hC2 (fun h => h)) (show ¬ b2 = w0.heap.size from fun he => by have := (Array.getElem?_eq_some_iff.1 hC2).1; omega)
  replace hC3 := ho4.blk (hx3.blk hC3 (fun h => h)) (show ¬ b3 = w0.heap.size from fun he => by have := (Array.getElem?_eq_some_iff.1 hC3).1; omega)
  have hx4 : Ext w0 w4 := hx3.trans' ho4 (fun _ h => h) (fun j hj he => by omega)
  refine WL.nil ?_
  have hcs : Cells w4.drew w0.heap.size 0 [.int .i64 (e : Int), .int .i64 (a : Int)] := Cells.of (show w4.drew.heap[w0.heap.size]? = _ from hB4) 0 _ (by simp)
  have h2lt := (Array.getElem?_eq_some_iff.1 hC2).1
  have h3lt := (Array.getElem?_eq_some_iff.1 hC3).1
  replace hC2 : w4.drew.heap[b2]? = _ := hC2
  replace hC3 : w4.drew.heap[b3]? = _ := hC3
  replace hx4 := hx4.tr (Only.drew w4)
  refine W.enum rfl ?_
  generalize w4.drew = wd at *
  have fin : ∀ w5 w6, Only (fun k => k = b2) wd w5 → Only (fun k => k = b3) w5 w6 → Only (fun k => k = b2 ∨ k = b3) w0 w6 := fun w5 w6 h1 h2 => (hx4.trans' h1 (fun _ h => h.elim) (fun _ _ h => .inl h)).trans' h2 (fun _ h => h) (fun _ _ h => .inr h)
  refine WA.step (r := [0, 1]) (by kernel_rfl) (by decide) (all2 ?_ ?_)
  · refine WO.c rfl rfl (o_ldA TI31 rfl rfl hcs rfl ?_)
    refine WA.step (r := [1]) (by kernel_rfl) (by decide) (all1 ?_)
    refine WO.u rfl (o_stB TI25 rfl (show _ = Value.pointer none from rfl) rfl hC2 (show 0 < 1 by decide) ?_)
    intro w5 hB5 ho5 hs5
    refine WA.step (r := [2]) (by kernel_rfl) (by decide) (all1 ?_)
    refine WO.u rfl (o_stA TI31 rfl (show _ = Value.agg #[.int .i64 (e : Int), .int .i64 (a : Int)] from rfl) rfl rfl (ho5.blk hC3 (fun he => hne he.symm)) rfl ?_)
    intro w6 hB6 ho6 hs6
    refine WA.done (by kernel_rfl) ?_
    exact ret0 rfl ⟨ho6.blk hB5 hne, hB6, fin w5 w6 ho5 ho6⟩
  · refine WO.u rfl (o_stB TI25 rfl (show _ = Value.pointer none from rfl) rfl hC2 (show 0 < 1 by decide) ?_)
    intro w5 hB5 ho5 hs5
    refine WA.step (r := [0]) (by kernel_rfl) (by decide) (all1 ?_)
    refine WO.c rfl rfl (o_ldA TI31 rfl rfl (hcs.only ho5 (show ¬ w0.heap.size = b2 by omega)) rfl ?_)
    refine WA.step (r := [2]) (by kernel_rfl) (by decide) (all1 ?_)
    refine WO.u rfl (o_stA TI31 rfl (show _ = Value.agg #[.int .i64 (e : Int), .int .i64 (a : Int)] from rfl) rfl rfl (ho5.blk hC3 (fun he => hne he.symm)) rfl ?_)
    intro w6 hB6 ho6 hs6
    refine WA.done (by kernel_rfl) ?_
    exact ret0 rfl ⟨ho6.blk hB5 hne, hB6, fin w5 w6 ho5 ho6⟩
theorem load1_ret (b2 b3 : Nat) (w0 : World) : CallsD Try.prog 32 #[.pointer (some ⟨b2, 0, none⟩), .pointer (some ⟨b3, 0, none⟩)] .returning w0 (fun en u2 w' => match en with | .returned _ => u2 = .returning ∧ w' = w0 | _ => False) := by
  refine calls_recover (R := fun w' => w' = w0) (l := [.pointer (some ⟨b2, 0, none⟩), .pointer (some ⟨b3, 0, none⟩)]) Try.func32 Try.ntmps32 rfl rfl rfl (.inr ⟨rfl, rfl, rfl⟩) ?_
  refine W.block ?_
  refine W.seq ?_
  refine W.region ?_
  refine WL.c rfl (o_eqNN Try.underlying20 rfl ?_)
  refine WL.nil ?_
  refine W.condT' rfl (rfl) ?_
  refine W.region ?_
  refine WL.c rfl (o_as ?_)
  refine WL.nil ?_
  exact ret0 rfl rfl

theorem load_spec (bv : Value) (xs : List UInt8) (w0 : World) (hB : By w0 bv xs) (hsm : xs.length ≤ 1000000000000000000) : Ca Try.prog 9 #[bv] w0 (fun v w' => (∀ s a, rdS xs = .ok s a → ∃ p lv V, v = .tuple #[.pointer (some ⟨p, 0, none⟩), .agg #[.int .i64 0, .int .i64 0]] ∧ Stk w' w0.heap.size p s.most s.high s.L lv V ∧ Ext w0 w') ∧ (∀ e a, rdS xs = .bad e a → v = .tuple #[.pointer none, .agg #[.int .i64 (e : Int), .int .i64 (a : Int)]] ∧ Ext w0 w')) := by
  refine calls_ofF (l := [bv]) Try.func9 Try.ntmps9 rfl rfl ?_
  refine WF.seq (WF.region ?_)
  refine WLF.c rfl (o_alB TI25 ?_)
  intro w2 hC2 hx2 hs2
  refine WLF.c rfl (o_alB TI31 ?_)
  intro w3 hC3 hx3 hs3
  refine WLF.nil ?_
  refine WF.seq (WF.region ?_)
  refine WLF.c rfl (o_mkF (lc rfl (lc rfl ln)) ?_)
  refine WLF.d rfl ?_
  refine WLF.nil ?_
  refine WF.of ?_
  refine W.seq (W.region ?_)
  refine WL.c rfl (o_mv ?_)
  have hslf : ∃ a n c, bv = .slice a n c := by obtain ⟨a, c, h⟩ := hB.isSlice; exact ⟨_, _, _, h⟩
  obtain ⟨ba, bn, bc, rfl⟩ := hslf
  refine WL.c rfl (o_bldC (cs := [_, (.int .i64 0)]) TI75 (Sizes.cons TI23 (Sizes.cons TI3 Sizes.nil)) rfl (lcp (show _ = Value.slice ba bn bc from rfl) lnp) rfl rfl ?_)
  refine WL.c rfl (o_boxB (show _ = Value.agg #[.slice ba bn bc, .int .i64 0] from rfl) ?_)
  intro w7 hC7 hx7 hs7
  rw [hs2] at hC3 hs3 ⊢
  rw [hs3] at hC7 hs7 ⊢
  have hx : Ext w0 w7 := (hx2.tr hx3).tr hx7
  replace hC2 := (hx3.tr hx7).blk hC2 (fun h => h)
  replace hC3 := hx7.blk hC3 (fun h => h)
  have hoff : ∀ b, (Value.slice ba bn bc).ownBlock = some b → w0.heap.size ≤ b → xs = [] := by
    intro b hb hge
    obtain ⟨hl, hv⟩ := hB
    rcases hv with ⟨h1, a, c, hv⟩ | ⟨b', off, c, hv, hnc, hc⟩
    · exact List.eq_nil_of_length_eq_zero h1
    · rw [hv] at hb
      simp only [Value.ownBlock, Option.some.injEq] at hb
      by_cases e : xs = []
      · exact e
      · exfalso
        have hpos := List.length_pos_iff.2 e
        have h1 := hc 0 _ (getbv hpos)
        have : b' < w0.heap.size := by
          unfold World.cell? at h1
          simp only at h1
          rcases Nat.lt_or_ge b' w0.heap.size with h | h
          · exact h
          · rw [Array.getElem?_eq_none h] at h1; simp at h1
        omega
  have hrd : Rdr w7 w0.heap.size (w0.heap.size + 1 + 1) (.slice ba bn bc) xs 0 := ⟨hC7, Sl.ext hB hx, hoff, by omega, Nat.zero_le _, hsm⟩
  refine WL.cx rfl (ox_call Try.call33 (lc rfl ln) ((stack_spec w0.heap.size (w0.heap.size + 1 + 1) 0 (.slice ba bn bc) xs w7 hrd).mono ?_ ?_))
  · rintro v8 w8 ⟨s, lv, V, a, p, hrs, rfl, hstk, ho8⟩
    have hp8 := hstk.lo
    replace hC2 := ho8.blk hC2 (show ¬ w0.heap.size = w0.heap.size + 1 + 1 by omega)
    replace hC3 := ho8.blk hC3 (show ¬ w0.heap.size + 1 = w0.heap.size + 1 + 1 by omega)
    refine WL.c rfl (o_bldC (cs := [(.int .i64 0), (.int .i64 0)]) TI31 (Sizes.cons TI29 (Sizes.cons TI3 Sizes.nil)) rfl lnp rfl rfl ?_)
    refine WL.u (o_stB TI25 rfl (show _ = Value.pointer (some ⟨p, 0, none⟩) from rfl) rfl hC2 (show 0 < 1 by decide) ?_)
    intro w9 hB9 ho9 hs9
    replace hC3 := ho9.blk hC3 (show ¬ w0.heap.size + 1 = w0.heap.size by omega)
    refine WL.u (o_stA TI31 rfl (show _ = Value.agg #[.int .i64 0, .int .i64 0] from rfl) rfl rfl hC3 rfl ?_)
    intro w10 hB10 ho10 hs10
    refine WL.nil ?_
    refine W.ret ?_
    refine Lv.one Try.call32 (by simp) (S := fun u2 w' => u2 = .returning ∧ w' = w10) ((load1_ret w0.heap.size (w0.heap.size + 1) w10).mono (fun en u w' h => by cases en <;> exact h)) ?_
    rintro u' w11 ⟨rfl, rfl⟩
    refine Lv.ret (R := fun v w' => v = .tuple #[.pointer (some ⟨p, 0, none⟩), .agg #[.int .i64 0, .int .i64 0]] ∧ w' = w11) (retCC rfl TI25 rfl TI31 rfl rfl rfl (cell_of (ho10.blk hB9 (show ¬ w0.heap.size = w0.heap.size + 1 by omega)) rfl) (show Cells w11 (w0.heap.size + 1) 0 [.int .i64 0, .int .i64 0] from Cells.of hB10 0 _ (by simp)) rfl ⟨rfl, rfl⟩) ?_
    rintro v w' ⟨rfl, rfl⟩
    have hlt := hstk.lt
    refine ⟨fun s' a' h => ?_, fun e' a' h => (by rw [hrs] at h; cases h)⟩
    rw [hrs] at h
    simp only [Rd.ok.injEq] at h
    obtain ⟨rfl, rfl⟩ := h
    have hlow : ∀ k, k = w0.heap.size ∨ k = w0.heap.size + 1 → k < w7.heap.size := fun k hk => by omega
    have ho : Only (fun k => k = w0.heap.size ∨ k = w0.heap.size + 1) w8 w' := (ho9.mono (fun _ _ h => .inl h)).trans' ho10 (fun _ h => h) (fun _ _ h => .inr h)
    have hst2 := hstk.only ho (fun k hk hF => by have := (hlt k hk).1; have := hlow k hF; omega)
    exact ⟨p, lv, V, rfl, ⟨hst2.cell, ⟨own_mono hst2.rows.row hx.size, fun j hj => own_mono (hst2.rows.tabs.row j hj) hx.size, hst2.rows.tabs.off⟩, Nat.le_trans hx.size hp8, hst2.mb, hst2.len, hst2.tl⟩, (hx.trans' ho8 (fun _ h => h) (fun j hj he => by omega)).trans' ho (fun _ h => h) (fun j hj he => by omega)⟩
  · rintro ch w8 ⟨e, a, hrs, rfl, ho8⟩
    replace hC2 := ho8.blk hC2 (show ¬ w0.heap.size = w0.heap.size + 1 + 1 by omega)
    replace hC3 := ho8.blk hC3 (show ¬ w0.heap.size + 1 = w0.heap.size + 1 + 1 by omega)
    refine Lv.one Try.call32 (by simp) (S := fun u2 w' => u2 = .panicking [{ pan e a with recovered := true }] ∧ (w'.heap[w0.heap.size]? = some (.cells #[.pointer none] 25 (0, 0)) ∧ w'.heap[w0.heap.size + 1]? = some (.cells #[.int .i64 (e : Int), .int .i64 (a : Int)] 31 (0, 0)) ∧ Only (fun k => k = w0.heap.size ∨ k = w0.heap.size + 1) w8 w')) ((load1_panic w0.heap.size (w0.heap.size + 1) e a _ _ _ w8 hC2 hC3).mono (fun en u w' h => by cases en <;> exact h)) ?_
    rintro u' w9 ⟨rfl, hB2, hB3, ho9⟩
    refine Lv.ret (R := fun v w' => v = .tuple #[.pointer none, .agg #[.int .i64 (e : Int), .int .i64 (a : Int)]] ∧ w' = w9) (retCC rfl TI25 rfl TI31 rfl rfl rfl (cell_of hB2 rfl) (show Cells w9 (w0.heap.size + 1) 0 [.int .i64 (e : Int), .int .i64 (a : Int)] from Cells.of hB3 0 _ (by simp)) rfl ⟨rfl, rfl⟩) ?_
    rintro v w' ⟨rfl, rfl⟩
    refine ⟨fun s' a' h => (by rw [hrs] at h; cases h), fun e' a' h => ?_⟩
    rw [hrs] at h
    simp only [Rd.bad.injEq] at h
    obtain ⟨rfl, rfl⟩ := h
    exact ⟨rfl, (hx.trans' ho8 (fun _ h => h) (fun j hj he => by omega)).trans' ho9 (fun _ h => h) (fun j hj he => by omega)⟩

end Go.Proofs.Ytdiaeafjjffjmaa
