/-
  Walks. Written by program out of specs of mine.
-/
import Derived.Test.YtdiaeafjjffjmaaJ
set_option linter.unusedSimpArgs false
set_option linter.unusedVariables false
set_option maxRecDepth 100000
namespace Go.Proofs.Ytdiaeafjjffjmaa
open Go Go.Vc Go.RowKit Go.Proofs

def rdL (xs : List UInt8) : Nat → Nat → List Fr → Rd (List Fr)
  | 0, a, acc => .ok acc a
  | m + 1, a, acc => (rdF xs a).bind fun f a => rdL xs m a (acc ++ [f])
structure SSt where
  most : Nat
  high : Nat
  L : List Fr
def rdS1 (xs : List UInt8) : Rd SSt :=
  (rdN xs 1 1 1048576).bind fun most a => (rdN xs a 0 most).bind fun n a => (rdN xs a n most).bind fun high a => (rdL xs n a []).bind fun L a => if a < xs.length then .bad 124 a else .ok ⟨most, high, L⟩ a
def rdS (xs : List UInt8) : Rd SSt := if xs.length = 0 then .bad 20 0 else if xs.head? = some 102 then rdS1 xs else .bad 221 0
theorem Rd.bind_ok {α β : Type} {r : Rd α} {f : α → Nat → Rd β} {b : β} {a : Nat} (h : r.bind f = .ok b a) : ∃ x a', r = .ok x a' ∧ f x a' = .ok b a := by
  cases r with
  | ok x a' => exact ⟨x, a', rfl, h⟩
  | bad e a' => cases h
theorem rdMany_ok {xs : List UInt8} : ∀ {m a : Nat} {acc t : List Int} {a' : Nat}, rdMany xs m a acc = .ok t a' → (∀ n ∈ acc, 0 ≤ n ∧ n ≤ Huge) → t.length = acc.length + m ∧ ∀ n ∈ t, 0 ≤ n ∧ n ≤ Huge
  | 0, a, acc, t, a', h, ho => by simp only [rdMany, Rd.ok.injEq] at h; obtain ⟨rfl, rfl⟩ := h; exact ⟨by omega, ho⟩
  | m + 1, a, acc, t, a', h, ho => by
    rw [rdMany] at h
    obtain ⟨n, a2, h1, h2⟩ := Rd.bind_ok h
    have := rdMany_ok h2 (fun n' hn' => by
      rcases List.mem_append.1 hn' with hn' | hn'
      · exact ho n' hn'
      · simp only [List.mem_singleton] at hn'; subst hn'; have := rdN_ok h1; omega)
    rw [List.length_append, List.length_singleton] at this
    exact ⟨by omega, this.2⟩
theorem rdF_whole {xs : List UInt8} {a a' : Nat} {f : Fr} (h : rdF xs a = .ok f a') : fwhole f = true := by
  rw [rdF] at h
  obtain ⟨n1, a1, h1, h⟩ := Rd.bind_ok h
  obtain ⟨n2, a2, h2, h⟩ := Rd.bind_ok h
  obtain ⟨n3, a3, h3, h⟩ := Rd.bind_ok h
  obtain ⟨n4, a4, h4, h⟩ := Rd.bind_ok h
  obtain ⟨n5, a5, h5, h⟩ := Rd.bind_ok h
  obtain ⟨n6, a6, h6, h⟩ := Rd.bind_ok h
  obtain ⟨m, a7, h7, h⟩ := Rd.bind_ok h
  obtain ⟨t, a8, h8, h⟩ := Rd.bind_ok h
  simp only [Rd.ok.injEq] at h
  obtain ⟨rfl, -⟩ := h
  have g1 := rdN_ok h1
  have g2 := rdN_ok h2
  have g3 := rdN_ok h3
  have g4 := rdN_ok h4
  have g5 := rdN_ok h5
  have g6 := rdN_ok h6
  have g7 := rdN_ok h7
  have g8 := rdMany_ok h8 (by simp)
  simp only [List.length_nil, Nat.zero_add] at g8
  simp only [Huge] at *
  simp only [fwhole, fright, tright, Bool.and_eq_true, inb_iff, decide_eq_true_eq, List.all_eq_true, Huge]
  refine ⟨⟨⟨⟨⟨⟨?_, ?_⟩, ?_⟩, ?_⟩, ?_⟩, ?_⟩, ?_, g8.2⟩ <;> omega
theorem head_get {xs : List UInt8} (h : 0 < xs.length) : xs.head? = some xs[0] := by cases xs <;> simp at h ⊢
theorem bv_eq {c d : UInt8} (h : ((c.toNat : Int) = (d.toNat : Int))) : c = d := UInt8.toNat_inj.1 (by omega)

theorem stack_spec (B0 q at_ : Nat) (bv : Value) (xs : List UInt8) (w0 : World) (h : Rdr w0 B0 q bv xs at_) : CaX Try.prog 33 #[.pointer (some ⟨q, 0, none⟩)] w0 (fun v w' => ∃ s lv V a p, rdS xs = .ok s a ∧ v = .pointer (some ⟨p, 0, none⟩) ∧ Stk w' w0.heap.size p s.most s.high s.L lv V ∧ Only (fun k => k = q) w0 w') (fun ch w' => ∃ e a, rdS xs = .bad e a ∧ ch = [pan e a] ∧ Only (fun k => k = q) w0 w') := by
  have hqlt : q < w0.heap.size := (Array.getElem?_eq_some_iff.1 h.cell).1
  have hB0 := h.hq
  have hcell := h.cell
  have hsm := h.small
  refine CaX.of Try.func33 Try.ntmps33 rfl rfl ?_
  refine W.seq ?_
  refine W.region ?_
  refine WL.c rfl (o_as ?_)
  refine WL.nil ?_
  refine W.seq ?_
  refine W.seq ?_
  refine W.region ?_
  refine WL.c rfl (o_mv ?_)
  refine WL.c rfl (o_nil rfl ?_)
  refine WL.c rfl (o_fa 0 TI75 rfl TI23 rfl rfl ?_)
  refine WL.c rfl (o_ld TI23 rfl rfl (cell_of hcell rfl) ?_)
  refine WL.c rfl (o_lenR TI23 rfl h.by_ ?_)
  refine WL.c rfl (o_eq rfl rfl ?_)
  refine WL.nil ?_
  refine W.cond rfl (fun c10 => ?_) (fun c10 => ?_)
  · try simp only [decide_eq_true_eq, decide_eq_false_iff_not, Bool.not_eq_true', Bool.not_eq_false', Bool.and_eq_true, Bool.or_eq_true, Bool.and_eq_false_iff, Bool.or_eq_false_iff] at c10
    refine W.region ?_
    refine WL.c rfl (o_bldC (cs := [(.int .i64 20), (.int .i64 0)]) TI31 (Sizes.cons TI29 (Sizes.cons TI3 Sizes.nil)) rfl (lcp (show _ = Value.int _ _ from rfl) lnp) rfl rfl ?_)
    refine WL.c rfl (o_mkI TI31 rfl rfl ?_)
    refine WL.ux (ox_panic (show _ = Value.iface _ _ from rfl) ?_)
    exact ⟨20, 0, by rw [rdS, if_pos (by omega)], rfl, Only.refl _ _⟩
  · try simp only [decide_eq_true_eq, decide_eq_false_iff_not, Bool.not_eq_true', Bool.not_eq_false', Bool.and_eq_true, Bool.or_eq_true, Bool.and_eq_false_iff, Bool.or_eq_false_iff] at c10
    have hpos : 0 < xs.length := by omega
    refine W.skip ?_
    refine W.seq ?_
    refine W.seq ?_
    refine W.region ?_
    refine WL.c rfl (o_mv ?_)
    refine WL.c rfl (o_nil rfl ?_)
    refine WL.c rfl (o_fa 0 TI75 rfl TI23 rfl rfl ?_)
    refine WL.c rfl (o_ld TI23 rfl rfl (cell_of hcell rfl) ?_)
    refine WL.c rfl (o_ix1 (i := 0) TI23 TI5 rfl rfl h.by_ (by omega) ?_)
    intro b17 o17 hc17 hb17
    refine WL.c rfl (o_ld TI5 rfl rfl (hc17.trans (getbv hpos)) ?_)
    refine WL.c rfl (o_ne rfl rfl ?_)
    refine WL.nil ?_
    refine W.cond rfl (fun c19 => ?_) (fun c19 => ?_)
    · try simp only [decide_eq_true_eq, decide_eq_false_iff_not, Bool.not_eq_true', Bool.not_eq_false', Bool.and_eq_true, Bool.or_eq_true, Bool.and_eq_false_iff, Bool.or_eq_false_iff] at c19
      refine W.region ?_
      refine WL.c rfl (o_bldC (cs := [(.int .i64 221), (.int .i64 0)]) TI31 (Sizes.cons TI29 (Sizes.cons TI3 Sizes.nil)) rfl (lcp (show _ = Value.int _ _ from rfl) lnp) rfl rfl ?_)
      refine WL.c rfl (o_mkI TI31 rfl rfl ?_)
      refine WL.ux (ox_panic (show _ = Value.iface _ _ from rfl) ?_)
      exact ⟨221, 0, by rw [rdS, if_neg (by omega), head_get hpos, if_neg (by intro he; simp only [Option.some.injEq] at he; rw [he] at c19; exact absurd rfl c19)], rfl, Only.refl _ _⟩
    · try simp only [decide_eq_true_eq, decide_eq_false_iff_not, Bool.not_eq_true', Bool.not_eq_false', Bool.and_eq_true, Bool.or_eq_true, Bool.and_eq_false_iff, Bool.or_eq_false_iff] at c19
      refine W.skip ?_
      refine W.seq ?_
      have hS0 : rdS xs = rdS1 xs := by rw [rdS, if_neg (by omega), head_get hpos, if_pos (congrArg some (bv_eq (d := 102) (by simpa using c19)))]
      refine W.region ?_
      refine WL.c rfl (o_mv ?_)
      refine WL.c rfl (o_nil rfl ?_)
      refine WL.c rfl (o_fa 1 TI75 rfl TI3 rfl rfl ?_)
      refine WL.u (o_stB TI3 rfl (show _ = Value.int _ _ from rfl) rfl hcell (show 1 < 2 by decide) ?_)
      intro w5 hB5 ho5 hs5
      have hq0 := ho5
      replace h : Rdr w5 B0 q bv xs 1 := ⟨hB5, Sl.keep h.by_ ho5 (fun b hb he => by subst he; rw [h.off _ hb h.hq]; rfl), h.off, h.hq, hpos, h.small⟩
      refine WL.nil ?_
      refine W.seq ?_
      refine W.region ?_
      refine WL.c rfl (o_mv ?_)
      refine WL.cx rfl (ox_call Try.call50 (lc rfl (lc rfl (lc rfl ln))) ((number_spec B0 q 1 1 1048576 bv xs _ h (by decide) (by decide) (by decide)).mono ?_ (fun ch w' hh => by obtain ⟨e, a, h1, h2, h3⟩ := hh; exact ⟨e, a, by simp only [hS0, rdS1, Rd.bind, h1], h2, hq0.trans' h3 (fun _ h => h) (fun _ _ h => h.elim)⟩)))
      rintro v26 w26 ⟨n26, a26, hr26, rfl, h', ho26⟩
      replace h := h'
      replace hq0 := hq0.trans' ho26 (fun _ h => h) (fun _ _ h => h)
      refine WL.c rfl (o_bldC (cs := [_, (.int .i64 0), (.slice none 0 0)]) TI71 (Sizes.cons TI3 (Sizes.cons TI3 (Sizes.cons TI22 Sizes.nil))) rfl (lcp (show _ = Value.int _ _ from rfl) lnp) rfl rfl ?_)
      refine WL.c rfl (o_boxB rfl ?_)
      intro w28 hCs hx28 hs28
      obtain ⟨cs, hcs⟩ : ∃ cs, cs = w26.heap.size := ⟨_, rfl⟩
      rw [← hcs] at hCs ⊢
      replace hCs : w28.heap[cs]? = some (.cells #[.int .i64 (n26 : Int), .int .i64 0, .slice none 0 0] 71 (0, 0)) := hCs
      replace h := h.ext hx28
      have hcs0 : w0.heap.size ≤ cs := by rw [hcs]; exact hq0.size
      replace hq0 := hq0.ext hx28
      have g26 := rdN_ok hr26
      refine WL.c rfl (o_as ?_)
      refine WL.nil ?_
      refine W.seq ?_
      refine W.region ?_
      refine WL.c rfl (o_mv ?_)
      refine WL.c rfl (o_mv ?_)
      refine WL.c rfl (o_nil rfl ?_)
      refine WL.c rfl (o_fa 0 TI71 rfl TI3 rfl rfl ?_)
      refine WL.c rfl (o_ld TI3 rfl rfl (cell_of hCs rfl) ?_)
      refine WL.cx rfl (ox_call Try.call50 (lc rfl (lc rfl (lc rfl ln))) ((number_spec B0 q a26 0 n26 bv xs _ h (by decide) (by omega) (by omega)).mono ?_ (fun ch w' hh => by obtain ⟨e, a, h1, h2, h3⟩ := hh; exact ⟨e, a, by simp only [hS0, rdS1, Rd.bind, hr26, h1], h2, hq0.trans' h3 (fun _ h => h) (fun _ _ h => h.elim)⟩)))
      rintro v34 w34 ⟨n34, a34, hr34, rfl, h', ho34⟩
      replace h := h'
      replace hq0 := hq0.trans' ho34 (fun _ h => h) (fun _ _ h => h)
      replace hCs := ho34.blk hCs (show ¬ _ = q by omega)
      refine WL.c rfl (o_as ?_)
      refine WL.nil ?_
      refine W.seq ?_
      refine W.region ?_
      refine WL.c rfl (o_mv ?_)
      refine WL.c rfl (o_mv ?_)
      refine WL.c rfl (o_mv ?_)
      refine WL.c rfl (o_mv ?_)
      refine WL.c rfl (o_nil rfl ?_)
      refine WL.c rfl (o_fa 0 TI71 rfl TI3 rfl rfl ?_)
      refine WL.c rfl (o_ld TI3 rfl rfl (cell_of hCs rfl) ?_)
      refine WL.cx rfl (ox_call Try.call50 (lc rfl (lc rfl (lc rfl ln))) ((number_spec B0 q a34 n34 n26 bv xs _ h (by omega) (by omega) (by omega)).mono ?_ (fun ch w' hh => by obtain ⟨e, a, h1, h2, h3⟩ := hh; exact ⟨e, a, by simp only [hS0, rdS1, Rd.bind, hr26, hr34, h1], h2, hq0.trans' h3 (fun _ h => h) (fun _ _ h => h.elim)⟩)))
      rintro v42 w42 ⟨n42, a42, hr42, rfl, h', ho42⟩
      replace h := h'
      replace hq0 := hq0.trans' ho42 (fun _ h => h) (fun _ _ h => h)
      replace hCs := ho42.blk hCs (show ¬ _ = q by omega)
      refine WL.c rfl (o_nil rfl ?_)
      refine WL.c rfl (o_fa 1 TI71 rfl TI3 rfl rfl ?_)
      refine WL.u (o_stB TI3 rfl (show _ = Value.int _ _ from rfl) rfl hCs (show 1 < 3 by decide) ?_)
      intro w44 hB44 ho44 hs44
      clear hCs
      have hCs : w44.heap[cs]? = some (.cells #[.int .i64 (n26 : Int), .int .i64 (n42 : Int), .slice none 0 0] 71 (0, 0)) := hB44
      replace h := h.keep ho44 (fun k he => by omega) (show ¬ q = cs by omega)
      replace hq0 := hq0.trans' ho44 (fun _ h => h) (fun k hk he => by omega)
      have g34 := rdN_ok hr34
      have g42 := rdN_ok hr42
      clear hB44 ho44
      refine WL.nil ?_
      refine W.seq ?_
      refine W.seq ?_
      refine W.region ?_
      refine WL.c rfl (o_mv ?_)
      refine WL.c rfl (o_mv ?_)
      refine WL.nil ?_
      refine W.block ?_
      refine W.loop (fun e w => ∃ (k : Nat) (acc : List Fr) (lv : Value) (V : Nat → Value) (a : Nat), k ≤ n34 ∧ e 0 = .pointer (some ⟨q, 0, none⟩) ∧ e 3 = .pointer (some ⟨cs, 0, none⟩) ∧ e 45 = .int .i64 (n34 : Int) ∧ e 46 = .int .i64 (k : Int) ∧ Stk w w0.heap.size cs n26 n42 acc lv V ∧ acc.length = k ∧ Rdr w B0 q bv xs a ∧ Only (fun k => k = q) w0 w ∧ rdL xs n34 a42 [] = rdL xs (n34 - k) a acc) (fun e w => n34 - (intOf (e 46)).toNat) ?_ ?_
      · exact ⟨0, [], .slice none 0 0, fun _ => undef, a42, Nat.zero_le _, rfl, rfl, rfl, rfl, ⟨hCs, Rows.nil _ _ _, hcs0, by omega, by simp, by simp⟩, rfl, h, hq0, rfl⟩
      rintro e w ⟨k, acc, lv, V, a, hk, h0, h3, h45, h46, hstk, hacc, h, hq0, hmany⟩
      have hm46 := h46
      have hcell := h.cell
      refine W.seq ?_
      refine W.region ?_
      refine WL.c rfl (o_lt h46 h45 ?_)
      refine WL.nil ?_
      refine W.seq ?_
      refine W.cond rfl (fun c47 => ?_) (fun c47 => ?_)
      · try simp only [decide_eq_true_eq, decide_eq_false_iff_not, Bool.not_eq_true', Bool.not_eq_false', Bool.and_eq_true, Bool.or_eq_true, Bool.and_eq_false_iff, Bool.or_eq_false_iff] at c47
        refine W.skip ?_
        refine W.seq ?_
        refine W.block ?_
        obtain ⟨wd, hwd⟩ : ∃ wd, wd = w.drew := ⟨_, rfl⟩
        have hxd : Ext w wd := hwd ▸ Only.drew w
        replace h := h.ext hxd
        replace hstk := hstk.ext hxd
        replace hq0 := hq0.ext hxd
        have hk1 : k < n34 := by omega
        have hscell := hstk.cell
        have hlq : ¬ lv.ownBlock = some q := fun hk => by have := (hstk.rows.row.lt q hk).1; omega
        have hlB : ∀ k, lv.ownBlock = some k → B0 ≤ k := fun k hk => by have := (hstk.rows.row.lt k hk).1; omega
        have hlt : ∀ k, lv.ownBlock = some k → k < wd.heap.size := fun k hk => (hstk.rows.row.lt k hk).2
        have hltV : ∀ j, j < acc.length → ∀ k, (V j).ownBlock = some k → k < wd.heap.size := fun j hj k hk => (hstk.rows.tabs.lt hj hk).2
        have hls : ¬ lv.ownBlock = some cs := fun hk => hstk.p_off (.inl hk)
        have hqd : q < wd.heap.size := by have := hq0.size; omega
        have hcq : ¬ cs = q := by omega
        have hVq : ∀ j, j < acc.length → ¬ (V j).ownBlock = some q := fun j hj hk => by have := (hstk.rows.tabs.lt hj hk).1; omega
        refine W.drawF 9 [6, 8] [fun k => k = q, fun k => lv.ownBlock = some k] [(0, fun v _ => v = _), (3, fun v _ => v = _), (45, fun v _ => v = _), (46, fun v _ => v = _)] rfl (by kernel_rfl) (by kernel_rfl) ⟨Mono.eq, Mono.eq, Mono.eq, Mono.eq, trivial⟩ ⟨h0, h3, h45, h46, trivial⟩ ?_
        refine WDS.p rfl (by decide) (fun e w hR hh => by obtain ⟨h3, -⟩ := hh; exact SG.n (o_mvh h3 ⟨rfl, Only.refl No _⟩)) ?_
        refine WDS.p rfl (by decide) (fun e w hR hh => by obtain ⟨h3, -⟩ := hh; exact SG.n (o_mvh h3 ⟨rfl, Only.refl No _⟩)) ?_
        refine WDS.p rfl (by decide) (fun e w hR hh => by obtain ⟨h49, -⟩ := hh; exact SG.n (o_nil h49 ⟨rfl, Only.refl No _⟩)) ?_
        refine WDS.p rfl (by decide) (fun e w hR hh => by obtain ⟨h50, -⟩ := hh; exact SG.n (o_fa 2 TI71 rfl TI22 rfl h50 ⟨rfl, Only.refl No _⟩)) ?_
        refine WDS.p rfl (by decide) (fun e w hR hh => by obtain ⟨h51, -⟩ := hh; rw [← hwd] at hR; have hc := hR.blk hscell (fun hF => by rcases hF with hF | hF | hF <;> first | exact hcq hF | exact hls hF | exact hF); exact SG.n (o_ld TI22 rfl h51 (cell_of hc rfl) ⟨rfl, Only.refl No _⟩)) ?_
        refine WDS.p rfl (by decide) (fun e w hR hh => by obtain ⟨h0, -⟩ := hh; exact SG.n (o_mvh h0 ⟨rfl, Only.refl No _⟩)) ?_
        refine WDS.mf 0 1 (fun v w => ∃ f u a2, rdF xs a = .ok f a2 ∧ v = .agg (fcells f u).toArray ∧ w.ownsRow wd.heap.size 3 1 u f.tab.length (ints f.tab) ∧ Rdr w B0 q bv xs a2) (fun v w w2 hR hh => by obtain ⟨f, u, a2, h1, h2, h3, h4⟩ := hh; exact ⟨f, u, a2, h1, h2, own_only h3 hR (fun k hk hF => by rcases hF with hF | hF <;> first | exact hF | (have := hlt k hF; have := (h3.lt k hk).1; omega)), h4.keep hR (fun k hF => by rcases hF with hF | hF; exact hlB k hF; exact hF.elim) (fun hF => by rcases hF with hF | hF; exact hlq hF; exact hF)⟩) (by kernel_rfl) rfl rfl rfl (fun e w hR hW hh => by obtain ⟨h53, -⟩ := hh; rw [← hwd] at hW; have hW2 : Ext wd w := hW.mono (fun k _ hF => hF); exact SGX.n (ox_call Try.call51 (lc h53 ln) ((frame_spec B0 q a bv xs w (h.ext hW2)).mono (fun v w' hh => by obtain ⟨f, u, a2, h1, h2, h3, h4, h5⟩ := hh; exact ⟨⟨f, u, a2, h1, h2, own_mono h3 hW.size, h4⟩, h5⟩) (fun ch w' hh => by obtain ⟨e1, a1, h1, h2, h3⟩ := hh; exact ⟨e1, a1, by obtain ⟨m', hm'⟩ : ∃ m', n34 - k = m' + 1 := ⟨n34 - k - 1, by omega⟩; rw [hm'] at hmany; simp only [hS0, rdS1, Rd.bind, hr26, hr34, hr42, hmany, rdL, h1], h2, (hq0.ext hW2).trans' h3 (fun _ h => h) (fun _ _ h => h)⟩)))) ?_
        refine WDS.q 1 (fun v w => ∃ f u a2, rdF xs a = .ok f a2 ∧ w.ownsRow wd.heap.size 39 7 v 1 (fcells f u) ∧ w.ownsRow wd.heap.size 3 1 u f.tab.length (ints f.tab) ∧ Rdr w B0 q bv xs a2) (fun v w w2 hR hh => by obtain ⟨f, u, a2, h1, h2, h3, h4⟩ := hh; exact ⟨f, u, a2, h1, own_only h2 hR (fun k hk hF => by rcases hF with hF | hF <;> first | exact hF | (have := hlt k hF; have := (h2.lt k hk).1; omega)), own_only h3 hR (fun k hk hF => by rcases hF with hF | hF <;> first | exact hF | (have := hlt k hF; have := (h3.lt k hk).1; omega)), h4.keep hR (fun k hF => by rcases hF with hF | hF; exact hlB k hF; exact hF.elim) (fun hF => by rcases hF with hF | hF; exact hlq hF; exact hF)⟩) (by kernel_rfl) rfl (by decide) (fun e w hR hh => by obtain ⟨h54, -⟩ := hh; rw [← hwd] at hR; obtain ⟨f, u, a2, hrf, h54v, h54o, hrd⟩ := h54; exact SG.n (o_bs1 TI22 TI39 h54v (by decide) (by decide) rfl ⟨⟨f, u, a2, hrf, own_mono (own_new1 rfl) hR.size, own_ext h54o (Only.alloc w _), hrd.ext (Only.alloc w _)⟩, Only.alloc w _⟩)) ?_
        refine WDS.mf 1 2 (fun v w => ∃ f u a2, rdF xs a = .ok f a2 ∧ w.ownsRow w0.heap.size 39 7 v (acc.length + 1) (frows acc V ++ fcells f u) ∧ w.ownsRow wd.heap.size 3 1 u f.tab.length (ints f.tab) ∧ Rdr w B0 q bv xs a2) (fun v w w2 hR hh => by obtain ⟨f, u, a2, h1, h2, h3, h4⟩ := hh; exact ⟨f, u, a2, h1, own_ext h2 hR, own_ext h3 hR, h4.ext hR⟩) (by kernel_rfl) rfl rfl rfl (fun e w hR hW hh => by obtain ⟨h55, h52, -⟩ := hh; rw [← hwd] at hR hW; obtain ⟨f, u, a2, hrf, h55r, h55o, hrd⟩ := h55; have hrow4 := own_only hstk.rows.row hW (fun k hk hF => by rcases hF with hF | hF <;> first | exact hF | (subst hF; exact hlq hk)); have hw2 := hR.size; have hw3 := hq0.size; exact SGX.n (OP.x (o_apO w0.heap.size TI22 TI39 h52 rfl hrow4 (Sl.own h55r) rfl (by decide) (fcells_all (own_one h55o)) (by rw [maxLen_eq]; omega) (by omega) (by omega) (fun v' w' h1 h2 h3 _ => ⟨⟨f, u, a2, hrf, h1, own_only h55o h2 (fun k hk hF => by have := hlt k hF; have := (h55o.lt k hk).1; omega), hrd.keep h2 hlB hlq⟩, h2⟩)))) ?_
        rintro e w hR ⟨h56, h55, h54, h53, h52, h51, h50, h49, h48, h0, h3, h45, h46, -⟩
        rw [← hwd] at hR
        obtain ⟨f, u, a2, hrf, hr56, hou, hrd⟩ := h56
        obtain ⟨v56, hv56⟩ : ∃ v, v = e 56 := ⟨_, rfl⟩
        rw [← hv56] at hr56
        have hc5 := hR.blk hscell (fun hF => by rcases hF with hF | hF | hF <;> first | exact hcq hF | exact hls hF | exact hF)
        have hrow5 : Rows w w0.heap.size (acc ++ [f]) v56 (fun j => if j = acc.length then u else V j) := Rows.snoc hr56 (hstk.rows.tabs.only hR (fun j hj k hk hF => by rcases hF with hF | hF | hF <;> first | exact hF | (subst hF; exact hVq j hj hk) | exact own_row_off hstk.rows.row (hstk.rows.tabs.row j hj) (by decide) k hk hF)) hou (by have := hq0.size; omega) hltV
        refine WL.c rfl (o_nil h48 ?_)
        refine WL.c rfl (o_fa 2 TI71 rfl TI22 rfl rfl ?_)
        refine WL.u (o_stB TI22 rfl (show _ = v56 from hv56.symm) (own_one hr56) hc5 (show 2 < 3 by decide) ?_)
        intro w6 hB6 ho6 hs6
        replace hB6 : w6.heap[cs]? = some (.cells #[.int .i64 (n26 : Int), .int .i64 (n42 : Int), v56] 71 (0, 0)) := hB6
        have hrow6 := hrow5.only ho6 (fun k hk he => by subst he; exact hrow5.off hc5 (by decide) (by decide) hk)
        have hfw := rdF_whole hrf
        have hstk' : Stk w6 w0.heap.size cs n26 n42 (acc ++ [f]) v56 _ := ⟨hB6, hrow6, hcs0, by omega, by rw [List.length_append, List.length_singleton]; omega, tl_snoc hstk.tl hfw⟩
        have hrd' := hrd.keep ho6 (fun k he => by omega) (show ¬ q = cs by omega)
        have hq56 : Only (fun k => k = q) w0 w6 := (hq0.trans' hR (fun _ h => h) (fun k hk hF => by rcases hF with hF | hF | hF; exact hF; have := (hstk.rows.row.lt k hF).1; omega; exact hF.elim)).trans' ho6 (fun _ h => h) (fun k hk he => by omega)
        refine WL.nil ?_
        refine W.region ?_
        refine WL.c rfl (o_addi h46 rfl (by omega) ?_)
        refine WL.c rfl (o_mv ?_)
        refine WL.nil ?_
        refine ⟨⟨k + 1, acc ++ [f], v56, _, a2, by omega, h0, h3, h45, rfl, hstk', by simp [hacc], hrd', hq56, ?_⟩, ?_⟩
        · rw [hmany]; obtain ⟨m', hm'⟩ : ∃ m', n34 - k = m' + 1 := ⟨n34 - k - 1, by omega⟩; rw [hm']; simp only [rdL, hrf, Rd.bind, show n34 - (k + 1) = m' by omega]
        · show n34 - ((k : Int) + 1).toNat < _
          rw [hm46]; simp [intOf]; omega
      · try simp only [decide_eq_true_eq, decide_eq_false_iff_not, Bool.not_eq_true', Bool.not_eq_false', Bool.and_eq_true, Bool.or_eq_true, Bool.and_eq_false_iff, Bool.or_eq_false_iff] at c47
        refine W.exit ?_
        refine W.seq ?_
        refine W.seq ?_
        have hkn : k = n34 := by omega
        subst hkn
        rw [Nat.sub_self, rdL] at hmany
        refine W.quiet rfl (by kernel_rfl) ?_
        refine WQ.c rfl ((QO.o rfl fun _ => o_mvh h0 ⟨rfl, rfl⟩)) ?_
        refine WQ.c rfl ((QO.r fun _ => r_nil rfl)) ?_
        refine WQ.c rfl ((QO.o rfl fun _ => o_fa 1 TI75 rfl TI3 rfl rfl ⟨rfl, rfl⟩)) ?_
        refine WQ.c rfl ((QO.o rfl fun _ => o_ld TI3 rfl rfl (cell_of hcell rfl) ⟨rfl, rfl⟩)) ?_
        refine WQ.c rfl ((QO.o rfl fun _ => o_mvh h0 ⟨rfl, rfl⟩)) ?_
        refine WQ.c rfl ((QO.r fun _ => r_nil rfl)) ?_
        refine WQ.c rfl ((QO.o rfl fun _ => o_fa 0 TI75 rfl TI23 rfl rfl ⟨rfl, rfl⟩)) ?_
        refine WQ.c rfl ((QO.o rfl fun _ => o_ld TI23 rfl rfl (cell_of hcell rfl) ⟨rfl, rfl⟩)) ?_
        refine WQ.c rfl ((QO.r fun _ => r_lenR TI23 rfl h.by_)) ?_
        refine WQ.c rfl ((QO.o rfl fun _ => o_lt rfl rfl ⟨rfl, rfl⟩)) ?_
        refine WQ.nil ?_
        intro nq
        refine W.cond rfl (fun c69 => ?_) (fun c69 => ?_)
        · try simp only [decide_eq_true_eq, decide_eq_false_iff_not, Bool.not_eq_true', Bool.not_eq_false', Bool.and_eq_true, Bool.or_eq_true, Bool.and_eq_false_iff, Bool.or_eq_false_iff] at c69
          refine W.region ?_
          refine WL.c rfl (o_mvh h0 ?_)
          refine WL.c rfl (o_nil rfl ?_)
          refine WL.c rfl (o_fa 1 TI75 rfl TI3 rfl rfl ?_)
          refine WL.c rfl (o_ld TI3 rfl rfl (cell_of hcell rfl) ?_)
          refine WL.c rfl (o_bldC (cs := [(.int .i64 124), _]) TI31 (Sizes.cons TI29 (Sizes.cons TI3 Sizes.nil)) rfl (lcp (show _ = Value.int _ _ from rfl) (lcp (show _ = Value.int _ _ from rfl) lnp)) rfl rfl ?_)
          refine WL.c rfl (o_mkI TI31 rfl rfl ?_)
          refine WL.ux (ox_panic (show _ = Value.iface _ _ from rfl) ?_)
          exact ⟨124, a, by simp only [hS0, rdS1, Rd.bind, hr26, hr34, hr42, hmany]; rw [if_pos (by omega)], rfl, hq0.ext (Only.drewN w nq)⟩
        · try simp only [decide_eq_true_eq, decide_eq_false_iff_not, Bool.not_eq_true', Bool.not_eq_false', Bool.and_eq_true, Bool.or_eq_true, Bool.and_eq_false_iff, Bool.or_eq_false_iff] at c69
          refine W.skip ?_
          refine W.seq ?_
          refine W.region ?_
          refine WL.c rfl (o_mvh h3 ?_)
          refine WL.c rfl (o_as ?_)
          refine WL.nil ?_
          refine W.ret ?_
          refine ret1v rfl (show _ = Value.pointer _ from rfl) ?_
          exact ⟨⟨n26, n42, acc⟩, lv, V, a, cs, by simp only [hS0, rdS1, Rd.bind, hr26, hr34, hr42, hmany]; rw [if_neg (by omega)], rfl, hstk.ext (Only.drewN w nq), hq0.ext (Only.drewN w nq)⟩
end Go.Proofs.Ytdiaeafjjffjmaa
