/-
  Walks. Written by program out of specs of mine.
-/
import Derived.Test.YtdiaeafjjffjmaaM5
set_option linter.unusedSimpArgs false
set_option linter.unusedVariables false
set_option maxRecDepth 100000
namespace Go.Proofs.Ytdiaeafjjffjmaa
open Go Go.Vc Go.RowKit Go.Proofs

def RL (B : Nat) (xs : List Value) (z : Value) (s : Nat) (a b : World) : Prop := Only (fun k => B ≤ k) a b ∧ (s = 0 → (∀ u, a.ownsRow B 3 1 u xs.length xs → b.ownsRow B 3 1 u xs.length xs) ∧ ∀ u, a.ownsRow B 3 1 u 1 [z] → b.ownsRow B 3 1 u 1 [z]) ∧ (0 < s → Ext a b)
theorem RL.e {B : Nat} {xs : List Value} {z : Value} (s : Nat) (a b : World) (h : Ext a b) : RL B xs z s a b := ⟨h.mono (fun _ _ h => h.elim), fun _ => ⟨fun _ hu => own_ext hu h, fun _ hu => own_ext hu h⟩, fun _ => h⟩
theorem RL.a {B : Nat} {xs : List Value} {z : Value} (s : Nat) (a b : World) (h : RL B xs z (s + 1) a b) : RL B xs z s a b := RL.e s a b (h.2.2 (by omega))
theorem RL.t {B : Nat} {xs : List Value} {z : Value} (a b c : World) (h : RL B xs z 0 a b) (k : RL B xs z 0 b c) : RL B xs z 0 a c := ⟨h.1.trans k.1, fun _ => ⟨fun u hu => (k.2.1 rfl).1 u ((h.2.1 rfl).1 u hu), fun u hu => (k.2.1 rfl).2 u ((h.2.1 rfl).2 u hu)⟩, fun h => by omega⟩
theorem RL.step {B : Nat} {xs : List Value} {z v v' : Value} {w w' : World} (hv : w.ownsRow B 3 1 v xs.length xs) (h1 : w'.ownsRow B 3 1 v' (xs.length + 1) (xs ++ [z])) (h2 : Only (fun k => v.ownBlock = some k) w w') (h3 : w'.ownsRow B 3 1 v xs.length xs ∧ (v'.ownBlock = v.ownBlock ∨ Ext w w')) : RL B xs z 0 w w' := by
  refine ⟨h2.mono (fun k _ hk => (hv.lt k hk).1), fun _ => ⟨fun u hu => own_pref hv h3.1 h2 hu (Nat.le_refl _), fun u hu => ?_⟩, fun h => by omega⟩
  rcases Nat.eq_zero_or_pos xs.length with h0 | h0
  · have hx : xs = [] := List.eq_nil_of_length_eq_zero h0
    subst hx
    exact own_keep hv h3.1 h1 h3.2 h2 hu
  · exact own_pref hv h3.1 h2 hu h0

theorem lent_spec (f : Fr) (tv : Value) (w0 : World) (hS : In w0 tv f.tab) (hl : f.tab.length ≤ 10000000000000) : Ca Try.prog 55 #[.agg (fcells f tv).toArray] w0 (fun v w' => ∃ g cap, v = .agg (fcells f (.slice (some ⟨g, 0, none⟩) f.tab.length cap)).toArray ∧ w0.heap.size ≤ g ∧ w'.ownsRow w0.heap.size 3 1 (.slice (some ⟨g, 0, none⟩) (f.tab.length + 1) cap) (f.tab.length + 1) (ints (f.tab ++ [23130])) ∧ Ext w0 w') := by
  refine Ca.of Try.func55 Try.ntmps55 rfl rfl ?_
  refine W.seq ?_
  refine W.region ?_
  refine WL.c rfl (o_boxB rfl ?_)
  intro w1 hC1 hx1 hs1
  replace hC1 : w1.heap[w0.heap.size]? = some (.cells (fcells f tv).toArray 39 (0, 0)) := hC1
  refine WL.c rfl (o_alB TI39 ?_)
  intro w2 hC2 hx2 hs2
  have hC1b := hx2.blk hC1 (fun h => h)
  replace hC2 : w2.heap[w0.heap.size + 1]? = some (.cells (fcells Fr.nil (.slice none 0 0)).toArray 39 (0, 0)) := by rw [← hs1]; exact hC2
  rw [hs1]
  refine WL.nil ?_
  refine W.seq ?_
  obtain ⟨wd, hwd⟩ : ∃ wd, wd = w2.drew := ⟨_, rfl⟩
  have hxd : Ext w2 wd := hwd ▸ Only.drew w2
  replace hC1b := hxd.blk hC1b (fun h => h)
  replace hC2 := hxd.blk hC2 (fun h => h)
  replace hS := Sl.ext hS ((hx1.tr hx2).tr hxd)
  have hx := (hx1.tr hx2).tr hxd
  have hds : w0.heap.size + 2 ≤ wd.heap.size := by have := hxd.size; omega
  refine W.drawC 8 [4] (RL wd.heap.size (ints f.tab) (.int .i64 23130)) (fun _ _ => True) [(1, fun v _ => v = _), (2, fun v _ => v = _)] rfl (by kernel_rfl) (by kernel_rfl) RL.e RL.a RL.t (fun _ _ _ _ _ => trivial) trivial ⟨Mono.eq, Mono.eq, trivial⟩ ⟨rfl, rfl, trivial⟩ ?_
  refine WDS.p rfl (by decide) (fun e w hR hh => by obtain ⟨h1, -⟩ := hh; exact SG.n (o_fa 6 TI39 rfl TI37 rfl h1 ⟨rfl, Only.refl No _⟩)) ?_
  refine WDS.p rfl (by decide) (fun e w hR hh => by obtain ⟨h3, -⟩ := hh; rw [← hwd] at hR; have hc := hR.1.blk hC1b (fun hF => by omega); exact SG.n (o_ld TI37 rfl h3 (cell_of hc rfl) ⟨rfl, Only.refl No _⟩)) ?_
  refine WDS.q 0 (fun v w => w.ownsRow wd.heap.size 3 1 v (ints f.tab).length (ints f.tab)) (fun v w w2 hR hh => (hR.2.1 rfl).1 v hh) (by kernel_rfl) rfl (by decide) (fun e w hR hh => by obtain ⟨h4, -⟩ := hh; rw [← hwd] at hR; exact SG.n (o_apO wd.heap.size TI37 TI3 rfl h4 (World.ownsRow_nil _ _ _ _) (Sl.keep hS hR.1 (fun b hb hF => Sl.low hS b hb hF)) rfl (by decide) (one_ints _) (by rw [maxLen_eq]; omega) (by omega) hR.1.size (fun v' w' h1 h2 h3 _ => ⟨by simpa using h1, h2.mono (fun _ _ h => by cases h)⟩))) ?_
  refine WDS.q 0 (fun v w => w.ownsRow wd.heap.size 3 1 v 1 [.int .i64 23130]) (fun v w w2 hR hh => (hR.2.1 rfl).2 v hh) (by kernel_rfl) rfl (by decide) (fun e w hR hh => by skip; rw [← hwd] at hR; exact SG.n (o_bs1 TI37 TI3 rfl (by decide) (by decide) rfl ⟨own_mono (own_new1 rfl) hR.1.size, Only.alloc w _⟩)) ?_
  refine WDS.m 0 1 (fun v w => ∃ g cap, v = .slice (some ⟨g, 0, none⟩) (f.tab.length + 1) cap ∧ w.ownsRow wd.heap.size 3 1 v (f.tab.length + 1) (ints (f.tab ++ [23130]))) (fun v w w2 hR hh => by obtain ⟨g, cap, h1, h2⟩ := hh; exact ⟨g, cap, h1, own_ext h2 (hR.2.2 (by omega))⟩) (by kernel_rfl) rfl rfl (fun e w hR hW hh => by obtain ⟨h6, h5, -⟩ := hh; rw [← hwd] at hR; exact SGX.n (OP.x (o_apO wd.heap.size TI37 TI3 rfl rfl h5 (Sl.own h6) rfl (by decide) (one_ints [23130]) (by rw [maxLen_eq]; simp; omega) (by simp; omega) hR.1.size (fun v' w' h1 h2 h3 h4 => ⟨by obtain ⟨g, cap, hv, -⟩ := own_some h1 (by omega); exact ⟨g, cap, by simpa using hv, by simpa [ints] using h1⟩, RL.step h5 h1 h2 h4, trivial⟩)))) ?_
  refine WDS.p rfl (by decide) (fun e w hR hh => by obtain ⟨h1, -⟩ := hh; exact SG.n (o_fa 6 TI39 rfl TI37 rfl h1 ⟨rfl, Only.refl No _⟩)) ?_
  refine WDS.p rfl (by decide) (fun e w hR hh => by obtain ⟨h8, -⟩ := hh; rw [← hwd] at hR; have hc := hR.1.blk hC1b (fun hF => by omega); exact SG.n (o_ld TI37 rfl h8 (cell_of hc rfl) ⟨rfl, Only.refl No _⟩)) ?_
  refine WDS.p rfl (by decide) (fun e w hR hh => by obtain ⟨h9, -⟩ := hh; rw [← hwd] at hR; have hSd := Sl.keep hS hR.1 (fun b hb hF => Sl.low hS b hb hF); exact SG.n (o_lenR TI37 h9 hSd ⟨rfl, Only.refl No _⟩)) ?_
  rintro e w hR - ⟨h10, h9, h8, h7, h6, h5, h4, h3, h1, h2, -⟩
  rw [← hwd] at hR
  obtain ⟨g, cap, h7v, h7r⟩ := h7
  rw [h7v] at h7r
  have hC1m := hR.1.blk hC1b (fun hF => by omega)
  have hC2m := hR.1.blk hC2 (fun hF => by omega)
  replace h1 : e 1 = .pointer (some ⟨w0.heap.size, 0, none⟩) := h1
  replace h2 : e 2 = .pointer (some ⟨w0.heap.size + 1, 0, none⟩) := h2
  have hgc : f.tab.length + 1 ≤ cap ∧ wd.heap.size ≤ g := by
    obtain ⟨a, c, he, hle⟩ := own_form h7r
    cases he
    exact ⟨hle, (h7r.lt g rfl).1⟩
  refine WL.c rfl (o_slv TI37 TI3 h7v Lo.n (Hi.s h10) (Nat.zero_le _) (by omega) ?_)
  rw [sliced0]
  refine WL.c rfl (o_fa 6 TI39 rfl TI37 rfl h1 ?_)
  refine WL.u (o_stB TI37 rfl (show _ = Value.slice (some ⟨g, 0, none⟩) f.tab.length cap from rfl) rfl hC1m (show 6 < 7 by decide) ?_)
  intro w12 hB12 ho12 hs12
  replace hB12 : w12.heap[w0.heap.size]? = some (.cells (fcells f (.slice (some ⟨g, 0, none⟩) f.tab.length cap)).toArray 39 (0, 0)) := hB12
  replace hC2m := ho12.blk hC2m (fun he => by omega)
  have hrow := own_only h7r ho12 (fun k hk he => by have := (h7r.lt k hk).1; omega)
  refine WL.nil ?_
  refine W.seq ?_
  refine W.region ?_
  refine WL.c rfl (o_ldA TI39 rfl h1 (show Cells w12 w0.heap.size 0 (fcells f (.slice (some ⟨g, 0, none⟩) f.tab.length cap)) from Cells.of hB12 0 _ (by simp)) rfl ?_)
  refine WL.u (o_stA TI39 h2 (show _ = Value.agg (fcells f (.slice (some ⟨g, 0, none⟩) f.tab.length cap)).toArray from rfl) rfl (fcells_one rfl) hC2m rfl ?_)
  intro w13 hB13 ho13 hs13
  refine WL.nil ?_
  refine W.ret ?_
  refine retC rfl TI39 rfl h2 (show Cells w13 (w0.heap.size + 1) 0 (fcells f (.slice (some ⟨g, 0, none⟩) f.tab.length cap)) from Cells.of hB13 0 _ (by simp)) rfl ?_
  exact ⟨g, cap, rfl, by omega, own_mono (own_only hrow ho13 (fun k hk he => by have := (hrow.lt k hk).1; omega)) (by omega), ((hx.trans' hR.1 (fun _ h => h) (fun j hj he => by omega)).trans' ho12 (fun _ h => h) (fun j hj he => by omega)).trans' ho13 (fun _ h => h) (fun j hj he => by omega)⟩
theorem over_spec (f : Fr) (g cap : Nat) (tv : Value) (w0 : World) (hown : w0.ownsRow 0 3 1 (.slice (some ⟨g, 0, none⟩) (f.tab.length + 1) cap) (f.tab.length + 1) (ints (f.tab ++ [23130]))) (hT : In w0 tv f.tab) (hl : f.tab.length ≤ 10000000000000) : Ca Try.prog 57 #[.agg (fcells f (Value.slice (some ⟨g, 0, none⟩) f.tab.length cap)).toArray, .agg (fcells f tv).toArray] w0 (fun v w' => v = .bool true ∧ Only (fun k => k = g) w0 w') := by
  have hgc : f.tab.length + 1 ≤ cap ∧ g < w0.heap.size := by
    obtain ⟨a, c, he, hle⟩ := own_form hown
    cases he
    exact ⟨hle, (hown.lt g rfl).2⟩
  refine Ca.of Try.func57 Try.ntmps57 rfl rfl ?_
  refine W.seq ?_
  refine W.region ?_
  refine WL.c rfl (o_boxB rfl ?_)
  intro w2 hC2 hx2 hs2
  replace hC2 : w2.heap[w0.heap.size]? = some (.cells (fcells f (Value.slice (some ⟨g, 0, none⟩) f.tab.length cap)).toArray 39 (0, 0)) := hC2
  refine WL.c rfl (o_boxB rfl ?_)
  intro w3 hC3 hx3 hs3
  replace hC3 : w3.heap[w0.heap.size + 1]? = some (.cells (fcells f tv).toArray 39 (0, 0)) := by rw [← hs2]; exact hC3
  rw [hs2]
  replace hC2 := hx3.blk hC2 (fun h => h)
  refine WL.c rfl (o_ash (show _ = Value.bool _ from rfl) ?_)
  refine WL.nil ?_
  refine W.seq ?_
  obtain ⟨wd, hwd⟩ : ∃ wd, wd = w3.drew := ⟨_, rfl⟩
  have hxd : Ext w3 wd := hwd ▸ Only.drew w3
  have hx := (hx2.tr hx3).tr hxd
  replace hC2 := hxd.blk hC2 (fun h => h)
  replace hC3 := hxd.blk hC3 (fun h => h)
  replace hT := Sl.ext hT hx
  replace hown := own_ext hown hx
  have hA : In wd (Value.slice (some ⟨g, 0, none⟩) f.tab.length cap) f.tab := by
    have := Sl.own (own_take hown (show f.tab.length ≤ f.tab.length + 1 by omega))
    have e : (ints (f.tab ++ [23130])).take (f.tab.length * 1) = ints f.tab := by rw [ints, List.map_append, List.take_left' (by simp)]
    rwa [e] at this
  have hat := own_at (u := .int .i64 23130) (i := f.tab.length) hown (by simp [ints])
  refine W.drawT 18 (Ext) [(2, fun v _ => v = _), (3, fun v _ => v = _)] rfl (by kernel_rfl) (Only.refl No) (fun _ _ _ h k => h.trans k) ⟨Mono.eq, Mono.eq, trivial⟩ ⟨rfl, rfl, trivial⟩ ?_
  refine WD.p rfl (fun e w hR hh => by obtain ⟨h2, -⟩ := hh; rw [← hwd] at hR; exact SG.n (o_ldA TI39 rfl h2 (show Cells w w0.heap.size 0 (fcells f (Value.slice (some ⟨g, 0, none⟩) f.tab.length cap)) from Cells.of (hR.blk hC2 (fun h => h)) 0 _ (by simp)) rfl ⟨rfl, Only.refl No _⟩)) ?_
  refine WD.p rfl (fun e w hR hh => by obtain ⟨h3, -⟩ := hh; rw [← hwd] at hR; exact SG.n (o_ldA TI39 rfl h3 (show Cells w (w0.heap.size + 1) 0 (fcells f tv) from Cells.of (hR.blk hC3 (fun h => h)) 0 _ (by simp)) rfl ⟨rfl, Only.refl No _⟩)) ?_
  refine WD.q (fun v w => v = .bool true) (fun v w w2 hR hh => hh) rfl (fun e w hR hh => by obtain ⟨h8, h7, -⟩ := hh; rw [← hwd] at hR; exact SG.n (o_call Try.call15 (lc h7 (lc h8 ln)) ((same_spec f (Value.slice (some ⟨g, 0, none⟩) f.tab.length cap) tv w (Sl.ext hA hR) (Sl.ext hT hR) (by omega)).mono (fun v w' hh => hh)))) ?_
  refine WD.q (fun v w => v = .bool true) (fun v w w2 hR hh => hh) rfl (fun e w hR hh => by obtain ⟨h9, -⟩ := hh; exact SG.n (o_mv ⟨h9, Only.refl No _⟩)) ?_
  refine WD.p rfl (fun e w hR hh => by obtain ⟨h10, h2, -⟩ := hh; exact SG.g h10 (rfl) (o_fa 6 TI39 rfl TI37 rfl h2 ⟨rfl, Only.refl No _⟩)) ?_
  refine WD.p rfl (fun e w hR hh => by obtain ⟨h11, h10, -⟩ := hh; rw [← hwd] at hR; exact SG.g h10 (rfl) (o_ld TI37 rfl h11 (cell_of (hR.blk hC2 (fun h => h)) rfl) ⟨rfl, Only.refl No _⟩)) ?_
  refine WD.p rfl (fun e w hR hh => by obtain ⟨h10, h3, -⟩ := hh; exact SG.g h10 (rfl) (o_fa 6 TI39 rfl TI37 rfl h3 ⟨rfl, Only.refl No _⟩)) ?_
  refine WD.p rfl (fun e w hR hh => by obtain ⟨h13, h10, -⟩ := hh; rw [← hwd] at hR; exact SG.g h10 (rfl) (o_ld TI37 rfl h13 (cell_of (hR.blk hC3 (fun h => h)) rfl) ⟨rfl, Only.refl No _⟩)) ?_
  refine WD.p rfl (fun e w hR hh => by obtain ⟨h14, h10, -⟩ := hh; rw [← hwd] at hR; exact SG.g h10 (rfl) (o_lenR TI37 h14 (Sl.ext hT hR) ⟨rfl, Only.refl No _⟩)) ?_
  refine WD.p rfl (fun e w hR hh => by obtain ⟨h15, h10, -⟩ := hh; exact SG.g h10 (rfl) (o_addi h15 rfl (by omega) ⟨rfl, Only.refl No _⟩)) ?_
  refine WD.p rfl (fun e w hR hh => by obtain ⟨h16, h12, h10, -⟩ := hh; exact SG.g h10 (rfl) (o_slv TI37 TI3 (show _ = Value.slice (some ⟨g, 0, none⟩) f.tab.length cap from h12) Lo.n (Hi.s (h := f.tab.length + 1) h16) (Nat.zero_le _) (by omega) ⟨rfl, Only.refl No _⟩)) ?_
  refine WD.p rfl (fun e w hR hh => by obtain ⟨h10, h3, -⟩ := hh; exact SG.g h10 (rfl) (o_fa 6 TI39 rfl TI37 rfl h3 ⟨rfl, Only.refl No _⟩)) ?_
  refine WD.p rfl (fun e w hR hh => by obtain ⟨h18, h10, -⟩ := hh; rw [← hwd] at hR; exact SG.g h10 (rfl) (o_ld TI37 rfl h18 (cell_of (hR.blk hC3 (fun h => h)) rfl) ⟨rfl, Only.refl No _⟩)) ?_
  refine WD.p rfl (fun e w hR hh => by obtain ⟨h19, h10, -⟩ := hh; rw [← hwd] at hR; exact SG.g h10 (rfl) (o_lenR TI37 h19 (Sl.ext hT hR) ⟨rfl, Only.refl No _⟩)) ?_
  refine WD.p rfl (fun e w hR hh => by obtain ⟨h20, h17, h10, -⟩ := hh; rw [← hwd] at hR; rw [sliced0] at h17; exact SG.g h10 (rfl) (o_ixB (i := f.tab.length) TI37 TI3 h17 h20 (by omega) ⟨rfl, Only.refl No _⟩)) ?_
  refine WD.p rfl (fun e w hR hh => by obtain ⟨h21, h10, -⟩ := hh; rw [← hwd] at hR; exact SG.g h10 (rfl) (o_ld TI3 rfl h21 (own_at (u := .int .i64 23130) (i := f.tab.length) (own_ext hown hR) (by simp [ints])) ⟨rfl, Only.refl No _⟩)) ?_
  refine WD.p rfl (fun e w hR hh => by obtain ⟨h22, h10, -⟩ := hh; exact SG.g h10 (rfl) (o_eq h22 rfl ⟨rfl, Only.refl No _⟩)) ?_
  refine WD.p rfl (fun e w hR hh => by obtain ⟨h23, h10, -⟩ := hh; exact SG.n (o_pickA h10 h23 ⟨rfl, Only.refl No _⟩)) ?_
  rintro e w hR ⟨h24, h23, h22, h21, h20, h19, h18, h17, h16, h15, h14, h13, h12, h11, h10, h9, h8, h7, h2, h3, -⟩
  rw [← hwd] at hR
  have hC2m := hR.blk hC2 (fun h => h)
  have hC3m := hR.blk hC3 (fun h => h)
  have hrow := own_ext hown hR
  replace h2 : e 2 = .pointer (some ⟨w0.heap.size, 0, none⟩) := h2
  replace h3 : e 3 = .pointer (some ⟨w0.heap.size + 1, 0, none⟩) := h3
  refine WL.c rfl (o_ash h24 ?_)
  refine WL.nil ?_
  refine W.seq ?_
  refine W.seq ?_
  refine W.region ?_
  refine WL.c rfl (o_ash (show _ = Value.int _ _ from rfl) ?_)
  refine WL.nil ?_
  refine W.block ?_
  refine W.loop (fun e w => ∃ (k : Nat) (xs : List Value), k ≤ f.tab.length ∧ e 2 = .pointer (some ⟨w0.heap.size, 0, none⟩) ∧ e 3 = .pointer (some ⟨w0.heap.size + 1, 0, none⟩) ∧ e 5 = .bool true ∧ e 6 = .int .i64 (k : Int) ∧ w.ownsRow 0 3 1 (.slice (some ⟨g, 0, none⟩) (f.tab.length + 1) cap) (f.tab.length + 1) xs ∧ w.heap[w0.heap.size]? = some (.cells (fcells f (Value.slice (some ⟨g, 0, none⟩) f.tab.length cap)).toArray 39 (0, 0)) ∧ Only (fun k => k = g) w0 w) (fun e w => f.tab.length - (intOf (e 6)).toNat) ?_ ?_
  · exact ⟨0, _, Nat.zero_le _, h2, h3, rfl, rfl, hrow, hC2m, (hx.tr hR).mono (fun _ _ h => h.elim)⟩
  rintro e w ⟨k, xs, hk, h2, h3, h5, h6, hrow, hC2, ho⟩
  have hm6 := h6
  have hin : Sl w 1 (Value.slice (some ⟨g, 0, none⟩) f.tab.length cap) f.tab.length _ := Sl.own (own_take hrow (show f.tab.length ≤ f.tab.length + 1 by omega))
  refine W.seq ?_
  refine W.seq ?_
  refine W.region ?_
  refine WL.c rfl (o_mvh h6 ?_)
  refine WL.c rfl (o_fa 6 TI39 rfl TI37 rfl h2 ?_)
  refine WL.c rfl (o_ld TI37 rfl rfl (cell_of hC2 rfl) ?_)
  refine WL.c rfl (o_lenR TI37 rfl hin ?_)
  refine WL.c rfl (o_lt rfl rfl ?_)
  refine WL.nil ?_
  refine W.cond rfl (fun c29 => ?_) (fun c29 => ?_)
  · try simp only [decide_eq_true_eq, decide_eq_false_iff_not, Bool.not_eq_true', Bool.not_eq_false', Bool.and_eq_true, Bool.or_eq_true, Bool.and_eq_false_iff, Bool.or_eq_false_iff] at c29
    refine W.skip ?_
    refine W.seq ?_
    refine W.block ?_
    refine W.region ?_
    refine WL.c rfl (o_fa 6 TI39 rfl TI37 rfl h2 ?_)
    refine WL.c rfl (o_ld TI37 rfl rfl (cell_of hC2 rfl) ?_)
    refine WL.c rfl (o_mvh h6 ?_)
    refine WL.c rfl (o_ixB (i := k) TI37 TI3 (show _ = Value.slice (some ⟨g, 0, none⟩) f.tab.length cap from rfl) rfl (by omega) ?_)
    refine WL.u (o_stRo TI3 rfl (show _ = Value.int .i64 4 from rfl) rfl hrow rfl (by omega) ?_)
    intro w7 hrow7 ho7 hs7
    have hC7 := ho7.blk hC2 (fun hk => by have : g = w0.heap.size := by simpa [Value.ownBlock] using hk
                                          omega)
    replace ho7 : Only (fun k => k = g) w0 w7 := ho.trans (ho7.mono (fun k _ hk => by simpa [Value.ownBlock, eq_comm] using hk))
    refine WL.nil ?_
    refine W.region ?_
    refine WL.c rfl (o_mvh h6 ?_)
    refine WL.c rfl (o_addi rfl rfl (by omega) ?_)
    refine WL.c rfl (o_ash (show _ = Value.int _ _ from rfl) ?_)
    refine WL.nil ?_
    refine ⟨⟨k + 1, _, by omega, h2, h3, h5, rfl, hrow7, hC7, ho7⟩, ?_⟩
    show f.tab.length - ((k : Int) + 1).toNat < _
    rw [hm6]; simp only [intOf]; omega
  · try simp only [decide_eq_true_eq, decide_eq_false_iff_not, Bool.not_eq_true', Bool.not_eq_false', Bool.and_eq_true, Bool.or_eq_true, Bool.and_eq_false_iff, Bool.or_eq_false_iff] at c29
    refine W.exit ?_
    refine W.seq ?_
    refine W.region ?_
    refine WL.c rfl (o_mvh h5 ?_)
    refine WL.c rfl (o_ash (show _ = Value.bool _ from rfl) ?_)
    refine WL.nil ?_
    refine W.ret ?_
    refine ret1v rfl (show _ = Value.bool _ from rfl) ?_
    exact ⟨rfl, ho⟩

theorem Stk.mono {w : World} {H H' p most high : Nat} {L : List Fr} {lv : Value} {V : Nat → Value} (h : Stk w H p most high L lv V) (hH : H' ≤ H) : Stk w H' p most high L lv V := ⟨h.cell, h.rows.mono hH, Nat.le_trans hH h.lo, h.mb, h.len, h.tl⟩
/-- from one world to the next: written at F, the blocks' owners told anew -/
structure Stp (F : Nat → Prop) (o o' : Nat → Nat) (id : Nat) (w w' : World) : Prop where
  only : Only F w w'
  keep : ∀ k, k < w.heap.size → o k = id → ¬ F k ∧ o' k = id
def PS (w : World) (o : Nat → Nat) (id : Nat) (v : Value) (s : Option SSt) : Prop := (s = none ∧ v = .pointer none) ∨ ∃ t p lv V, s = some t ∧ v = .pointer (some ⟨p, 0, none⟩) ∧ Stk w 0 p t.most t.high t.L lv V ∧ ∀ k, SF p lv V t.L.length k → o k = id
def RS (w : World) (o : Nat → Nat) (id : Nat) (v : Value) (s : Option SSt) : Prop := (s = none ∧ v = .pointer none) ∨ ∃ t p lv V, s = some t ∧ v = .pointer (some ⟨p, 0, none⟩) ∧ RStk w 0 p t.most t.high t.L lv V ∧ ∀ k, SF p lv V t.L.length k → o k = id
theorem PS.stp {w w' : World} {F : Nat → Prop} {o o' : Nat → Nat} {id : Nat} {v : Value} {s : Option SSt} (h : PS w o id v s) (hs : Stp F o o' id w w') : PS w' o' id v s := by
  rcases h with h | ⟨t, p, lv, V, h1, h2, h3, h4⟩
  · exact .inl h
  · exact .inr ⟨t, p, lv, V, h1, h2, h3.only hs.only (fun k hk => (hs.keep k (h3.lt k hk).2 (h4 k hk)).1), fun k hk => (hs.keep k (h3.lt k hk).2 (h4 k hk)).2⟩
theorem RS.stp {w w' : World} {F : Nat → Prop} {o o' : Nat → Nat} {id : Nat} {v : Value} {s : Option SSt} (h : RS w o id v s) (hs : Stp F o o' id w w') : RS w' o' id v s := by
  rcases h with h | ⟨t, p, lv, V, h1, h2, h3, h4⟩
  · exact .inl h
  · exact .inr ⟨t, p, lv, V, h1, h2, h3.only hs.only (fun k hk => (hs.keep k (h3.lt k hk).2 (h4 k hk)).1), fun k hk => (hs.keep k (h3.lt k hk).2 (h4 k hk)).2⟩
structure RowI (w : World) (o : Nat → Nat) (id : Nat) (el : TypeId) (v : Value) (n : Nat) (xs : List Value) : Prop where
  row : w.ownsRow 0 el 1 v n xs
  id : ∀ k, v.ownBlock = some k → o k = id
theorem RowI.stp {w w' : World} {F : Nat → Prop} {o o' : Nat → Nat} {id : Nat} {el : TypeId} {v : Value} {n : Nat} {xs : List Value} (h : RowI w o id el v n xs) (hs : Stp F o o' id w w') : RowI w' o' id el v n xs :=
  ⟨own_only h.row hs.only (fun k hk => (hs.keep k (h.row.lt k hk).2 (h.id k hk)).1), fun k hk => (hs.keep k (h.row.lt k hk).2 (h.id k hk)).2⟩
/-- a list that is all of one mark -/
structure It (w : World) (o : Nat → Nat) (v u : Value) : Prop where
  sl : ∃ m, m ≤ 9223372036854775807 ∧ Sl w 1 v m (List.replicate m u)
  id : ∀ k, v.ownBlock = some k → k < w.heap.size ∧ o k = 10
theorem It.stp {w w' : World} {F : Nat → Prop} {o o' : Nat → Nat} {v u : Value} (h : It w o v u) (hs : Stp F o o' 10 w w') : It w' o' v u := by
  obtain ⟨m, hm, hsl⟩ := h.sl
  exact ⟨⟨m, hm, hsl.only hs.only (fun k hk => (hs.keep k (h.id k hk).1 (h.id k hk).2).1)⟩, fun k hk => ⟨Nat.lt_of_lt_of_le (h.id k hk).1 hs.only.size, (hs.keep k (h.id k hk).1 (h.id k hk).2).2⟩⟩
def mi (j : Nat) : Value := .int .i64 (-5 - (j : Int))
def mb (j : Nat) : Value := bv (UInt8.ofNat (7 * j + 1))
theorem it_snoc {w : World} {o : Nat → Nat} {n : Nat} {V f : Nat → Value} {v : Value} (h : ∀ j, j < n → It w o (V j) (f j)) (hv : It w o v (f n)) : ∀ j, j < n + 1 → It w o ((fun j => if j = n then v else V j) j) (f j) := fun j hj => by
  by_cases e : j = n
  · simp only [if_pos e]; rw [e]; exact hv
  · simp only [if_neg e]; exact h j (by omega)
def vals (V : Nat → Value) (n : Nat) : List Value := (List.range n).map V
theorem vals_snoc (V : Nat → Value) (n : Nat) (v : Value) : vals (fun j => if j = n then v else V j) (n + 1) = vals V n ++ [v] := by
  rw [vals, List.range_succ, List.map_append, List.map_singleton, if_pos rfl]
  congr 1
  exact List.map_congr_left (fun j hj => if_neg (by have := List.mem_range.1 hj; omega))
theorem vals_len (V : Nat → Value) (n : Nat) : (vals V n).length = n := by simp [vals]
theorem vals_at {V : Nat → Value} {n j : Nat} (h : j < n) : (vals V n)[j]? = some (V j) := by simp [vals, h]
structure Bk (w : World) (o : Nat → Nat) (a b c d : Value) (nl nb : Nat) (VA VB VC VD : Nat → Value) : Prop where
  a : RowI w o 5 37 a nl (vals VA nl)
  b : RowI w o 6 37 b nl (vals VB nl)
  c : RowI w o 7 23 c nb (vals VC nb)
  d : RowI w o 8 23 d nb (vals VD nb)
  la : ∀ j, j < nl → It w o (VA j) (mi j)
  lb : ∀ j, j < nl → It w o (VB j) (mi j)
  lc : ∀ j, j < nb → It w o (VC j) (mb j)
  ld : ∀ j, j < nb → It w o (VD j) (mb j)
theorem Bk.stp {w w' : World} {F : Nat → Prop} {o o' : Nat → Nat} {a b c d : Value} {nl nb : Nat} {VA VB VC VD : Nat → Value} (h : Bk w o a b c d nl nb VA VB VC VD) (hs : ∀ id, 5 ≤ id → id ≤ 10 → id ≠ 9 → Stp F o o' id w w') : Bk w' o' a b c d nl nb VA VB VC VD :=
  ⟨h.a.stp (hs 5 (by omega) (by omega) (by omega)), h.b.stp (hs 6 (by omega) (by omega) (by omega)), h.c.stp (hs 7 (by omega) (by omega) (by omega)), h.d.stp (hs 8 (by omega) (by omega) (by omega)), fun j hj => (h.la j hj).stp (hs 10 (by omega) (by omega) (by omega)), fun j hj => (h.lb j hj).stp (hs 10 (by omega) (by omega) (by omega)), fun j hj => (h.lc j hj).stp (hs 10 (by omega) (by omega) (by omega)), fun j hj => (h.ld j hj).stp (hs 10 (by omega) (by omega) (by omega))⟩
structure Good (s : SSt) : Prop where
  most : s.most ≤ 1048576
  high : s.high ≤ 1048576
  whole : ∀ f ∈ s.L, fwhole f = true
/-- two stacks, the document's beside them, and the book -/
structure Tb (w : World) (H tp : Nat) (o : Nat → Nat) (S R : Nat → Option SSt) (P Q : Nat → Value) (a b c d : Value) (nl nb : Nat) (VA VB VC VD : Nat → Value) : Prop where
  cell : w.heap[tp]? = some (.cells #[P 0, P 1, Q 0, Q 1, a, b, c, d] 55 (0, 0))
  otp : o tp = 9
  le : H ≤ w.heap.size
  lo : ∀ k, k < H → o k = 0
  hi : ∀ k, w.heap.size ≤ k → o k = 0
  ps : ∀ i, i < 2 → PS w o (1 + i) (P i) (S i)
  rs : ∀ i, i < 2 → RS w o (3 + i) (Q i) (R i)
  gs : ∀ i, i < 2 → ∀ s, S i = some s → Good s
  gr : ∀ i, i < 2 → ∀ s, R i = some s → Good s
  bk : Bk w o a b c d nl nb VA VB VC VD
theorem Tb.tlt {w : World} {H tp : Nat} {o : Nat → Nat} {S R : Nat → Option SSt} {P Q : Nat → Value} {a b c d : Value} {nl nb : Nat} {VA VB VC VD : Nat → Value} (h : Tb w H tp o S R P Q a b c d nl nb VA VB VC VD) : tp < w.heap.size := (Array.getElem?_eq_some_iff.1 h.cell).1
theorem Tb.step {w w' : World} {F : Nat → Prop} {H tp : Nat} {o o' : Nat → Nat} {S R : Nat → Option SSt} {P Q : Nat → Value} {a b c d : Value} {nl nb : Nat} {VA VB VC VD : Nat → Value} (h : Tb w H tp o S R P Q a b c d nl nb VA VB VC VD) (ho : Only F w w') (hk : ∀ k, k < w.heap.size → o k ≠ 0 → o k ≤ 10 → ¬ F k ∧ o' k = o k) (hlo : ∀ k, k < H → o' k = 0) (hhi : ∀ k, w'.heap.size ≤ k → o' k = 0) : Tb w' H tp o' S R P Q a b c d nl nb VA VB VC VD := by
  have st : ∀ id, 1 ≤ id → id ≤ 10 → Stp F o o' id w w' := fun id h1 h2 => ⟨ho, fun k hk1 hk2 => by have := hk k hk1 (by omega) (by omega); rw [hk2] at this; exact this⟩
  exact ⟨ho.blk h.cell (hk tp h.tlt (by rw [h.otp]; omega) (by rw [h.otp]; omega)).1, by rw [(hk tp h.tlt (by rw [h.otp]; omega) (by rw [h.otp]; omega)).2, h.otp], Nat.le_trans h.le ho.size, hlo, hhi, fun i hi => (h.ps i hi).stp (st _ (by omega) (by omega)), fun i hi => (h.rs i hi).stp (st _ (by omega) (by omega)), h.gs, h.gr, h.bk.stp (fun id h1 h2 _ => st id (by omega) h2)⟩
theorem Tb.ext {w w' : World} {H tp : Nat} {o : Nat → Nat} {S R : Nat → Option SSt} {P Q : Nat → Value} {a b c d : Value} {nl nb : Nat} {VA VB VC VD : Nat → Value} (h : Tb w H tp o S R P Q a b c d nl nb VA VB VC VD) (ho : Ext w w') : Tb w' H tp o S R P Q a b c d nl nb VA VB VC VD :=
  h.step ho (fun k _ _ _ => ⟨fun h => h, rfl⟩) h.lo (fun k hk => h.hi k (Nat.le_trans ho.size hk))
/-- only blocks that are nobody's are written -/
theorem Tb.loc {w w' : World} {F : Nat → Prop} {H tp : Nat} {o : Nat → Nat} {S R : Nat → Option SSt} {P Q : Nat → Value} {a b c d : Value} {nl nb : Nat} {VA VB VC VD : Nat → Value} (h : Tb w H tp o S R P Q a b c d nl nb VA VB VC VD) (ho : Only F w w') (hF : ∀ k, F k → o k = 0) : Tb w' H tp o S R P Q a b c d nl nb VA VB VC VD :=
  h.step ho (fun k _ h0 _ => ⟨fun hk => h0 (hF k hk), rfl⟩) h.lo (fun k hk => h.hi k (Nat.le_trans ho.size hk))
/-- a list of our own, or one that ends where it ends -/
def Lst (w : World) (el : TypeId) (v : Value) (xs : List Value) : Prop := ∃ a c cap, v = .slice a xs.length c ∧ w.ownsRow 0 el 1 (.slice a xs.length cap) xs.length xs ∧ (c = cap ∨ c = xs.length)
theorem Lst.own {w : World} {base : Nat} {el : TypeId} {v : Value} {n : Nat} {xs : List Value} (h : w.ownsRow base el 1 v n xs) : Lst w el v xs := by
  have hn : n = xs.length := by have := h.1; omega
  subst hn
  obtain ⟨a, c, rfl, -⟩ := own_form h
  exact ⟨a, c, c, rfl, own_mono h (Nat.zero_le _), .inl rfl⟩
theorem Lst.clip {w : World} {H : Nat} {v : Value} {l : List Int} (h : Clipd w H v l) : Lst w 3 v (ints l) := by
  obtain ⟨a, cap, rfl, h1⟩ := h
  have hl : l.length = (ints l).length := by simp
  rw [hl] at h1 ⊢
  exact ⟨a, _, cap, rfl, own_mono h1 (Nat.zero_le _), .inr rfl⟩
theorem Lst.sl {w : World} {el : TypeId} {v : Value} {xs : List Value} (h : Lst w el v xs) : Sl w 1 v xs.length xs := by
  obtain ⟨a, c, cap, rfl, h1, rfl | rfl⟩ := h
  · exact Sl.own h1
  · exact Sl.clip h1
theorem Lst.only {w w' : World} {F : Nat → Prop} {el : TypeId} {v : Value} {xs : List Value} (h : Lst w el v xs) (ho : Only F w w') (hn : ∀ k, v.ownBlock = some k → ¬ F k) : Lst w' el v xs := by
  obtain ⟨a, c, cap, rfl, h1, h2⟩ := h
  exact ⟨a, c, cap, rfl, own_only h1 ho (fun k hk => hn k (by cases a <;> exact hk)), h2⟩
theorem Lst.lt {w : World} {el : TypeId} {v : Value} {xs : List Value} (h : Lst w el v xs) : ∀ k, v.ownBlock = some k → k < w.heap.size := by
  obtain ⟨a, c, cap, rfl, h1, h2⟩ := h
  exact fun k hk => (h1.lt k (by cases a <;> exact hk)).2
theorem o_apL {P : Program} {e : Env} {w : World} {K : Value → World → Prop} {ty : TypeId} {x y : Operand} {t el : TypeId} {s bs bs' : Nat} {z z' v u z1 : Value} {d' : TypeDesc} {xs : List Value} (ht : Ty P t (.slice el) s bs z) (hel : Ty P el d' 1 bs' z') (hx : ev e x = v) (hy : ev e y = u)
    (hL : Lst w el v xs) (hS : Sl w 1 u 1 [z1]) (hzs : z'.cells.size = 1) (h1 : z1.oneCell' = true) (hl : xs.length ≤ 16000000000000) (hb8 : bs' ≤ 8)
    (k : ∀ v' w', Lst w' el v' (xs ++ [z1]) → Sl w' 1 v xs.length xs → Only (fun k => v.ownBlock = some k) w w' → (v'.ownBlock = v.ownBlock ∨ v'.ownBlock = some w.heap.size) → K v' w') : OP P e (.call ⟨.builtin .append, #[x, y], #[t, t]⟩) ty w K := by
  obtain ⟨a, c, cap, rfl, hown, hc⟩ := hL
  have hby : (xs.length + 1) * bs' ≤ 140737488355328 := Nat.le_trans (Nat.mul_le_mul_left _ hb8) (by omega)
  have own : ∀ {c}, w.ownsRow 0 el 1 (.slice a xs.length c) xs.length xs → ev e x = .slice a xs.length c → OP P e (.call ⟨.builtin .append, #[x, y], #[t, t]⟩) ty w (fun v' w' => Lst w' el v' (xs ++ [z1]) ∧ Sl w' 1 (.slice a xs.length c) xs.length xs ∧ Only (fun k => (Value.slice a xs.length c).ownBlock = some k) w w' ∧ (v'.ownBlock = (Value.slice a xs.length c).ownBlock ∨ v'.ownBlock = some w.heap.size)) := by
    intro c ho he
    exact o_apO 0 ht hel he hy ho hS hzs (by omega) (by intro a ha; simp only [List.mem_singleton] at ha; rw [ha]; exact h1) (by rw [maxLen_eq]; omega) hby (Nat.zero_le _) (fun v' w' h1 h2 h3 h4 => ⟨Lst.own h1, Sl.own h4.1, h2, h3⟩)
  rcases hc with rfl | rfl
  · exact (own hown hx).mono (fun v' w' h => k v' w' h.1 h.2.1 h.2.2.1 h.2.2.2)
  · rcases hown.2 with ⟨h1', h2'⟩ | ⟨g, cap', cur, h1', hbg, hg, hnc, hcm, hcs, htake⟩
    · simp only [Value.slice.injEq] at h1'
      obtain ⟨rfl, e0, -⟩ := h1'
      have hx0 : xs = [] := List.eq_nil_of_length_eq_zero e0
      subst hx0
      exact (own (World.ownsRow_nil _ _ _ _) (by simpa using hx)).mono (fun v' w' h => k v' w' h.1 h.2.1 h.2.2.1 h.2.2.2)
    · cases h1'
      obtain ⟨i, hi1, hi2, hi3, hi4⟩ := hel.info
      rcases hS.val with ⟨h0, _⟩ | ⟨b, off, c2, rfl, hnc2, hc2⟩
      · omega
      have holds : ∀ j u, xs[j]? = some u → w.cell? ((⟨g, 0, none⟩ : Addr).add j) = some u := hown.cells (g := g) rfl
      have hr2 := run_append_grow (P := P) (w := w) t ty el i z' ht.und hi1 hi4 ⟨g, 0, none⟩ xs.length xs.length xs (by rw [hi2]; omega) holds ⟨b, off, none⟩ 1 c2 [z1] (by rw [hi2]; rfl) (fun j u hj => by rw [add_none]; exact hc2 j u hj) (by omega) (by omega) (by rw [hi3]; exact growslice_fits (by omega) hby)
      refine OP.of (by simp [execOp, resolve, invoke, builtin, hx, hy, hr2]; exact ⟨rfl, rfl⟩) ?_
      have hx1 : Ext w (w.drew.alloc (.cells ((xs ++ [z1]).toArray ++ Builtin.zeroCells z'.cells (grownCap w (xs.length + 1) xs.length el - (xs.length + 1))) el)) := (Only.drew w).tr (Only.alloc w.drew _)
      refine k _ _ (Lst.own (base := 0) (n := xs.length + 1) ⟨by simp, .inr ⟨w.heap.size, _, _, rfl, Nat.zero_le _, heap_alloc_new w.drew _, grownCap_ge w (xs.length + 1) xs.length el, grownCap_le_maxLen w (xs.length + 1) xs.length el (by rw [maxLen_eq]; omega), ?_, ?_⟩⟩) (Sl.ext (Sl.clip hown) hx1) (hx1.mono (fun _ _ h => h.elim)) (.inr rfl)
      · have := grownCap_ge w (xs.length + 1) xs.length el
        simp [size_zeroCells, hzs]; omega
      · simp only [Array.toList_append, Nat.mul_one]
        exact List.take_left' (by simp)


theorem Tb.bookT {w w' : World} {H tp id : Nat} {o : Nat → Nat} {S R : Nat → Option SSt} {P Q : Nat → Value} {a b c d a' b' tv gv : Value} {nl nb q : Nat} {VA VB VC VD : Nat → Value} (h : Tb w H tp o S R P Q a b c d nl nb VA VB VC VD) (ho : Only (fun k => a.ownBlock = some k ∨ b.ownBlock = some k ∨ k = tp ∨ tv.ownBlock = some k) w w')
    (cell : w'.heap[tp]? = some (.cells #[P 0, P 1, Q 0, Q 1, a', b', c, d] 55 (0, 0))) (ra : w'.ownsRow 0 37 1 a' (nl + 1) (vals VA nl ++ [tv])) (rb : w'.ownsRow 0 37 1 b' (nl + 1) (vals VB nl ++ [gv]))
    (hid : 11 ≤ id) (htv : ∀ k, tv.ownBlock = some k → k < w.heap.size ∧ o k = id) (ha : ∀ k, a'.ownBlock = some k → a.ownBlock = some k ∨ w.heap.size ≤ k) (hb : ∀ k, b'.ownBlock = some k → b.ownBlock = some k ∨ w.heap.size ≤ k) (hg : ∀ k, gv.ownBlock = some k → tv.ownBlock = some k ∨ w.heap.size ≤ k) (hab : ∀ k, a'.ownBlock = some k → ¬ b'.ownBlock = some k) (hga : ∀ k, gv.ownBlock = some k → ¬ a'.ownBlock = some k) (hgb : ∀ k, gv.ownBlock = some k → ¬ b'.ownBlock = some k)
    (hq : q ≤ 9000000000000000000) (i1 : Sl w' 1 tv q (List.replicate q (mi nl))) (i2 : Sl w' 1 gv (q + 1) (List.replicate (q + 1) (mi nl))) (hgl : ∀ k, gv.ownBlock = some k → k < w'.heap.size) :
    ∃ o', Tb w' H tp o' S R P Q a' b' c d (nl + 1) nb ((fun j => if j = nl then tv else VA j)) ((fun j => if j = nl then gv else VB j)) (VC) (VD) ∧ ∀ k, k < w.heap.size → o k ≠ id → o' k = o k := by
  have hA := h.bk.a.id
  have hB := h.bk.b.id
  have hle := h.le
  have htl := h.tlt
  have hot := h.otp
  obtain ⟨o', e1, e2, e3, e4, e5⟩ : ∃ o' : Nat → Nat, (∀ k, a'.ownBlock = some k → o' k = 5) ∧ (∀ k, b'.ownBlock = some k → o' k = 6) ∧ (∀ k, tv.ownBlock = some k ∨ gv.ownBlock = some k → o' k = 10) ∧ (∀ k, k < w.heap.size → o k ≠ id → o' k = o k) ∧ ∀ k, w'.heap.size ≤ k → o' k = 0 := by
    classical
    refine ⟨fun k => if a'.ownBlock = some k then 5 else if b'.ownBlock = some k then 6 else if tv.ownBlock = some k ∨ gv.ownBlock = some k then 10 else if k < w.heap.size then o k else 0, fun k hk => if_pos hk, fun k hk => ?_, fun k hk => ?_, fun k hk h0 => ?_, fun k hk => ?_⟩
    · show (if _ then _ else _) = _
      rw [if_neg (fun h1 => hab k h1 hk), if_pos hk]
    · show (if _ then _ else _) = _
      have n1 : ¬ a'.ownBlock = some k := fun h1 => by
        rcases hk with hk | hk
        · have h2 := htv k hk
          rcases ha k h1 with h3 | h3
          · have := hA k h3; omega
          · omega
        · exact hga k hk h1
      have n2 : ¬ b'.ownBlock = some k := fun h1 => by
        rcases hk with hk | hk
        · have h2 := htv k hk
          rcases hb k h1 with h3 | h3
          · have := hB k h3; omega
          · omega
        · exact hgb k hk h1
      rw [if_neg n1, if_neg n2, if_pos hk]
    · show (if _ then _ else _) = _
      by_cases c1 : a'.ownBlock = some k
      · rw [if_pos c1]
        rcases ha k c1 with h3 | h3
        · exact (hA k h3).symm
        · omega
      rw [if_neg c1]
      by_cases c2 : b'.ownBlock = some k
      · rw [if_pos c2]
        rcases hb k c2 with h3 | h3
        · exact (hB k h3).symm
        · omega
      rw [if_neg c2, if_neg, if_pos hk]
      rintro (h1 | h1)
      · exact h0 (htv k h1).2
      · rcases hg k h1 with h3 | h3
        · exact h0 (htv k h3).2
        · omega
    · show (if _ then _ else _) = _
      have hsz := ho.size
      rw [if_neg (fun h1 => by have := (ra.lt k h1).2; omega), if_neg (fun h1 => by have := (rb.lt k h1).2; omega), if_neg, if_neg (by omega)]
      rintro (h1 | h1)
      · have := (htv k h1).1; omega
      · have := hgl k h1; omega
  have st : ∀ i, 1 ≤ i → i ≤ 10 → i ≠ 5 → i ≠ 6 → i ≠ 9 → Stp (fun k => a.ownBlock = some k ∨ b.ownBlock = some k ∨ k = tp ∨ tv.ownBlock = some k) o o' i w w' := fun i h1 h2 h3 h4 h5 => ⟨ho, fun k hk1 hk2 => ⟨by
      rintro (hF | hF | hF | hF)
      · have := hA k hF; omega
      · have := hB k hF; omega
      · rw [hF] at hk2; omega
      · have := (htv k hF).2; omega, by rw [e4 k hk1 (by omega)]; exact hk2⟩⟩
  have itv : It w' o' tv (mi nl) := ⟨⟨q, by omega, i1⟩, fun k hk => ⟨Nat.lt_of_lt_of_le (htv k hk).1 ho.size, e3 k (.inl hk)⟩⟩
  have igv : It w' o' gv (mi nl) := ⟨⟨q + 1, by omega, i2⟩, fun k hk => ⟨hgl k hk, e3 k (.inr hk)⟩⟩
  refine ⟨o', ⟨cell, by rw [e4 tp htl (by omega)]; exact hot, Nat.le_trans hle ho.size, fun k hk => by rw [e4 k (by omega) (by have := h.lo k hk; omega)]; exact h.lo k hk, e5, fun i hi => (h.ps i hi).stp (st _ (by omega) (by omega) (by omega) (by omega) (by omega)), fun i hi => (h.rs i hi).stp (st _ (by omega) (by omega) (by omega) (by omega) (by omega)), h.gs, h.gr, ?_⟩, e4⟩
  exact ⟨⟨by rw [vals_snoc]; exact ra, e1⟩, ⟨by rw [vals_snoc]; exact rb, e2⟩, h.bk.c.stp (st 7 (by omega) (by omega) (by omega) (by omega) (by omega)), h.bk.d.stp (st 8 (by omega) (by omega) (by omega) (by omega) (by omega)), it_snoc (fun j hj => (h.bk.la j hj).stp (st 10 (by omega) (by omega) (by omega) (by omega) (by omega))) itv, it_snoc (fun j hj => (h.bk.lb j hj).stp (st 10 (by omega) (by omega) (by omega) (by omega) (by omega))) igv, fun j hj => (h.bk.lc j hj).stp (st 10 (by omega) (by omega) (by omega) (by omega) (by omega)), fun j hj => (h.bk.ld j hj).stp (st 10 (by omega) (by omega) (by omega) (by omega) (by omega))⟩

theorem Tb.bookB {w w' : World} {H tp id : Nat} {o : Nat → Nat} {S R : Nat → Option SSt} {P Q : Nat → Value} {a b c d a' b' tv gv : Value} {nl nb q : Nat} {VA VB VC VD : Nat → Value} (h : Tb w H tp o S R P Q a b c d nl nb VA VB VC VD) (ho : Only (fun k => c.ownBlock = some k ∨ d.ownBlock = some k ∨ k = tp ∨ tv.ownBlock = some k) w w')
    (cell : w'.heap[tp]? = some (.cells #[P 0, P 1, Q 0, Q 1, a, b, a', b'] 55 (0, 0))) (ra : w'.ownsRow 0 23 1 a' (nb + 1) (vals VC nb ++ [tv])) (rb : w'.ownsRow 0 23 1 b' (nb + 1) (vals VD nb ++ [gv]))
    (hid : 11 ≤ id) (htv : ∀ k, tv.ownBlock = some k → k < w.heap.size ∧ o k = id) (ha : ∀ k, a'.ownBlock = some k → c.ownBlock = some k ∨ w.heap.size ≤ k) (hb : ∀ k, b'.ownBlock = some k → d.ownBlock = some k ∨ w.heap.size ≤ k) (hg : ∀ k, gv.ownBlock = some k → tv.ownBlock = some k ∨ w.heap.size ≤ k) (hab : ∀ k, a'.ownBlock = some k → ¬ b'.ownBlock = some k) (hga : ∀ k, gv.ownBlock = some k → ¬ a'.ownBlock = some k) (hgb : ∀ k, gv.ownBlock = some k → ¬ b'.ownBlock = some k)
    (hq : q ≤ 9000000000000000000) (i1 : Sl w' 1 tv q (List.replicate q (mb nb))) (i2 : Sl w' 1 gv (q + 1) (List.replicate (q + 1) (mb nb))) (hgl : ∀ k, gv.ownBlock = some k → k < w'.heap.size) :
    ∃ o', Tb w' H tp o' S R P Q a b a' b' nl (nb + 1) (VA) (VB) ((fun j => if j = nb then tv else VC j)) ((fun j => if j = nb then gv else VD j)) ∧ ∀ k, k < w.heap.size → o k ≠ id → o' k = o k := by
  have hA := h.bk.c.id
  have hB := h.bk.d.id
  have hle := h.le
  have htl := h.tlt
  have hot := h.otp
  obtain ⟨o', e1, e2, e3, e4, e5⟩ : ∃ o' : Nat → Nat, (∀ k, a'.ownBlock = some k → o' k = 7) ∧ (∀ k, b'.ownBlock = some k → o' k = 8) ∧ (∀ k, tv.ownBlock = some k ∨ gv.ownBlock = some k → o' k = 10) ∧ (∀ k, k < w.heap.size → o k ≠ id → o' k = o k) ∧ ∀ k, w'.heap.size ≤ k → o' k = 0 := by
    classical
    refine ⟨fun k => if a'.ownBlock = some k then 7 else if b'.ownBlock = some k then 8 else if tv.ownBlock = some k ∨ gv.ownBlock = some k then 10 else if k < w.heap.size then o k else 0, fun k hk => if_pos hk, fun k hk => ?_, fun k hk => ?_, fun k hk h0 => ?_, fun k hk => ?_⟩
    · show (if _ then _ else _) = _
      rw [if_neg (fun h1 => hab k h1 hk), if_pos hk]
    · show (if _ then _ else _) = _
      have n1 : ¬ a'.ownBlock = some k := fun h1 => by
        rcases hk with hk | hk
        · have h2 := htv k hk
          rcases ha k h1 with h3 | h3
          · have := hA k h3; omega
          · omega
        · exact hga k hk h1
      have n2 : ¬ b'.ownBlock = some k := fun h1 => by
        rcases hk with hk | hk
        · have h2 := htv k hk
          rcases hb k h1 with h3 | h3
          · have := hB k h3; omega
          · omega
        · exact hgb k hk h1
      rw [if_neg n1, if_neg n2, if_pos hk]
    · show (if _ then _ else _) = _
      by_cases c1 : a'.ownBlock = some k
      · rw [if_pos c1]
        rcases ha k c1 with h3 | h3
        · exact (hA k h3).symm
        · omega
      rw [if_neg c1]
      by_cases c2 : b'.ownBlock = some k
      · rw [if_pos c2]
        rcases hb k c2 with h3 | h3
        · exact (hB k h3).symm
        · omega
      rw [if_neg c2, if_neg, if_pos hk]
      rintro (h1 | h1)
      · exact h0 (htv k h1).2
      · rcases hg k h1 with h3 | h3
        · exact h0 (htv k h3).2
        · omega
    · show (if _ then _ else _) = _
      have hsz := ho.size
      rw [if_neg (fun h1 => by have := (ra.lt k h1).2; omega), if_neg (fun h1 => by have := (rb.lt k h1).2; omega), if_neg, if_neg (by omega)]
      rintro (h1 | h1)
      · have := (htv k h1).1; omega
      · have := hgl k h1; omega
  have st : ∀ i, 1 ≤ i → i ≤ 10 → i ≠ 7 → i ≠ 8 → i ≠ 9 → Stp (fun k => c.ownBlock = some k ∨ d.ownBlock = some k ∨ k = tp ∨ tv.ownBlock = some k) o o' i w w' := fun i h1 h2 h3 h4 h5 => ⟨ho, fun k hk1 hk2 => ⟨by
      rintro (hF | hF | hF | hF)
      · have := hA k hF; omega
      · have := hB k hF; omega
      · rw [hF] at hk2; omega
      · have := (htv k hF).2; omega, by rw [e4 k hk1 (by omega)]; exact hk2⟩⟩
  have itv : It w' o' tv (mb nb) := ⟨⟨q, by omega, i1⟩, fun k hk => ⟨Nat.lt_of_lt_of_le (htv k hk).1 ho.size, e3 k (.inl hk)⟩⟩
  have igv : It w' o' gv (mb nb) := ⟨⟨q + 1, by omega, i2⟩, fun k hk => ⟨hgl k hk, e3 k (.inr hk)⟩⟩
  refine ⟨o', ⟨cell, by rw [e4 tp htl (by omega)]; exact hot, Nat.le_trans hle ho.size, fun k hk => by rw [e4 k (by omega) (by have := h.lo k hk; omega)]; exact h.lo k hk, e5, fun i hi => (h.ps i hi).stp (st _ (by omega) (by omega) (by omega) (by omega) (by omega)), fun i hi => (h.rs i hi).stp (st _ (by omega) (by omega) (by omega) (by omega) (by omega)), h.gs, h.gr, ?_⟩, e4⟩
  exact ⟨h.bk.a.stp (st 5 (by omega) (by omega) (by omega) (by omega) (by omega)), h.bk.b.stp (st 6 (by omega) (by omega) (by omega) (by omega) (by omega)), ⟨by rw [vals_snoc]; exact ra, e1⟩, ⟨by rw [vals_snoc]; exact rb, e2⟩, fun j hj => (h.bk.la j hj).stp (st 10 (by omega) (by omega) (by omega) (by omega) (by omega)), fun j hj => (h.bk.lb j hj).stp (st 10 (by omega) (by omega) (by omega) (by omega) (by omega)), it_snoc (fun j hj => (h.bk.lc j hj).stp (st 10 (by omega) (by omega) (by omega) (by omega) (by omega))) itv, it_snoc (fun j hj => (h.bk.ld j hj).stp (st 10 (by omega) (by omega) (by omega) (by omega) (by omega))) igv⟩


theorem Lst.cells1 {w : World} {el : TypeId} {v : Value} {xs : List Value} (h : Lst w el v xs) : v.cells = #[v] := by
  obtain ⟨a, c, cap, rfl, -⟩ := h
  rfl
theorem Lst.row {w : World} {el : TypeId} {v : Value} {xs : List Value} (h : Lst w el v xs) {base' : Nat} {el' : TypeId} {s' n' : Nat} {v' : Value} {xs' : List Value} (h' : w.ownsRow base' el' s' v' n' xs') (hne : el ≠ el') : ∀ k, v.ownBlock = some k → ¬ v'.ownBlock = some k := by
  obtain ⟨a, c, cap, rfl, h1, -⟩ := h
  intro k hk
  exact own_row_off h' h1 (Ne.symm hne) k (by cases a <;> exact hk)
theorem Lst.at {w : World} {el : TypeId} {a : Option Addr} {n c cap : Nat} {ys : List Value} (h : w.ownsRow 0 el 1 (.slice a n cap) n ys) (hc : c = cap ∨ c = n) : Lst w el (.slice a n c) ys ∧ Sl w 1 (.slice a n c) n ys := by
  have hn : n = ys.length := by have := h.1; omega
  subst hn
  have hL : Lst w el (.slice a ys.length c) ys := ⟨a, c, cap, rfl, h, hc⟩
  exact ⟨hL, hL.sl⟩
def Gv (tv : Value) (B : Nat) (el : TypeId) (xs : List Value) (z v : Value) (w : World) : Prop := Lst w el v (xs ++ [z]) ∧ Sl w 1 tv xs.length xs ∧ ∀ k, v.ownBlock = some k → tv.ownBlock = some k ∨ B ≤ k
theorem Gv.keep {tv : Value} {B : Nat} {el : TypeId} {xs : List Value} {z v : Value} {w w' : World} {F : Nat → Prop} (h : Gv tv B el xs z v w) (ho : Only F w w') (hn : ∀ k, (tv.ownBlock = some k ∨ B ≤ k) → ¬ F k) : Gv tv B el xs z v w' :=
  ⟨h.1.only ho (fun k hk => hn k (h.2.2 k hk)), h.2.1.only ho (fun k hk => hn k (.inl hk)), h.2.2⟩
theorem Lst.one {w : World} {el : TypeId} {v : Value} {xs : List Value} (h : Lst w el v xs) : v.oneCell' = true := by
  obtain ⟨a, c, cap, rfl, -⟩ := h
  rfl
theorem Lst.new1 {w w1 : World} {el T : TypeId} {v : Value} {xs : List Value} (h : Lst w el v xs) : (w1.alloc (.cells v.cells T)).ownsRow w1.heap.size T 1 (.slice (some ⟨w1.heap.size, 0, none⟩) 1 1) 1 [v] := by
  obtain ⟨a, c, cap, rfl, -⟩ := h
  exact own_new1 rfl
theorem set_mark {u : Value} {xs : List Value} {k : Nat} (h : k < xs.length) : (List.replicate k u ++ xs.drop k).set k u = List.replicate (k + 1) u ++ xs.drop (k + 1) := by
  rw [List.set_append_right _ _ (by simp), List.length_replicate, Nat.sub_self, List.replicate_succ', List.append_assoc]
  congr 1
  rw [← List.getElem_cons_drop h]
  rfl

set_option maxHeartbeats 1000000 in
theorem btable_spec (H tp : Nat) (o : Nat → Nat) (S R : Nat → Option SSt) (P Q : Nat → Value) (a b c d : Value) (nl nb : Nat) (VA VB VC VD : Nat → Value) (w0 : World) (h : Tb w0 H tp o S R P Q a b c d nl nb VA VB VC VD) (tv : Value) (xs : List Value) (id : Nat) (hid : 11 ≤ id) (hL : Lst w0 3 tv xs) (hti : ∀ k, tv.ownBlock = some k → o k = id) (hl : xs.length ≤ 12000000000000) (hn : nl ≤ 1000000000000) : Ca Try.prog 59 #[.pointer (some ⟨tp, 4, none⟩), tv] w0 (fun v w' => (∃ o' a' b' VA' VB', Tb w' H tp o' S R P Q a' b' c d (nl + 1) nb VA' VB' VC VD ∧ ∀ k, k < w0.heap.size → o k ≠ id → o' k = o k) ∧ Only (fun k => (5 ≤ o k ∧ o k ≤ 9) ∨ o k = id) w0 w') := by
  obtain ⟨ta, tc, tcap, rfl, hown, hc⟩ := hL
  have hcell := h.cell
  refine Ca.of Try.func59 Try.ntmps59 rfl rfl ?_
  refine W.seq ?_
  refine W.region ?_
  refine WL.c rfl (o_mvh (by first | exact (show _ = Value.pointer _ from rfl) | exact rfl) ?_)
  refine WL.c rfl (o_nil rfl ?_)
  refine WL.c rfl (o_fa 0 TI53 rfl TI50 rfl rfl ?_)
  refine WL.c rfl (o_ld TI50 rfl rfl (cell_of hcell rfl) ?_)
  refine WL.c rfl (o_lenR TI50 rfl (Sl.own h.bk.a.row) ?_)
  refine WL.c rfl (o_subi rfl rfl (by omega) ?_)
  refine WL.c rfl (o_ash (show _ = Value.int _ _ from rfl) ?_)
  refine WL.nil ?_
  refine W.seq ?_
  refine W.seq ?_
  refine W.region ?_
  refine WL.c rfl (o_ash (show _ = Value.int _ _ from rfl) ?_)
  refine WL.nil ?_
  refine W.block ?_
  refine W.loop (fun e w => ∃ (k : Nat), k ≤ xs.length ∧ e 0 = .pointer (some ⟨tp, 4, none⟩) ∧ e 1 = Value.slice ta xs.length tc ∧ e 4 = mi nl ∧ e 5 = .int .i64 (k : Int) ∧ w.ownsRow 0 3 1 (.slice ta xs.length tcap) xs.length (List.replicate k (mi nl) ++ xs.drop k) ∧ Only (fun k => (Value.slice ta xs.length tc).ownBlock = some k) w0 w) (fun e w => xs.length - (intOf (e 5)).toNat) ?_ ?_
  · exact ⟨0, Nat.zero_le _, rfl, rfl, rfl, rfl, by simpa using hown, Only.refl _ _⟩
  rintro e w ⟨k, hk, h0, h1, h4, h5, hrow, ho⟩
  have hm5 := h5
  have hin := (Lst.at hrow hc).2
  refine W.seq ?_
  refine W.seq ?_
  refine W.region ?_
  refine WL.c rfl (o_mvh h5 ?_)
  refine WL.c rfl (o_mvh h1 ?_)
  refine WL.c rfl (o_lenR TI37 rfl hin ?_)
  refine WL.c rfl (o_lt rfl rfl ?_)
  refine WL.nil ?_
  refine W.cond rfl (fun c15 => ?_) (fun c15 => ?_)
  · try simp only [decide_eq_true_eq, decide_eq_false_iff_not, Bool.not_eq_true', Bool.not_eq_false', Bool.and_eq_true, Bool.or_eq_true, Bool.and_eq_false_iff, Bool.or_eq_false_iff] at c15
    refine W.skip ?_
    refine W.seq ?_
    refine W.block ?_
    have hk1 : k < xs.length := by omega
    obtain ⟨g, rfl⟩ : ∃ g, ta = some ⟨g, 0, none⟩ := by
      obtain ⟨g, cap, hv, -⟩ := own_some hrow (by omega)
      simp only [Value.slice.injEq] at hv
      exact ⟨g, hv.1⟩
    refine W.region ?_
    refine WL.c rfl (o_mvh h1 ?_)
    refine WL.c rfl (o_mvh h5 ?_)
    refine WL.c rfl (o_mvh h4 ?_)
    refine WL.c rfl (o_ixB (i := k) TI37 TI3 (show _ = Value.slice (some ⟨g, 0, none⟩) xs.length tc from rfl) rfl (by omega) ?_)
    refine WL.u (o_stRo TI3 rfl (show _ = mi nl from rfl) rfl hrow rfl (by omega) ?_)
    intro w7 hrow7 ho7 hs7
    rw [show 0 + k * 1 = k by omega] at hrow7
    replace ho7 := ho.trans (ho7.mono (fun k _ hk => hk))
    refine WL.nil ?_
    refine W.region ?_
    refine WL.c rfl (o_mvh h5 ?_)
    refine WL.c rfl (o_addi rfl rfl (by omega) ?_)
    refine WL.c rfl (o_ash (show _ = Value.int _ _ from rfl) ?_)
    refine WL.nil ?_
    refine ⟨⟨k + 1, by omega, h0, h1, h4, rfl, by rw [← set_mark hk1]; exact hrow7, ho7⟩, ?_⟩
    show xs.length - ((k : Int) + 1).toNat < _
    rw [hm5]; simp only [intOf]; omega
  · try simp only [decide_eq_true_eq, decide_eq_false_iff_not, Bool.not_eq_true', Bool.not_eq_false', Bool.and_eq_true, Bool.or_eq_true, Bool.and_eq_false_iff, Bool.or_eq_false_iff] at c15
    refine W.exit ?_
    refine W.seq ?_
    obtain ⟨tv, htv⟩ : ∃ tv, tv = Value.slice ta xs.length tc := ⟨_, rfl⟩
    rw [← htv] at h1 hin hti ho ⊢
    have hkl : k = xs.length := by omega
    subst hkl
    rw [List.drop_length, List.append_nil] at hrow hin
    have hLt := (Lst.at hrow hc).1
    rw [← htv] at hLt
    have htz := hLt.lt
    have hT : Tb w H tp o S R P Q a b c d nl nb VA VB VC VD := h.step ho (fun k _ _ h10 => ⟨fun hF => by have := hti k hF; omega, rfl⟩) h.lo (fun k hk => h.hi k (Nat.le_trans ho.size hk))
    clear hcell
    obtain ⟨wz, rfl⟩ : ∃ wz, wz = w := ⟨_, rfl⟩
    refine W.region ?_
    refine WL.cut (fun e1 w1 => ∃ v29, e1 0 = .pointer (some ⟨tp, 4, none⟩) ∧ e1 1 = tv ∧ e1 4 = mi nl ∧ w1.heap[tp]? = some (.cells #[P 0, P 1, Q 0, Q 1, v29, b, c, d] 55 (0, 0)) ∧ Only (fun k => a.ownBlock = some k ∨ k = tp) wz w1 ∧ w1.ownsRow 0 37 1 v29 (nl + 1) (vals VA nl ++ [tv]) ∧ w1.ownsRow 0 37 1 b nl (vals VB nl) ∧ Lst w1 3 tv (List.replicate xs.length (mi nl)) ∧ (∀ k, v29.ownBlock = some k → a.ownBlock = some k ∨ wz.heap.size ≤ k) ∧ ∀ k, v29.ownBlock = some k → k < w1.heap.size) ?_ ?_
    · -- region 5
      refine WL.c rfl (o_mvh h0 ?_)
      refine WL.c rfl (o_mvh h0 ?_)
      refine WL.c rfl (o_nil rfl ?_)
      refine WL.c rfl (o_fa 0 TI53 rfl TI50 rfl rfl ?_)
      refine WL.c rfl (o_ld TI50 rfl rfl (cell_of hT.cell rfl) ?_)
      refine WL.c rfl (o_mvh h1 ?_)
      refine WL.apO (0) rfl rfl TI50 TI37 (show _ = tv from rfl) rfl hT.bk.a.row (by decide) (by decide) (by rw [hLt.cells1]; rfl) (one1 hLt.one) rfl (by rw [maxLen_eq]; omega) (by omega) (Nat.zero_le _) ?_
      intro v29 w29 h29 ho29 hb29 hk29
      have hcell29 := ho29.blk hT.cell (fun hk => by have := hT.bk.a.id _ hk; rw [hT.otp] at this; omega)
      replace h29 : w29.ownsRow 0 37 1 v29 (nl + 1) (vals VA nl ++ [tv]) := by rw [hLt.cells1] at h29; exact h29
      refine WL.c rfl (o_nil rfl ?_)
      refine WL.c rfl (o_fa 0 TI53 rfl TI50 rfl rfl ?_)
      refine WL.u (o_stB TI50 rfl (show _ = v29 from rfl) (own_one h29) hcell29 (show 4 < 8 by decide) ?_)
      intro w31 hB31 ho31 hs31
      replace hB31 : w31.heap[tp]? = some (.cells #[P 0, P 1, Q 0, Q 1, v29, b, c, d] 55 (0, 0)) := hB31
      have ho1 : Only (fun k => a.ownBlock = some k ∨ k = tp) wz w31 := (ho29.mono (fun _ _ h => .inl h)).trans (ho31.mono (fun _ _ h => .inr h))
      have hrA := own_only h29 ho31 (fun k hk he => by subst he; exact own_off h29 hcell29 (by decide) hk)
      have hidA := hT.bk.a.id
      have hidB := hT.bk.b.id
      have hot := hT.otp
      have hrB := own_only hT.bk.b.row ho1 (fun k hk hF => by have := hidB k hk; rcases hF with hF | hF; have := hidA k hF; omega; subst hF; omega)
      replace hLt := hLt.only ho1 (fun k hk hF => by have := hti k hk; rcases hF with hF | hF; have := hidA k hF; omega; subst hF; omega)
      exact WL.nil (⟨v29, h0, h1, h4, hB31, ho1, hrA, hrB, hLt, fun k hk => by (rcases hb29 with hb | hb; rw [hb] at hk; exact .inl hk; rw [hb] at hk; cases hk; exact .inr (Nat.le_succ _)), fun k hk => (hrA.lt k hk).2⟩)
    rintro e w ⟨v29, h0, h1, h4, hB31, ho1, hrA, hrB, hLt, ha29, hal29⟩
    have hidA := hT.bk.a.id
    have hidB := hT.bk.b.id
    have hot := hT.otp
    obtain ⟨wd, hwd⟩ : ∃ wd, wd = w.drew := ⟨_, rfl⟩
    have hxd : Ext w wd := hwd ▸ Only.drew w
    replace ho1 : Only (fun k => a.ownBlock = some k ∨ k = tp) wz wd := ho1.trans (hxd.mono (fun _ _ h => h.elim))
    replace hrA := own_ext hrA hxd
    replace hrB := own_ext hrB hxd
    replace hLt := hLt.only hxd (fun _ _ h => h)
    replace hB31 := hxd.blk hB31 (fun h => h)
    have hbl : ∀ k, b.ownBlock = some k → k < wd.heap.size ∧ o k = 6 := fun k hk => ⟨(hrB.lt k hk).2, hidB k hk⟩
    have htl : ∀ k, tv.ownBlock = some k → k < wd.heap.size ∧ o k = id := fun k hk => ⟨hLt.lt k hk, hti k hk⟩
    have htpl : tp < wd.heap.size := (Array.getElem?_eq_some_iff.1 hB31).1
    have hbG : ∀ k, (tv.ownBlock = some k ∨ wd.heap.size ≤ k) → ¬ b.ownBlock = some k := fun k hk hF => by
      have := hbl k hF
      rcases hk with hk | hk
      · have := htl k hk; omega
      · omega
    have hlr : (List.replicate xs.length (mi nl)).length = xs.length := by simp
    have hw0w := ho.size
    have hw31 := ho1.size
    refine W.drawF 11 [8, 10] [fun k => tv.ownBlock = some k, fun k => b.ownBlock = some k] [(0, fun v _ => v = _), (1, fun v _ => v = _), (4, fun v _ => v = _)] rfl (by kernel_rfl) (by kernel_rfl) ⟨Mono.eq, Mono.eq, Mono.eq, trivial⟩ ⟨h0, h1, h4, trivial⟩ ?_
    refine WDS.p rfl (by decide) (fun e w hR hh => by obtain ⟨h0, -⟩ := hh; exact SG.n (o_mvh h0 ⟨rfl, Only.refl No _⟩)) ?_
    refine WDS.p rfl (by decide) (fun e w hR hh => by obtain ⟨h0, -⟩ := hh; exact SG.n (o_mvh h0 ⟨rfl, Only.refl No _⟩)) ?_
    refine WDS.p rfl (by decide) (fun e w hR hh => by obtain ⟨h33, -⟩ := hh; exact SG.n (o_nil h33 ⟨rfl, Only.refl No _⟩)) ?_
    refine WDS.p rfl (by decide) (fun e w hR hh => by obtain ⟨h34, -⟩ := hh; exact SG.n (o_fa 1 TI53 rfl TI50 rfl h34 ⟨rfl, Only.refl No _⟩)) ?_
    refine WDS.p rfl (by decide) (fun e w hR hh => by obtain ⟨h35, -⟩ := hh; rw [← hwd] at hR; have hc := hR.blk hB31 (fun hF => by rcases hF with hF | hF | hF; have := (htl _ hF).2; omega; have := (hbl _ hF).2; omega; exact hF); exact SG.n (o_ld TI50 rfl h35 (cell_of hc rfl) ⟨rfl, Only.refl No _⟩)) ?_
    refine WDS.p rfl (by decide) (fun e w hR hh => by obtain ⟨h1, -⟩ := hh; exact SG.n (o_mvh h1 ⟨rfl, Only.refl No _⟩)) ?_
    refine WDS.p rfl (by decide) (fun e w hR hh => by obtain ⟨h4, -⟩ := hh; exact SG.n (o_mvh h4 ⟨rfl, Only.refl No _⟩)) ?_
    refine WDS.q 0 (fun v w => w.ownsRow wd.heap.size 3 1 v 1 [mi nl]) (fun v w w2 hR hh => own_only hh hR (fun k hk hF => by have := (hh.lt k hk).1; rcases hF with hF | hF | hF; have := (htl k hF).1; omega; have := (hbl k hF).1; omega; exact hF)) (by kernel_rfl) rfl (by decide) (fun e w hR hh => by obtain ⟨h38, -⟩ := hh; rw [← hwd] at hR; exact SG.n (o_bs1 TI37 TI3 (show _ = mi nl from h38) (by decide) (by decide) rfl ⟨own_mono (own_new1 rfl) hR.size, Only.alloc w _⟩)) ?_
    refine WDS.mf 0 1 (fun v w => Gv tv wd.heap.size 3 (List.replicate xs.length (mi nl)) (mi nl) v w) (fun v w w2 hR hh => hh.keep hR (fun k hk hF => by rcases hF with hF | hF; exact hbG k hk hF; exact hF)) (by kernel_rfl) rfl rfl rfl (fun e w hR hW hh => by obtain ⟨h39, h37, -⟩ := hh; rw [← hwd] at hR hW; have hW2 : Ext wd w := hW.mono (fun _ _ h => h); have hLw := hLt.only hW2 (fun _ _ h => h); exact SGX.n (OP.x (o_apL TI37 TI3 (show _ = tv from h37) rfl hLw (Sl.own h39) rfl rfl (by simp; omega) (by decide) (fun v' w' h1 h2 h3 h4 => ⟨⟨h1, h2, fun k hk => by have := hR.size; rcases h4 with h4 | h4; rw [h4] at hk; exact .inl hk; rw [h4] at hk; cases hk; exact .inr this⟩, h3⟩)))) ?_
    refine WDS.q 1 (fun v w => ∃ u, w.ownsRow wd.heap.size 37 1 v 1 [u] ∧ Gv tv wd.heap.size 3 (List.replicate xs.length (mi nl)) (mi nl) u w) (fun v w w2 hR hh => by obtain ⟨u, h1, h2⟩ := hh; exact ⟨u, own_only h1 hR (fun k hk hF => by have := (h1.lt k hk).1; rcases hF with hF | hF; have := (hbl k hF).1; omega; exact hF), h2.keep hR (fun k hk hF => by rcases hF with hF | hF; exact hbG k hk hF; exact hF)⟩) (by kernel_rfl) rfl (by decide) (fun e w hR hh => by obtain ⟨h40, -⟩ := hh; rw [← hwd] at hR; exact SG.n (o_bs1 TI50 TI37 rfl (by decide) (by decide) (show (e 40).cells.size = 1 by rw [h40.1.cells1]; rfl) ⟨⟨_, own_mono h40.1.new1 hR.size, h40.keep (Only.alloc w _) (fun _ _ h => h)⟩, Only.alloc w _⟩)) ?_
    refine WDS.mf 1 2 (fun v w => ∃ u, w.ownsRow 0 37 1 v (nl + 1) (vals VB nl ++ [u]) ∧ Gv tv wd.heap.size 3 (List.replicate xs.length (mi nl)) (mi nl) u w ∧ (v.ownBlock = b.ownBlock ∨ ∃ g, wd.heap.size ≤ g ∧ v.ownBlock = some g)) (fun v w w2 hR hh => by obtain ⟨u, h1, h2, h3⟩ := hh; exact ⟨u, own_ext h1 hR, h2.keep hR (fun _ _ h => h), h3⟩) (by kernel_rfl) rfl rfl rfl (fun e w hR hW hh => by obtain ⟨h41, h36, -⟩ := hh; rw [← hwd] at hR hW; obtain ⟨u41, hr41, hu41⟩ := h41; have hrw := own_only hrB hW (fun k hk hF => by rcases hF with hF | hF; exact hbG k (.inl hF) hk; exact hF); exact SGX.n (OP.x (o_apO 0 TI50 TI37 h36 rfl hrw (Sl.own hr41) rfl (by decide) (by simp; exact hu41.1.one) (by rw [maxLen_eq]; omega) (by omega) (Nat.zero_le _) (fun v' w' h1 h2 h3 h4 => ⟨⟨u41, h1, hu41.keep h2 hbG, by rcases h3 with h3 | h3; exact .inl h3; exact .inr ⟨_, hW.size, h3⟩⟩, h2⟩)))) ?_
    rintro e w hR ⟨h42, h41, h40, h39, h38, h37, h36, h35, h34, h33, h32, h0, h1, h4, -⟩
    rw [← hwd] at hR
    obtain ⟨gv, hrB2, hG, hb2⟩ := h42
    obtain ⟨v42, hv42⟩ : ∃ v, v = e 42 := ⟨_, rfl⟩
    rw [← hv42] at hrB2 hb2
    have hcm := hR.blk hB31 (fun hF => by rcases hF with hF | hF | hF; have := (htl _ hF).2; omega; have := (hbl _ hF).2; omega; exact hF)
    refine WL.c rfl (o_nil h32 ?_)
    refine WL.c rfl (o_fa 1 TI53 rfl TI50 rfl rfl ?_)
    refine WL.u (o_stB TI50 rfl (show _ = v42 from hv42.symm) (own_one hrB2) hcm (show 5 < 8 by decide) ?_)
    intro w44 hB44 ho44 hs44
    replace hB44 : w44.heap[tp]? = some (.cells #[P 0, P 1, Q 0, Q 1, v29, v42, c, d] 55 (0, 0)) := hB44
    have hFF : Only (fun k => a.ownBlock = some k ∨ b.ownBlock = some k ∨ k = tp ∨ tv.ownBlock = some k) wz w44 := ((ho1.mono (fun k _ hF => by rcases hF with hF | hF; exact .inl hF; exact .inr (.inr (.inl hF)))).trans (hR.mono (fun k _ hF => by rcases hF with hF | hF | hF; exact .inr (.inr (.inr hF)); exact .inr (.inl hF); exact hF.elim))).trans (ho44.mono (fun k _ hF => .inr (.inr (.inl hF))))
    have hab29 : ∀ k, v29.ownBlock = some k → ¬ b.ownBlock = some k := fun k hk hF => by
      have h1 := hidB k hF
      have h2 := (hT.bk.b.row.lt k hF).2
      rcases ha29 k hk with h3 | h3
      · have := hidA k h3; omega
      · omega
    have hrA2 := own_only (own_only hrA hR (fun k hk hF => by rcases hF with hF | hF | hF; have h1 := hti k hF; have h2 := htz k hF; rcases ha29 k hk with h3 | h3; have := hidA k h3; omega; omega; exact hab29 k hk hF; exact hF)) ho44 (fun k hk he => by subst he; exact own_off hrA hB31 (by decide) hk)
    have hrB3 := own_only hrB2 ho44 (fun k hk he => by subst he; exact own_off hrB2 hcm (by decide) hk)
    have hG2 := hG.keep ho44 (fun k hk he => by subst he; rcases hk with hk | hk; have := (htl k hk).2; omega; omega)
    refine WL.nil ?_
    refine ret0 rfl ?_
    have hwzd := ho1.size
    obtain ⟨o', hT', ho'⟩ := hT.bookT (q := xs.length) hFF hB44 hrA2 hrB3 hid (fun k hk => ⟨htz k hk, hti k hk⟩) ha29 (fun k hk => by rcases hb2 with hb | ⟨g, hg, hb⟩; rw [hb] at hk; exact .inl hk; rw [hb] at hk; cases hk; exact .inr (by omega)) (fun k hk => (hG2.2.2 k hk).imp (fun h => h) (fun h => by omega)) (fun k hk hk2 => by rcases hb2 with hb | ⟨g, hg, hb⟩; rw [hb] at hk2; exact hab29 k hk hk2; rw [hb] at hk2; cases hk2; have := hal29 k hk; have := hxd.size; omega) (hG2.1.row hrA2 (by decide)) (hG2.1.row hrB3 (by decide)) (by omega) (by simpa using hG2.2.1) (by have h9 := hG2.1.sl; rw [← List.replicate_succ', List.length_replicate] at h9; exact h9) hG2.1.lt
    refine ⟨⟨o', _, _, _, _, hT', fun k hk h0 => ho' k (by omega) h0⟩, ho.trans' hFF (fun k hk => .inr (hti k hk)) (fun k hk hF => ?_)⟩
    rcases hF with hF | hF | hF | hF
    · exact .inl (by have := hidA k hF; omega)
    · exact .inl (by have := hidB k hF; omega)
    · subst hF; exact .inl (by omega)
    · exact .inr (hti k hF)
set_option maxHeartbeats 1000000 in
theorem bbytes_spec (H tp : Nat) (o : Nat → Nat) (S R : Nat → Option SSt) (P Q : Nat → Value) (a b c d : Value) (nl nb : Nat) (VA VB VC VD : Nat → Value) (w0 : World) (h : Tb w0 H tp o S R P Q a b c d nl nb VA VB VC VD) (tv : Value) (xs : List Value) (id : Nat) (hid : 11 ≤ id) (hL : Lst w0 5 tv xs) (hti : ∀ k, tv.ownBlock = some k → o k = id) (hl : xs.length ≤ 12000000000000) (hn : nb ≤ 1000000000000) : Ca Try.prog 68 #[.pointer (some ⟨tp, 4, none⟩), tv] w0 (fun v w' => (∃ o' c' d' VC' VD', Tb w' H tp o' S R P Q a b c' d' nl (nb + 1) VA VB VC' VD' ∧ ∀ k, k < w0.heap.size → o k ≠ id → o' k = o k) ∧ Only (fun k => (5 ≤ o k ∧ o k ≤ 9) ∨ o k = id) w0 w') := by
  obtain ⟨ta, tc, tcap, rfl, hown, hc⟩ := hL
  have hcell := h.cell
  refine Ca.of Try.func68 Try.ntmps68 rfl rfl ?_
  refine W.seq ?_
  refine W.region ?_
  refine WL.c rfl (o_mvh (by first | exact (show _ = Value.pointer _ from rfl) | exact rfl) ?_)
  refine WL.c rfl (o_nil rfl ?_)
  refine WL.c rfl (o_fa 2 TI53 rfl TI51 rfl rfl ?_)
  refine WL.c rfl (o_ld TI51 rfl rfl (cell_of hcell rfl) ?_)
  refine WL.c rfl (o_lenR TI51 rfl (Sl.own h.bk.c.row) ?_)
  refine WL.c rfl (o_muli rfl rfl (by omega) ?_)
  refine WL.c rfl (o_addi rfl rfl (by omega) ?_)
  refine WL.c rfl (o_cvI TI3 TI5 rfl ?_)
  refine WL.c rfl (o_ash (show _ = Value.int _ _ from rfl) ?_)
  refine WL.nil ?_
  refine W.seq ?_
  refine W.seq ?_
  refine W.region ?_
  refine WL.c rfl (o_ash (show _ = Value.int _ _ from rfl) ?_)
  refine WL.nil ?_
  refine W.block ?_
  refine W.loop (fun e w => ∃ (k : Nat), k ≤ xs.length ∧ e 0 = .pointer (some ⟨tp, 4, none⟩) ∧ e 1 = Value.slice ta xs.length tc ∧ e 4 = mb nb ∧ e 5 = .int .i64 (k : Int) ∧ w.ownsRow 0 5 1 (.slice ta xs.length tcap) xs.length (List.replicate k (mb nb) ++ xs.drop k) ∧ Only (fun k => (Value.slice ta xs.length tc).ownBlock = some k) w0 w) (fun e w => xs.length - (intOf (e 5)).toNat) ?_ ?_
  · exact ⟨0, Nat.zero_le _, rfl, rfl, rfl, rfl, by simpa using hown, Only.refl _ _⟩
  rintro e w ⟨k, hk, h0, h1, h4, h5, hrow, ho⟩
  have hm5 := h5
  have hin := (Lst.at hrow hc).2
  refine W.seq ?_
  refine W.seq ?_
  refine W.region ?_
  refine WL.c rfl (o_mvh h5 ?_)
  refine WL.c rfl (o_mvh h1 ?_)
  refine WL.c rfl (o_lenR TI23 rfl hin ?_)
  refine WL.c rfl (o_lt rfl rfl ?_)
  refine WL.nil ?_
  refine W.cond rfl (fun c17 => ?_) (fun c17 => ?_)
  · try simp only [decide_eq_true_eq, decide_eq_false_iff_not, Bool.not_eq_true', Bool.not_eq_false', Bool.and_eq_true, Bool.or_eq_true, Bool.and_eq_false_iff, Bool.or_eq_false_iff] at c17
    refine W.skip ?_
    refine W.seq ?_
    refine W.block ?_
    have hk1 : k < xs.length := by omega
    obtain ⟨g, rfl⟩ : ∃ g, ta = some ⟨g, 0, none⟩ := by
      obtain ⟨g, cap, hv, -⟩ := own_some hrow (by omega)
      simp only [Value.slice.injEq] at hv
      exact ⟨g, hv.1⟩
    refine W.region ?_
    refine WL.c rfl (o_mvh h1 ?_)
    refine WL.c rfl (o_mvh h5 ?_)
    refine WL.c rfl (o_mvh h4 ?_)
    refine WL.c rfl (o_ixB (i := k) TI23 TI5 (show _ = Value.slice (some ⟨g, 0, none⟩) xs.length tc from rfl) rfl (by omega) ?_)
    refine WL.u (o_stRo TI5 rfl (show _ = mb nb from rfl) rfl hrow rfl (by omega) ?_)
    intro w7 hrow7 ho7 hs7
    rw [show 0 + k * 1 = k by omega] at hrow7
    replace ho7 := ho.trans (ho7.mono (fun k _ hk => hk))
    refine WL.nil ?_
    refine W.region ?_
    refine WL.c rfl (o_mvh h5 ?_)
    refine WL.c rfl (o_addi rfl rfl (by omega) ?_)
    refine WL.c rfl (o_ash (show _ = Value.int _ _ from rfl) ?_)
    refine WL.nil ?_
    refine ⟨⟨k + 1, by omega, h0, h1, h4, rfl, by rw [← set_mark hk1]; exact hrow7, ho7⟩, ?_⟩
    show xs.length - ((k : Int) + 1).toNat < _
    rw [hm5]; simp only [intOf]; omega
  · try simp only [decide_eq_true_eq, decide_eq_false_iff_not, Bool.not_eq_true', Bool.not_eq_false', Bool.and_eq_true, Bool.or_eq_true, Bool.and_eq_false_iff, Bool.or_eq_false_iff] at c17
    refine W.exit ?_
    refine W.seq ?_
    obtain ⟨tv, htv⟩ : ∃ tv, tv = Value.slice ta xs.length tc := ⟨_, rfl⟩
    rw [← htv] at h1 hin hti ho ⊢
    have hkl : k = xs.length := by omega
    subst hkl
    rw [List.drop_length, List.append_nil] at hrow hin
    have hLt := (Lst.at hrow hc).1
    rw [← htv] at hLt
    have htz := hLt.lt
    have hT : Tb w H tp o S R P Q a b c d nl nb VA VB VC VD := h.step ho (fun k _ _ h10 => ⟨fun hF => by have := hti k hF; omega, rfl⟩) h.lo (fun k hk => h.hi k (Nat.le_trans ho.size hk))
    clear hcell
    obtain ⟨wz, rfl⟩ : ∃ wz, wz = w := ⟨_, rfl⟩
    refine W.region ?_
    refine WL.cut (fun e1 w1 => ∃ v31, e1 0 = .pointer (some ⟨tp, 4, none⟩) ∧ e1 1 = tv ∧ e1 4 = mb nb ∧ w1.heap[tp]? = some (.cells #[P 0, P 1, Q 0, Q 1, a, b, v31, d] 55 (0, 0)) ∧ Only (fun k => c.ownBlock = some k ∨ k = tp) wz w1 ∧ w1.ownsRow 0 23 1 v31 (nb + 1) (vals VC nb ++ [tv]) ∧ w1.ownsRow 0 23 1 d nb (vals VD nb) ∧ Lst w1 5 tv (List.replicate xs.length (mb nb)) ∧ (∀ k, v31.ownBlock = some k → c.ownBlock = some k ∨ wz.heap.size ≤ k) ∧ ∀ k, v31.ownBlock = some k → k < w1.heap.size) ?_ ?_
    · -- region 5
      refine WL.c rfl (o_mvh h0 ?_)
      refine WL.c rfl (o_mvh h0 ?_)
      refine WL.c rfl (o_nil rfl ?_)
      refine WL.c rfl (o_fa 2 TI53 rfl TI51 rfl rfl ?_)
      refine WL.c rfl (o_ld TI51 rfl rfl (cell_of hT.cell rfl) ?_)
      refine WL.c rfl (o_mvh h1 ?_)
      refine WL.apO (0) rfl rfl TI51 TI23 (show _ = tv from rfl) rfl hT.bk.c.row (by decide) (by decide) (by rw [hLt.cells1]; rfl) (one1 hLt.one) rfl (by rw [maxLen_eq]; omega) (by omega) (Nat.zero_le _) ?_
      intro v31 w31 h31 ho31 hb31 hk31
      have hcell31 := ho31.blk hT.cell (fun hk => by have := hT.bk.c.id _ hk; rw [hT.otp] at this; omega)
      replace h31 : w31.ownsRow 0 23 1 v31 (nb + 1) (vals VC nb ++ [tv]) := by rw [hLt.cells1] at h31; exact h31
      refine WL.c rfl (o_nil rfl ?_)
      refine WL.c rfl (o_fa 2 TI53 rfl TI51 rfl rfl ?_)
      refine WL.u (o_stB TI51 rfl (show _ = v31 from rfl) (own_one h31) hcell31 (show 6 < 8 by decide) ?_)
      intro w33 hB33 ho33 hs33
      replace hB33 : w33.heap[tp]? = some (.cells #[P 0, P 1, Q 0, Q 1, a, b, v31, d] 55 (0, 0)) := hB33
      have ho1 : Only (fun k => c.ownBlock = some k ∨ k = tp) wz w33 := (ho31.mono (fun _ _ h => .inl h)).trans (ho33.mono (fun _ _ h => .inr h))
      have hrA := own_only h31 ho33 (fun k hk he => by subst he; exact own_off h31 hcell31 (by decide) hk)
      have hidA := hT.bk.c.id
      have hidB := hT.bk.d.id
      have hot := hT.otp
      have hrB := own_only hT.bk.d.row ho1 (fun k hk hF => by have := hidB k hk; rcases hF with hF | hF; have := hidA k hF; omega; subst hF; omega)
      replace hLt := hLt.only ho1 (fun k hk hF => by have := hti k hk; rcases hF with hF | hF; have := hidA k hF; omega; subst hF; omega)
      exact WL.nil (⟨v31, h0, h1, h4, hB33, ho1, hrA, hrB, hLt, fun k hk => by (rcases hb31 with hb | hb; rw [hb] at hk; exact .inl hk; rw [hb] at hk; cases hk; exact .inr (Nat.le_succ _)), fun k hk => (hrA.lt k hk).2⟩)
    rintro e w ⟨v31, h0, h1, h4, hB33, ho1, hrA, hrB, hLt, ha31, hal31⟩
    have hidA := hT.bk.c.id
    have hidB := hT.bk.d.id
    have hot := hT.otp
    obtain ⟨wd, hwd⟩ : ∃ wd, wd = w.drew := ⟨_, rfl⟩
    have hxd : Ext w wd := hwd ▸ Only.drew w
    replace ho1 : Only (fun k => c.ownBlock = some k ∨ k = tp) wz wd := ho1.trans (hxd.mono (fun _ _ h => h.elim))
    replace hrA := own_ext hrA hxd
    replace hrB := own_ext hrB hxd
    replace hLt := hLt.only hxd (fun _ _ h => h)
    replace hB33 := hxd.blk hB33 (fun h => h)
    have hbl : ∀ k, d.ownBlock = some k → k < wd.heap.size ∧ o k = 8 := fun k hk => ⟨(hrB.lt k hk).2, hidB k hk⟩
    have htl : ∀ k, tv.ownBlock = some k → k < wd.heap.size ∧ o k = id := fun k hk => ⟨hLt.lt k hk, hti k hk⟩
    have htpl : tp < wd.heap.size := (Array.getElem?_eq_some_iff.1 hB33).1
    have hbG : ∀ k, (tv.ownBlock = some k ∨ wd.heap.size ≤ k) → ¬ d.ownBlock = some k := fun k hk hF => by
      have := hbl k hF
      rcases hk with hk | hk
      · have := htl k hk; omega
      · omega
    have hlr : (List.replicate xs.length (mb nb)).length = xs.length := by simp
    have hw0w := ho.size
    have hw33 := ho1.size
    refine W.drawF 11 [8, 10] [fun k => tv.ownBlock = some k, fun k => d.ownBlock = some k] [(0, fun v _ => v = _), (1, fun v _ => v = _), (4, fun v _ => v = _)] rfl (by kernel_rfl) (by kernel_rfl) ⟨Mono.eq, Mono.eq, Mono.eq, trivial⟩ ⟨h0, h1, h4, trivial⟩ ?_
    refine WDS.p rfl (by decide) (fun e w hR hh => by obtain ⟨h0, -⟩ := hh; exact SG.n (o_mvh h0 ⟨rfl, Only.refl No _⟩)) ?_
    refine WDS.p rfl (by decide) (fun e w hR hh => by obtain ⟨h0, -⟩ := hh; exact SG.n (o_mvh h0 ⟨rfl, Only.refl No _⟩)) ?_
    refine WDS.p rfl (by decide) (fun e w hR hh => by obtain ⟨h35, -⟩ := hh; exact SG.n (o_nil h35 ⟨rfl, Only.refl No _⟩)) ?_
    refine WDS.p rfl (by decide) (fun e w hR hh => by obtain ⟨h36, -⟩ := hh; exact SG.n (o_fa 3 TI53 rfl TI51 rfl h36 ⟨rfl, Only.refl No _⟩)) ?_
    refine WDS.p rfl (by decide) (fun e w hR hh => by obtain ⟨h37, -⟩ := hh; rw [← hwd] at hR; have hc := hR.blk hB33 (fun hF => by rcases hF with hF | hF | hF; have := (htl _ hF).2; omega; have := (hbl _ hF).2; omega; exact hF); exact SG.n (o_ld TI51 rfl h37 (cell_of hc rfl) ⟨rfl, Only.refl No _⟩)) ?_
    refine WDS.p rfl (by decide) (fun e w hR hh => by obtain ⟨h1, -⟩ := hh; exact SG.n (o_mvh h1 ⟨rfl, Only.refl No _⟩)) ?_
    refine WDS.p rfl (by decide) (fun e w hR hh => by obtain ⟨h4, -⟩ := hh; exact SG.n (o_mvh h4 ⟨rfl, Only.refl No _⟩)) ?_
    refine WDS.q 0 (fun v w => w.ownsRow wd.heap.size 5 1 v 1 [mb nb]) (fun v w w2 hR hh => own_only hh hR (fun k hk hF => by have := (hh.lt k hk).1; rcases hF with hF | hF | hF; have := (htl k hF).1; omega; have := (hbl k hF).1; omega; exact hF)) (by kernel_rfl) rfl (by decide) (fun e w hR hh => by obtain ⟨h40, -⟩ := hh; rw [← hwd] at hR; exact SG.n (o_bs1 TI23 TI5 (show _ = mb nb from h40) (by decide) (by decide) rfl ⟨own_mono (own_new1 rfl) hR.size, Only.alloc w _⟩)) ?_
    refine WDS.mf 0 1 (fun v w => Gv tv wd.heap.size 5 (List.replicate xs.length (mb nb)) (mb nb) v w) (fun v w w2 hR hh => hh.keep hR (fun k hk hF => by rcases hF with hF | hF; exact hbG k hk hF; exact hF)) (by kernel_rfl) rfl rfl rfl (fun e w hR hW hh => by obtain ⟨h41, h39, -⟩ := hh; rw [← hwd] at hR hW; have hW2 : Ext wd w := hW.mono (fun _ _ h => h); have hLw := hLt.only hW2 (fun _ _ h => h); exact SGX.n (OP.x (o_apL TI23 TI5 (show _ = tv from h39) rfl hLw (Sl.own h41) rfl rfl (by simp; omega) (by decide) (fun v' w' h1 h2 h3 h4 => ⟨⟨h1, h2, fun k hk => by have := hR.size; rcases h4 with h4 | h4; rw [h4] at hk; exact .inl hk; rw [h4] at hk; cases hk; exact .inr this⟩, h3⟩)))) ?_
    refine WDS.q 1 (fun v w => ∃ u, w.ownsRow wd.heap.size 23 1 v 1 [u] ∧ Gv tv wd.heap.size 5 (List.replicate xs.length (mb nb)) (mb nb) u w) (fun v w w2 hR hh => by obtain ⟨u, h1, h2⟩ := hh; exact ⟨u, own_only h1 hR (fun k hk hF => by have := (h1.lt k hk).1; rcases hF with hF | hF; have := (hbl k hF).1; omega; exact hF), h2.keep hR (fun k hk hF => by rcases hF with hF | hF; exact hbG k hk hF; exact hF)⟩) (by kernel_rfl) rfl (by decide) (fun e w hR hh => by obtain ⟨h42, -⟩ := hh; rw [← hwd] at hR; exact SG.n (o_bs1 TI51 TI23 rfl (by decide) (by decide) (show (e 42).cells.size = 1 by rw [h42.1.cells1]; rfl) ⟨⟨_, own_mono h42.1.new1 hR.size, h42.keep (Only.alloc w _) (fun _ _ h => h)⟩, Only.alloc w _⟩)) ?_
    refine WDS.mf 1 2 (fun v w => ∃ u, w.ownsRow 0 23 1 v (nb + 1) (vals VD nb ++ [u]) ∧ Gv tv wd.heap.size 5 (List.replicate xs.length (mb nb)) (mb nb) u w ∧ (v.ownBlock = d.ownBlock ∨ ∃ g, wd.heap.size ≤ g ∧ v.ownBlock = some g)) (fun v w w2 hR hh => by obtain ⟨u, h1, h2, h3⟩ := hh; exact ⟨u, own_ext h1 hR, h2.keep hR (fun _ _ h => h), h3⟩) (by kernel_rfl) rfl rfl rfl (fun e w hR hW hh => by obtain ⟨h43, h38, -⟩ := hh; rw [← hwd] at hR hW; obtain ⟨u43, hr43, hu43⟩ := h43; have hrw := own_only hrB hW (fun k hk hF => by rcases hF with hF | hF; exact hbG k (.inl hF) hk; exact hF); exact SGX.n (OP.x (o_apO 0 TI51 TI23 h38 rfl hrw (Sl.own hr43) rfl (by decide) (by simp; exact hu43.1.one) (by rw [maxLen_eq]; omega) (by omega) (Nat.zero_le _) (fun v' w' h1 h2 h3 h4 => ⟨⟨u43, h1, hu43.keep h2 hbG, by rcases h3 with h3 | h3; exact .inl h3; exact .inr ⟨_, hW.size, h3⟩⟩, h2⟩)))) ?_
    rintro e w hR ⟨h44, h43, h42, h41, h40, h39, h38, h37, h36, h35, h34, h0, h1, h4, -⟩
    rw [← hwd] at hR
    obtain ⟨gv, hrB2, hG, hb2⟩ := h44
    obtain ⟨v44, hv44⟩ : ∃ v, v = e 44 := ⟨_, rfl⟩
    rw [← hv44] at hrB2 hb2
    have hcm := hR.blk hB33 (fun hF => by rcases hF with hF | hF | hF; have := (htl _ hF).2; omega; have := (hbl _ hF).2; omega; exact hF)
    refine WL.c rfl (o_nil h34 ?_)
    refine WL.c rfl (o_fa 3 TI53 rfl TI51 rfl rfl ?_)
    refine WL.u (o_stB TI51 rfl (show _ = v44 from hv44.symm) (own_one hrB2) hcm (show 7 < 8 by decide) ?_)
    intro w46 hB46 ho46 hs46
    replace hB46 : w46.heap[tp]? = some (.cells #[P 0, P 1, Q 0, Q 1, a, b, v31, v44] 55 (0, 0)) := hB46
    have hFF : Only (fun k => c.ownBlock = some k ∨ d.ownBlock = some k ∨ k = tp ∨ tv.ownBlock = some k) wz w46 := ((ho1.mono (fun k _ hF => by rcases hF with hF | hF; exact .inl hF; exact .inr (.inr (.inl hF)))).trans (hR.mono (fun k _ hF => by rcases hF with hF | hF | hF; exact .inr (.inr (.inr hF)); exact .inr (.inl hF); exact hF.elim))).trans (ho46.mono (fun k _ hF => .inr (.inr (.inl hF))))
    have hab31 : ∀ k, v31.ownBlock = some k → ¬ d.ownBlock = some k := fun k hk hF => by
      have h1 := hidB k hF
      have h2 := (hT.bk.d.row.lt k hF).2
      rcases ha31 k hk with h3 | h3
      · have := hidA k h3; omega
      · omega
    have hrA2 := own_only (own_only hrA hR (fun k hk hF => by rcases hF with hF | hF | hF; have h1 := hti k hF; have h2 := htz k hF; rcases ha31 k hk with h3 | h3; have := hidA k h3; omega; omega; exact hab31 k hk hF; exact hF)) ho46 (fun k hk he => by subst he; exact own_off hrA hB33 (by decide) hk)
    have hrB3 := own_only hrB2 ho46 (fun k hk he => by subst he; exact own_off hrB2 hcm (by decide) hk)
    have hG2 := hG.keep ho46 (fun k hk he => by subst he; rcases hk with hk | hk; have := (htl k hk).2; omega; omega)
    refine WL.nil ?_
    refine ret0 rfl ?_
    have hwzd := ho1.size
    obtain ⟨o', hT', ho'⟩ := hT.bookB (q := xs.length) hFF hB46 hrA2 hrB3 hid (fun k hk => ⟨htz k hk, hti k hk⟩) ha31 (fun k hk => by rcases hb2 with hb | ⟨g, hg, hb⟩; rw [hb] at hk; exact .inl hk; rw [hb] at hk; cases hk; exact .inr (by omega)) (fun k hk => (hG2.2.2 k hk).imp (fun h => h) (fun h => by omega)) (fun k hk hk2 => by rcases hb2 with hb | ⟨g, hg, hb⟩; rw [hb] at hk2; exact hab31 k hk hk2; rw [hb] at hk2; cases hk2; have := hal31 k hk; have := hxd.size; omega) (hG2.1.row hrA2 (by decide)) (hG2.1.row hrB3 (by decide)) (by omega) (by simpa using hG2.2.1) (by have h9 := hG2.1.sl; rw [← List.replicate_succ', List.length_replicate] at h9; exact h9) hG2.1.lt
    refine ⟨⟨o', _, _, _, _, hT', fun k hk h0 => ho' k (by omega) h0⟩, ho.trans' hFF (fun k hk => .inr (hti k hk)) (fun k hk hF => ?_)⟩
    rcases hF with hF | hF | hF | hF
    · exact .inl (by have := hidA k hF; omega)
    · exact .inl (by have := hidB k hF; omega)
    · subst hF; exact .inl (by omega)
    · exact .inr (hti k hF)

theorem rep_at {u : Value} {n i : Nat} (h : i < n) : (List.replicate n u)[i]? = some u := by simp [h]

set_option maxHeartbeats 1000000 in
theorem holds_spec (H tp : Nat) (o : Nat → Nat) (S R : Nat → Option SSt) (P Q : Nat → Value) (a b c d : Value) (nl nb : Nat) (VA VB VC VD : Nat → Value) (w0 : World) (h : Tb w0 H tp o S R P Q a b c d nl nb VA VB VC VD) (hnl : nl ≤ 1000000000000) (hnb : nb ≤ 1000000000000) : Ca Try.prog 18 #[.pointer (some ⟨tp, 4, none⟩)] w0 (fun v w' => v = .bool true ∧ Ext w0 w') := by
  refine Ca.of Try.func18 Try.ntmps18 rfl rfl ?_
  refine W.seq ?_
  refine W.region ?_
  refine WL.c rfl (o_ash (show _ = Value.bool _ from rfl) ?_)
  refine WL.nil ?_
  refine W.seq ?_
  refine W.seq ?_
  refine W.region ?_
  refine WL.c rfl (o_ash (show _ = Value.int _ _ from rfl) ?_)
  refine WL.nil ?_
  refine W.block ?_
  refine W.loop (fun e w => ∃ k : Nat, k ≤ nl ∧ e 0 = .pointer (some ⟨tp, 4, none⟩) ∧ e 3 = .int .i64 (k : Int) ∧ Ext w0 w) (fun e w => nl - (intOf (e 3)).toNat) ?_ ?_
  · exact ⟨0, Nat.zero_le _, rfl, rfl, Only.refl _ _⟩
  rintro e w ⟨k, hk, h0, h3, hx⟩
  have hm3 := h3
  have hT := h.ext hx
  refine W.seq ?_
  refine W.seq ?_
  refine W.region ?_
  refine WL.c rfl (o_mvh h3 ?_)
  refine WL.c rfl (o_mvh h0 ?_)
  refine WL.c rfl (o_nil rfl ?_)
  refine WL.c rfl (o_fa 0 TI53 rfl TI50 rfl rfl ?_)
  refine WL.c rfl (o_ld TI50 rfl rfl (cell_of hT.cell rfl) ?_)
  refine WL.c rfl (o_lenR TI50 rfl (Sl.own hT.bk.a.row) ?_)
  refine WL.c rfl (o_lt rfl rfl ?_)
  refine WL.nil ?_
  refine W.cond rfl (fun c14 => ?_) (fun c14 => ?_)
  · try simp only [decide_eq_true_eq, decide_eq_false_iff_not, Bool.not_eq_true', Bool.not_eq_false', Bool.and_eq_true, Bool.or_eq_true, Bool.and_eq_false_iff, Bool.or_eq_false_iff] at c14
    refine W.skip ?_
    refine W.seq ?_
    refine W.block ?_
    refine W.seq ?_
    have hk1 : k < nl := by omega
    obtain ⟨ma, hma, hsa⟩ := (h.bk.la k hk1).sl
    obtain ⟨m, hm, hsb⟩ := (h.bk.lb k hk1).sl
    refine W.region ?_
    refine WL.c rfl (o_ash (show _ = Value.int _ _ from rfl) ?_)
    refine WL.nil ?_
    refine W.block ?_
    refine W.loop (fun e w => ∃ i : Nat, i ≤ m ∧ e 0 = .pointer (some ⟨tp, 4, none⟩) ∧ e 3 = .int .i64 (k : Int) ∧ e 4 = .int .i64 (i : Int) ∧ Ext w0 w) (fun e w => m - (intOf (e 4)).toNat) ?_ ?_
    · exact ⟨0, Nat.zero_le _, h0, h3, rfl, hx⟩
    rintro e w ⟨i, hi, h0, h3, h4, hx⟩
    have hm4 := h4
    have hT := h.ext hx
    replace hsa := Sl.ext hsa hx
    replace hsb := Sl.ext hsb hx
    refine W.seq ?_
    refine W.seq ?_
    refine W.region ?_
    refine WL.c rfl (o_mvh h4 ?_)
    refine WL.c rfl (o_mvh h0 ?_)
    refine WL.c rfl (o_nil rfl ?_)
    refine WL.c rfl (o_fa 1 TI53 rfl TI50 rfl rfl ?_)
    refine WL.c rfl (o_ld TI50 rfl rfl (cell_of hT.cell rfl) ?_)
    refine WL.c rfl (o_mvh h3 ?_)
    refine WL.c rfl (o_ix1 TI50 TI37 rfl rfl (Sl.own hT.bk.b.row) (by omega) ?_)
    intro b23 o23 hc23 hb23
    refine WL.c rfl (o_ld TI37 rfl rfl (hc23.trans (vals_at hk1)) ?_)
    refine WL.c rfl (o_lenR TI37 rfl hsb ?_)
    refine WL.c rfl (o_lt rfl rfl ?_)
    refine WL.nil ?_
    refine W.cond rfl (fun c26 => ?_) (fun c26 => ?_)
    · try simp only [decide_eq_true_eq, decide_eq_false_iff_not, Bool.not_eq_true', Bool.not_eq_false', Bool.and_eq_true, Bool.or_eq_true, Bool.and_eq_false_iff, Bool.or_eq_false_iff] at c26
      refine W.skip ?_
      refine W.seq ?_
      refine W.block ?_
      refine W.seq ?_
      have hi1 : i < m := by omega
      rcases Nat.lt_or_ge i ma with hi2 | hi2
      · skip
        refine W.region ?_
        refine WL.c rfl (o_mvh h0 ?_)
        refine WL.c rfl (o_nil rfl ?_)
        refine WL.c rfl (o_fa 1 TI53 rfl TI50 rfl rfl ?_)
        refine WL.c rfl (o_ld TI50 rfl rfl (cell_of hT.cell rfl) ?_)
        refine WL.c rfl (o_mvh h3 ?_)
        refine WL.c rfl (o_ix1 TI50 TI37 rfl rfl (Sl.own hT.bk.b.row) (by omega) ?_)
        intro b34 o34 hc34 hb34
        refine WL.c rfl (o_ld TI37 rfl rfl (hc34.trans (vals_at hk1)) ?_)
        refine WL.c rfl (o_mvh h4 ?_)
        refine WL.c rfl (o_ix1 TI37 TI3 rfl rfl hsb (by omega) ?_)
        intro b37 o37 hc37 hb37
        refine WL.c rfl (o_ld TI3 rfl rfl (hc37.trans (rep_at hi1)) ?_)
        refine WL.c rfl (o_mvh h3 ?_)
        refine WL.c rfl (o_subi rfl rfl (by omega) ?_)
        refine WL.c rfl (o_ne rfl rfl ?_)
        refine WL.c rfl (o_mvh (show _ = Value.bool _ from rfl) ?_)
        refine WL.g rfl (by simp) rfl (o_mvh h4 ?_)
        refine WL.g rfl (by simp) rfl (o_mvh h0 ?_)
        refine WL.g rfl (by simp) rfl (o_nil rfl ?_)
        refine WL.g rfl (by simp) rfl (o_fa 0 TI53 rfl TI50 rfl rfl ?_)
        refine WL.g rfl (by simp) rfl (o_ld TI50 rfl rfl (cell_of hT.cell rfl) ?_)
        refine WL.g rfl (by simp) rfl (o_mvh h3 ?_)
        refine WL.g rfl (by simp) rfl (o_ix1 TI50 TI37 rfl rfl (Sl.own hT.bk.a.row) (by omega) ?_)
        intro b49 o49 hc49 hb49
        refine WL.g rfl (by simp) rfl (o_ld TI37 rfl rfl (hc49.trans (vals_at hk1)) ?_)
        refine WL.g rfl (by simp) rfl (o_lenR TI37 rfl hsa ?_)
        refine WL.g rfl (by simp) rfl (o_lt rfl rfl ?_)
        refine WL.g rfl (by simp) rfl (o_mvh (show _ = Value.bool _ from rfl) ?_)
        refine WL.g rfl (by simp; omega) rfl (o_mvh h0 ?_)
        refine WL.g rfl (by simp; omega) rfl (o_nil rfl ?_)
        refine WL.g rfl (by simp; omega) rfl (o_fa 0 TI53 rfl TI50 rfl rfl ?_)
        refine WL.g rfl (by simp; omega) rfl (o_ld TI50 rfl rfl (cell_of hT.cell rfl) ?_)
        refine WL.g rfl (by simp; omega) rfl (o_mvh h3 ?_)
        refine WL.g rfl (by simp; omega) rfl (o_ix1 TI50 TI37 rfl rfl (Sl.own hT.bk.a.row) (by omega) ?_)
        intro b59 o59 hc59 hb59
        refine WL.g rfl (by simp; omega) rfl (o_ld TI37 rfl rfl (hc59.trans (vals_at hk1)) ?_)
        refine WL.g rfl (by simp; omega) rfl (o_mvh h4 ?_)
        refine WL.g rfl (by simp; omega) rfl (o_ix1 TI37 TI3 rfl rfl hsa (by omega) ?_)
        intro b62 o62 hc62 hb62
        refine WL.g rfl (by simp; omega) rfl (o_ld TI3 rfl rfl (hc62.trans (rep_at hi2)) ?_)
        refine WL.g rfl (by simp; omega) rfl (o_mvh h3 ?_)
        refine WL.g rfl (by simp; omega) rfl (o_subi rfl rfl (by omega) ?_)
        refine WL.g rfl (by simp; omega) rfl (o_ne rfl rfl ?_)
        refine WL.g rfl (by simp) rfl (o_pickA rfl rfl ?_)
        refine WL.c rfl (o_pickO rfl rfl ?_)
        refine WL.nil ?_
        refine W.condF' rfl (by simp) ?_
        refine W.skip ?_
        refine W.region ?_
        refine WL.c rfl (o_mvh h4 ?_)
        refine WL.c rfl (o_addi rfl rfl (by omega) ?_)
        refine WL.c rfl (o_ash (show _ = Value.int _ _ from rfl) ?_)
        refine WL.nil ?_
        refine ⟨⟨i + 1, by omega, h0, h3, rfl, hx⟩, ?_⟩
        show m - ((i : Int) + 1).toNat < _
        rw [hm4]; simp only [intOf]; omega
      · skip
        refine W.region ?_
        refine WL.c rfl (o_mvh h0 ?_)
        refine WL.c rfl (o_nil rfl ?_)
        refine WL.c rfl (o_fa 1 TI53 rfl TI50 rfl rfl ?_)
        refine WL.c rfl (o_ld TI50 rfl rfl (cell_of hT.cell rfl) ?_)
        refine WL.c rfl (o_mvh h3 ?_)
        refine WL.c rfl (o_ix1 TI50 TI37 rfl rfl (Sl.own hT.bk.b.row) (by omega) ?_)
        intro b34 o34 hc34 hb34
        refine WL.c rfl (o_ld TI37 rfl rfl (hc34.trans (vals_at hk1)) ?_)
        refine WL.c rfl (o_mvh h4 ?_)
        refine WL.c rfl (o_ix1 TI37 TI3 rfl rfl hsb (by omega) ?_)
        intro b37 o37 hc37 hb37
        refine WL.c rfl (o_ld TI3 rfl rfl (hc37.trans (rep_at hi1)) ?_)
        refine WL.c rfl (o_mvh h3 ?_)
        refine WL.c rfl (o_subi rfl rfl (by omega) ?_)
        refine WL.c rfl (o_ne rfl rfl ?_)
        refine WL.c rfl (o_mvh (show _ = Value.bool _ from rfl) ?_)
        refine WL.g rfl (by simp) rfl (o_mvh h4 ?_)
        refine WL.g rfl (by simp) rfl (o_mvh h0 ?_)
        refine WL.g rfl (by simp) rfl (o_nil rfl ?_)
        refine WL.g rfl (by simp) rfl (o_fa 0 TI53 rfl TI50 rfl rfl ?_)
        refine WL.g rfl (by simp) rfl (o_ld TI50 rfl rfl (cell_of hT.cell rfl) ?_)
        refine WL.g rfl (by simp) rfl (o_mvh h3 ?_)
        refine WL.g rfl (by simp) rfl (o_ix1 TI50 TI37 rfl rfl (Sl.own hT.bk.a.row) (by omega) ?_)
        intro b49 o49 hc49 hb49
        refine WL.g rfl (by simp) rfl (o_ld TI37 rfl rfl (hc49.trans (vals_at hk1)) ?_)
        refine WL.g rfl (by simp) rfl (o_lenR TI37 rfl hsa ?_)
        refine WL.g rfl (by simp) rfl (o_lt rfl rfl ?_)
        refine WL.g rfl (by simp) rfl (o_mvh (show _ = Value.bool _ from rfl) ?_)
        refine WL.s rfl (by simp; omega) rfl ?_
        refine WL.s rfl (by simp; omega) rfl ?_
        refine WL.s rfl (by simp; omega) rfl ?_
        refine WL.s rfl (by simp; omega) rfl ?_
        refine WL.s rfl (by simp; omega) rfl ?_
        refine WL.s rfl (by simp; omega) rfl ?_
        refine WL.s rfl (by simp; omega) rfl ?_
        refine WL.s rfl (by simp; omega) rfl ?_
        refine WL.s rfl (by simp; omega) rfl ?_
        refine WL.s rfl (by simp; omega) rfl ?_
        refine WL.s rfl (by simp; omega) rfl ?_
        refine WL.s rfl (by simp; omega) rfl ?_
        refine WL.s rfl (by simp; omega) rfl ?_
        refine WL.g rfl (by simp) rfl (o_pickF rfl (by simp; omega) ?_)
        refine WL.c rfl (o_pickO rfl rfl ?_)
        refine WL.nil ?_
        refine W.condF' rfl (by simp) ?_
        refine W.skip ?_
        refine W.region ?_
        refine WL.c rfl (o_mvh h4 ?_)
        refine WL.c rfl (o_addi rfl rfl (by omega) ?_)
        refine WL.c rfl (o_ash (show _ = Value.int _ _ from rfl) ?_)
        refine WL.nil ?_
        refine ⟨⟨i + 1, by omega, h0, h3, rfl, hx⟩, ?_⟩
        show m - ((i : Int) + 1).toNat < _
        rw [hm4]; simp only [intOf]; omega
    · try simp only [decide_eq_true_eq, decide_eq_false_iff_not, Bool.not_eq_true', Bool.not_eq_false', Bool.and_eq_true, Bool.or_eq_true, Bool.and_eq_false_iff, Bool.or_eq_false_iff] at c26
      refine W.exit ?_
      refine W.region ?_
      refine WL.c rfl (o_mvh h3 ?_)
      refine WL.c rfl (o_addi rfl rfl (by omega) ?_)
      refine WL.c rfl (o_ash (show _ = Value.int _ _ from rfl) ?_)
      refine WL.nil ?_
      refine ⟨⟨k + 1, by omega, h0, rfl, hx⟩, ?_⟩
      show nl - ((k : Int) + 1).toNat < _
      rw [hm3]; simp only [intOf]; omega
  · try simp only [decide_eq_true_eq, decide_eq_false_iff_not, Bool.not_eq_true', Bool.not_eq_false', Bool.and_eq_true, Bool.or_eq_true, Bool.and_eq_false_iff, Bool.or_eq_false_iff] at c14
    refine W.exit ?_
    refine W.seq ?_
    refine W.seq ?_
    refine W.region ?_
    refine WL.c rfl (o_ash (show _ = Value.int _ _ from rfl) ?_)
    refine WL.nil ?_
    refine W.block ?_
    refine W.loop (fun e w => ∃ k : Nat, k ≤ nb ∧ e 0 = .pointer (some ⟨tp, 4, none⟩) ∧ e 5 = .int .i64 (k : Int) ∧ Ext w0 w) (fun e w => nb - (intOf (e 5)).toNat) ?_ ?_
    · exact ⟨0, Nat.zero_le _, h0, rfl, hx⟩
    rintro e w ⟨k, hk, h0, h5, hx⟩
    have hm5 := h5
    have hT := h.ext hx
    refine W.seq ?_
    refine W.seq ?_
    refine W.region ?_
    refine WL.c rfl (o_mvh h5 ?_)
    refine WL.c rfl (o_mvh h0 ?_)
    refine WL.c rfl (o_nil rfl ?_)
    refine WL.c rfl (o_fa 2 TI53 rfl TI51 rfl rfl ?_)
    refine WL.c rfl (o_ld TI51 rfl rfl (cell_of hT.cell rfl) ?_)
    refine WL.c rfl (o_lenR TI51 rfl (Sl.own hT.bk.c.row) ?_)
    refine WL.c rfl (o_lt rfl rfl ?_)
    refine WL.nil ?_
    refine W.cond rfl (fun c75 => ?_) (fun c75 => ?_)
    · try simp only [decide_eq_true_eq, decide_eq_false_iff_not, Bool.not_eq_true', Bool.not_eq_false', Bool.and_eq_true, Bool.or_eq_true, Bool.and_eq_false_iff, Bool.or_eq_false_iff] at c75
      refine W.skip ?_
      refine W.seq ?_
      refine W.block ?_
      refine W.seq ?_
      have hk1 : k < nb := by omega
      obtain ⟨ma, hma, hsa⟩ := (h.bk.lc k hk1).sl
      obtain ⟨m, hm, hsb⟩ := (h.bk.ld k hk1).sl
      refine W.region ?_
      refine WL.c rfl (o_mvh h5 ?_)
      refine WL.c rfl (o_muli rfl rfl (by omega) ?_)
      refine WL.c rfl (o_addi rfl rfl (by omega) ?_)
      refine WL.c rfl (o_cvI TI3 TI5 rfl ?_)
      refine WL.c rfl (o_ash (show _ = Value.int _ _ from rfl) ?_)
      refine WL.nil ?_
      refine W.seq ?_
      refine W.region ?_
      refine WL.c rfl (o_ash (show _ = Value.int _ _ from rfl) ?_)
      refine WL.nil ?_
      refine W.block ?_
      refine W.loop (fun e w => ∃ i : Nat, i ≤ m ∧ e 0 = .pointer (some ⟨tp, 4, none⟩) ∧ e 5 = .int .i64 (k : Int) ∧ e 6 = mb k ∧ e 7 = .int .i64 (i : Int) ∧ Ext w0 w) (fun e w => m - (intOf (e 7)).toNat) ?_ ?_
      · exact ⟨0, Nat.zero_le _, h0, h5, rfl, rfl, hx⟩
      rintro e w ⟨i, hi, h0, h5, h6, h7, hx⟩
      have hm7 := h7
      have hT := h.ext hx
      replace hsa := Sl.ext hsa hx
      replace hsb := Sl.ext hsb hx
      refine W.seq ?_
      refine W.seq ?_
      refine W.region ?_
      refine WL.c rfl (o_mvh h7 ?_)
      refine WL.c rfl (o_mvh h0 ?_)
      refine WL.c rfl (o_nil rfl ?_)
      refine WL.c rfl (o_fa 3 TI53 rfl TI51 rfl rfl ?_)
      refine WL.c rfl (o_ld TI51 rfl rfl (cell_of hT.cell rfl) ?_)
      refine WL.c rfl (o_mvh h5 ?_)
      refine WL.c rfl (o_ix1 TI51 TI23 rfl rfl (Sl.own hT.bk.d.row) (by omega) ?_)
      intro b88 o88 hc88 hb88
      refine WL.c rfl (o_ld TI23 rfl rfl (hc88.trans (vals_at hk1)) ?_)
      refine WL.c rfl (o_lenR TI23 rfl hsb ?_)
      refine WL.c rfl (o_lt rfl rfl ?_)
      refine WL.nil ?_
      refine W.cond rfl (fun c91 => ?_) (fun c91 => ?_)
      · try simp only [decide_eq_true_eq, decide_eq_false_iff_not, Bool.not_eq_true', Bool.not_eq_false', Bool.and_eq_true, Bool.or_eq_true, Bool.and_eq_false_iff, Bool.or_eq_false_iff] at c91
        refine W.skip ?_
        refine W.seq ?_
        refine W.block ?_
        refine W.seq ?_
        have hi1 : i < m := by omega
        rcases Nat.lt_or_ge i ma with hi2 | hi2
        · skip
          refine W.region ?_
          refine WL.c rfl (o_mvh h0 ?_)
          refine WL.c rfl (o_nil rfl ?_)
          refine WL.c rfl (o_fa 3 TI53 rfl TI51 rfl rfl ?_)
          refine WL.c rfl (o_ld TI51 rfl rfl (cell_of hT.cell rfl) ?_)
          refine WL.c rfl (o_mvh h5 ?_)
          refine WL.c rfl (o_ix1 TI51 TI23 rfl rfl (Sl.own hT.bk.d.row) (by omega) ?_)
          intro b99 o99 hc99 hb99
          refine WL.c rfl (o_ld TI23 rfl rfl (hc99.trans (vals_at hk1)) ?_)
          refine WL.c rfl (o_mvh h7 ?_)
          refine WL.c rfl (o_ix1 TI23 TI5 rfl rfl hsb (by omega) ?_)
          intro b102 o102 hc102 hb102
          refine WL.c rfl (o_ld TI5 rfl rfl (hc102.trans (rep_at hi1)) ?_)
          refine WL.c rfl (o_mvh h6 ?_)
          refine WL.c rfl (o_ne rfl rfl ?_)
          refine WL.c rfl (o_mvh (show _ = Value.bool _ from rfl) ?_)
          refine WL.g rfl (by simp) rfl (o_mvh h7 ?_)
          refine WL.g rfl (by simp) rfl (o_mvh h0 ?_)
          refine WL.g rfl (by simp) rfl (o_nil rfl ?_)
          refine WL.g rfl (by simp) rfl (o_fa 2 TI53 rfl TI51 rfl rfl ?_)
          refine WL.g rfl (by simp) rfl (o_ld TI51 rfl rfl (cell_of hT.cell rfl) ?_)
          refine WL.g rfl (by simp) rfl (o_mvh h5 ?_)
          refine WL.g rfl (by simp) rfl (o_ix1 TI51 TI23 rfl rfl (Sl.own hT.bk.c.row) (by omega) ?_)
          intro b113 o113 hc113 hb113
          refine WL.g rfl (by simp) rfl (o_ld TI23 rfl rfl (hc113.trans (vals_at hk1)) ?_)
          refine WL.g rfl (by simp) rfl (o_lenR TI23 rfl hsa ?_)
          refine WL.g rfl (by simp) rfl (o_lt rfl rfl ?_)
          refine WL.g rfl (by simp) rfl (o_mvh (show _ = Value.bool _ from rfl) ?_)
          refine WL.g rfl (by simp; omega) rfl (o_mvh h0 ?_)
          refine WL.g rfl (by simp; omega) rfl (o_nil rfl ?_)
          refine WL.g rfl (by simp; omega) rfl (o_fa 2 TI53 rfl TI51 rfl rfl ?_)
          refine WL.g rfl (by simp; omega) rfl (o_ld TI51 rfl rfl (cell_of hT.cell rfl) ?_)
          refine WL.g rfl (by simp; omega) rfl (o_mvh h5 ?_)
          refine WL.g rfl (by simp; omega) rfl (o_ix1 TI51 TI23 rfl rfl (Sl.own hT.bk.c.row) (by omega) ?_)
          intro b123 o123 hc123 hb123
          refine WL.g rfl (by simp; omega) rfl (o_ld TI23 rfl rfl (hc123.trans (vals_at hk1)) ?_)
          refine WL.g rfl (by simp; omega) rfl (o_mvh h7 ?_)
          refine WL.g rfl (by simp; omega) rfl (o_ix1 TI23 TI5 rfl rfl hsa (by omega) ?_)
          intro b126 o126 hc126 hb126
          refine WL.g rfl (by simp; omega) rfl (o_ld TI5 rfl rfl (hc126.trans (rep_at hi2)) ?_)
          refine WL.g rfl (by simp; omega) rfl (o_mvh h6 ?_)
          refine WL.g rfl (by simp; omega) rfl (o_ne rfl rfl ?_)
          refine WL.g rfl (by simp) rfl (o_pickA rfl rfl ?_)
          refine WL.c rfl (o_pickO rfl rfl ?_)
          refine WL.nil ?_
          refine W.condF' rfl (by simp) ?_
          refine W.skip ?_
          refine W.region ?_
          refine WL.c rfl (o_mvh h7 ?_)
          refine WL.c rfl (o_addi rfl rfl (by omega) ?_)
          refine WL.c rfl (o_ash (show _ = Value.int _ _ from rfl) ?_)
          refine WL.nil ?_
          refine ⟨⟨i + 1, by omega, h0, h5, h6, rfl, hx⟩, ?_⟩
          show m - ((i : Int) + 1).toNat < _
          rw [hm7]; simp only [intOf]; omega
        · skip
          refine W.region ?_
          refine WL.c rfl (o_mvh h0 ?_)
          refine WL.c rfl (o_nil rfl ?_)
          refine WL.c rfl (o_fa 3 TI53 rfl TI51 rfl rfl ?_)
          refine WL.c rfl (o_ld TI51 rfl rfl (cell_of hT.cell rfl) ?_)
          refine WL.c rfl (o_mvh h5 ?_)
          refine WL.c rfl (o_ix1 TI51 TI23 rfl rfl (Sl.own hT.bk.d.row) (by omega) ?_)
          intro b99 o99 hc99 hb99
          refine WL.c rfl (o_ld TI23 rfl rfl (hc99.trans (vals_at hk1)) ?_)
          refine WL.c rfl (o_mvh h7 ?_)
          refine WL.c rfl (o_ix1 TI23 TI5 rfl rfl hsb (by omega) ?_)
          intro b102 o102 hc102 hb102
          refine WL.c rfl (o_ld TI5 rfl rfl (hc102.trans (rep_at hi1)) ?_)
          refine WL.c rfl (o_mvh h6 ?_)
          refine WL.c rfl (o_ne rfl rfl ?_)
          refine WL.c rfl (o_mvh (show _ = Value.bool _ from rfl) ?_)
          refine WL.g rfl (by simp) rfl (o_mvh h7 ?_)
          refine WL.g rfl (by simp) rfl (o_mvh h0 ?_)
          refine WL.g rfl (by simp) rfl (o_nil rfl ?_)
          refine WL.g rfl (by simp) rfl (o_fa 2 TI53 rfl TI51 rfl rfl ?_)
          refine WL.g rfl (by simp) rfl (o_ld TI51 rfl rfl (cell_of hT.cell rfl) ?_)
          refine WL.g rfl (by simp) rfl (o_mvh h5 ?_)
          refine WL.g rfl (by simp) rfl (o_ix1 TI51 TI23 rfl rfl (Sl.own hT.bk.c.row) (by omega) ?_)
          intro b113 o113 hc113 hb113
          refine WL.g rfl (by simp) rfl (o_ld TI23 rfl rfl (hc113.trans (vals_at hk1)) ?_)
          refine WL.g rfl (by simp) rfl (o_lenR TI23 rfl hsa ?_)
          refine WL.g rfl (by simp) rfl (o_lt rfl rfl ?_)
          refine WL.g rfl (by simp) rfl (o_mvh (show _ = Value.bool _ from rfl) ?_)
          refine WL.s rfl (by simp; omega) rfl ?_
          refine WL.s rfl (by simp; omega) rfl ?_
          refine WL.s rfl (by simp; omega) rfl ?_
          refine WL.s rfl (by simp; omega) rfl ?_
          refine WL.s rfl (by simp; omega) rfl ?_
          refine WL.s rfl (by simp; omega) rfl ?_
          refine WL.s rfl (by simp; omega) rfl ?_
          refine WL.s rfl (by simp; omega) rfl ?_
          refine WL.s rfl (by simp; omega) rfl ?_
          refine WL.s rfl (by simp; omega) rfl ?_
          refine WL.s rfl (by simp; omega) rfl ?_
          refine WL.s rfl (by simp; omega) rfl ?_
          refine WL.g rfl (by simp) rfl (o_pickF rfl (by simp; omega) ?_)
          refine WL.c rfl (o_pickO rfl rfl ?_)
          refine WL.nil ?_
          refine W.condF' rfl (by simp) ?_
          refine W.skip ?_
          refine W.region ?_
          refine WL.c rfl (o_mvh h7 ?_)
          refine WL.c rfl (o_addi rfl rfl (by omega) ?_)
          refine WL.c rfl (o_ash (show _ = Value.int _ _ from rfl) ?_)
          refine WL.nil ?_
          refine ⟨⟨i + 1, by omega, h0, h5, h6, rfl, hx⟩, ?_⟩
          show m - ((i : Int) + 1).toNat < _
          rw [hm7]; simp only [intOf]; omega
      · try simp only [decide_eq_true_eq, decide_eq_false_iff_not, Bool.not_eq_true', Bool.not_eq_false', Bool.and_eq_true, Bool.or_eq_true, Bool.and_eq_false_iff, Bool.or_eq_false_iff] at c91
        refine W.exit ?_
        refine W.region ?_
        refine WL.c rfl (o_mvh h5 ?_)
        refine WL.c rfl (o_addi rfl rfl (by omega) ?_)
        refine WL.c rfl (o_ash (show _ = Value.int _ _ from rfl) ?_)
        refine WL.nil ?_
        refine ⟨⟨k + 1, by omega, h0, rfl, hx⟩, ?_⟩
        show nb - ((k : Int) + 1).toNat < _
        rw [hm5]; simp only [intOf]; omega
    · try simp only [decide_eq_true_eq, decide_eq_false_iff_not, Bool.not_eq_true', Bool.not_eq_false', Bool.and_eq_true, Bool.or_eq_true, Bool.and_eq_false_iff, Bool.or_eq_false_iff] at c75
      refine W.exit ?_
      refine W.seq ?_
      refine W.region ?_
      refine WL.c rfl (o_ash (show _ = Value.bool _ from rfl) ?_)
      refine WL.nil ?_
      refine W.ret ?_
      refine ret1v rfl (show _ = Value.bool _ from rfl) ?_
      exact ⟨rfl, hx⟩
theorem begins0_spec (tp p q : Nat) (x0 x1 x2 x3 x4 x5 x6 x7 : Value) (w0 : World) (hB : w0.heap[tp]? = some (.cells #[x0, x1, x2, x3, x4, x5, x6, x7] 55 (0, 0))) : Ca Try.prog 40 #[.pointer (some ⟨tp, 0, none⟩), .int .i64 0, .pointer (some ⟨p, 0, none⟩), .pointer (some ⟨q, 0, none⟩)] w0 (fun v w' => v = .bool true ∧ w'.heap[tp]? = some (.cells #[.pointer (some ⟨p, 0, none⟩), x1, .pointer (some ⟨q, 0, none⟩), x3, x4, x5, x6, x7] 55 (0, 0)) ∧ Only (fun k => k = tp) w0 w') := by
  refine Ca.of Try.func40 Try.ntmps40 rfl rfl ?_
  refine W.seq ?_
  refine W.region ?_
  refine WL.c rfl (o_ash (show _ = Value.bool _ from rfl) ?_)
  refine WL.nil ?_
  refine W.seq ?_
  refine W.seq ?_
  refine W.region ?_
  refine WL.c rfl (o_mvh (by first | exact (show _ = Value.pointer _ from rfl) | exact rfl) ?_)
  refine WL.c rfl (o_eqN (p := some ⟨p, 0, none⟩) TI25 rfl rfl ?_)
  refine WL.c rfl (o_mvh (by first | exact (show _ = Value.pointer _ from rfl) | exact rfl) ?_)
  refine WL.c rfl (o_eqN (p := some ⟨q, 0, none⟩) TI48 rfl rfl ?_)
  refine WL.c rfl (o_neB TI4 rfl rfl ?_)
  refine WL.nil ?_
  refine W.condF' rfl (rfl) ?_
  refine W.skip ?_
  refine W.seq ?_
  refine W.seq ?_
  refine W.region ?_
  refine WL.c rfl (o_mvh (by first | exact (show _ = Value.pointer _ from rfl) | exact rfl) ?_)
  refine WL.c rfl (o_neN (p := some ⟨q, 0, none⟩) TI48 rfl rfl ?_)
  refine WL.nil ?_
  refine W.condT' rfl (rfl) ?_
  refine W.seq ?_
  refine W.region ?_
  refine WL.c rfl (o_mvh (by first | exact (show _ = Value.pointer _ from rfl) | exact rfl) ?_)
  refine WL.c rfl (o_mvh (show _ = Value.int _ _ from rfl) ?_)
  refine WL.c rfl (o_mvh (by first | exact (show _ = Value.pointer _ from rfl) | exact rfl) ?_)
  refine WL.c rfl (o_nil rfl ?_)
  refine WL.c rfl (o_fa 0 TI55 rfl TI47 rfl rfl ?_)
  refine WL.c rfl (o_ixA (i := 0) TI47 TI25 rfl rfl (by decide) ?_)
  refine WL.u (o_stB TI25 rfl (show _ = Value.pointer (some ⟨p, 0, none⟩) from rfl) rfl hB (show 0 < 8 by decide) ?_)
  intro w1 hB1 ho1 hs1
  replace hB1 : w1.heap[tp]? = some (.cells #[.pointer (some ⟨p, 0, none⟩), x1, x2, x3, x4, x5, x6, x7] 55 (0, 0)) := hB1
  refine WL.nil ?_
  refine W.region ?_
  refine WL.c rfl (o_mvh (by first | exact (show _ = Value.pointer _ from rfl) | exact rfl) ?_)
  refine WL.c rfl (o_mvh (show _ = Value.int _ _ from rfl) ?_)
  refine WL.c rfl (o_mvh (by first | exact (show _ = Value.pointer _ from rfl) | exact rfl) ?_)
  refine WL.c rfl (o_nil rfl ?_)
  refine WL.c rfl (o_fa 2 TI55 rfl TI49 rfl rfl ?_)
  refine WL.c rfl (o_ixA (i := 0) TI49 TI48 rfl rfl (by decide) ?_)
  refine WL.u (o_stB TI48 rfl (show _ = Value.pointer (some ⟨q, 0, none⟩) from rfl) rfl hB1 (show 2 < 8 by decide) ?_)
  intro w2 hB2 ho2 hs2
  replace hB2 : w2.heap[tp]? = some (.cells #[.pointer (some ⟨p, 0, none⟩), x1, .pointer (some ⟨q, 0, none⟩), x3, x4, x5, x6, x7] 55 (0, 0)) := hB2
  refine WL.nil ?_
  refine W.seq ?_
  refine W.region ?_
  refine WL.c rfl (o_ash (show _ = Value.bool _ from rfl) ?_)
  refine WL.nil ?_
  refine W.ret ?_
  refine ret1v rfl (show _ = Value.bool _ from rfl) ?_
  exact ⟨rfl, hB2, ho1.trans ho2⟩
theorem begins1_spec (tp p q : Nat) (x0 x1 x2 x3 x4 x5 x6 x7 : Value) (w0 : World) (hB : w0.heap[tp]? = some (.cells #[x0, x1, x2, x3, x4, x5, x6, x7] 55 (0, 0))) : Ca Try.prog 40 #[.pointer (some ⟨tp, 0, none⟩), .int .i64 1, .pointer (some ⟨p, 0, none⟩), .pointer (some ⟨q, 0, none⟩)] w0 (fun v w' => v = .bool true ∧ w'.heap[tp]? = some (.cells #[x0, .pointer (some ⟨p, 0, none⟩), x2, .pointer (some ⟨q, 0, none⟩), x4, x5, x6, x7] 55 (0, 0)) ∧ Only (fun k => k = tp) w0 w') := by
  refine Ca.of Try.func40 Try.ntmps40 rfl rfl ?_
  refine W.seq ?_
  refine W.region ?_
  refine WL.c rfl (o_ash (show _ = Value.bool _ from rfl) ?_)
  refine WL.nil ?_
  refine W.seq ?_
  refine W.seq ?_
  refine W.region ?_
  refine WL.c rfl (o_mvh (by first | exact (show _ = Value.pointer _ from rfl) | exact rfl) ?_)
  refine WL.c rfl (o_eqN (p := some ⟨p, 0, none⟩) TI25 rfl rfl ?_)
  refine WL.c rfl (o_mvh (by first | exact (show _ = Value.pointer _ from rfl) | exact rfl) ?_)
  refine WL.c rfl (o_eqN (p := some ⟨q, 0, none⟩) TI48 rfl rfl ?_)
  refine WL.c rfl (o_neB TI4 rfl rfl ?_)
  refine WL.nil ?_
  refine W.condF' rfl (rfl) ?_
  refine W.skip ?_
  refine W.seq ?_
  refine W.seq ?_
  refine W.region ?_
  refine WL.c rfl (o_mvh (by first | exact (show _ = Value.pointer _ from rfl) | exact rfl) ?_)
  refine WL.c rfl (o_neN (p := some ⟨q, 0, none⟩) TI48 rfl rfl ?_)
  refine WL.nil ?_
  refine W.condT' rfl (rfl) ?_
  refine W.seq ?_
  refine W.region ?_
  refine WL.c rfl (o_mvh (by first | exact (show _ = Value.pointer _ from rfl) | exact rfl) ?_)
  refine WL.c rfl (o_mvh (show _ = Value.int _ _ from rfl) ?_)
  refine WL.c rfl (o_mvh (by first | exact (show _ = Value.pointer _ from rfl) | exact rfl) ?_)
  refine WL.c rfl (o_nil rfl ?_)
  refine WL.c rfl (o_fa 0 TI55 rfl TI47 rfl rfl ?_)
  refine WL.c rfl (o_ixA (i := 1) TI47 TI25 rfl rfl (by decide) ?_)
  refine WL.u (o_stB TI25 rfl (show _ = Value.pointer (some ⟨p, 0, none⟩) from rfl) rfl hB (show 1 < 8 by decide) ?_)
  intro w1 hB1 ho1 hs1
  replace hB1 : w1.heap[tp]? = some (.cells #[x0, .pointer (some ⟨p, 0, none⟩), x2, x3, x4, x5, x6, x7] 55 (0, 0)) := hB1
  refine WL.nil ?_
  refine W.region ?_
  refine WL.c rfl (o_mvh (by first | exact (show _ = Value.pointer _ from rfl) | exact rfl) ?_)
  refine WL.c rfl (o_mvh (show _ = Value.int _ _ from rfl) ?_)
  refine WL.c rfl (o_mvh (by first | exact (show _ = Value.pointer _ from rfl) | exact rfl) ?_)
  refine WL.c rfl (o_nil rfl ?_)
  refine WL.c rfl (o_fa 2 TI55 rfl TI49 rfl rfl ?_)
  refine WL.c rfl (o_ixA (i := 1) TI49 TI48 rfl rfl (by decide) ?_)
  refine WL.u (o_stB TI48 rfl (show _ = Value.pointer (some ⟨q, 0, none⟩) from rfl) rfl hB1 (show 3 < 8 by decide) ?_)
  intro w2 hB2 ho2 hs2
  replace hB2 : w2.heap[tp]? = some (.cells #[x0, .pointer (some ⟨p, 0, none⟩), x2, .pointer (some ⟨q, 0, none⟩), x4, x5, x6, x7] 55 (0, 0)) := hB2
  refine WL.nil ?_
  refine W.seq ?_
  refine W.region ?_
  refine WL.c rfl (o_ash (show _ = Value.bool _ from rfl) ?_)
  refine WL.nil ?_
  refine W.ret ?_
  refine ret1v rfl (show _ = Value.bool _ from rfl) ?_
  exact ⟨rfl, hB2, ho1.trans ho2⟩
theorem beginsN_spec (tp : Nat) (i : Int) (w0 : World) : Ca Try.prog 40 #[.pointer (some ⟨tp, 0, none⟩), .int .i64 i, .pointer none, .pointer none] w0 (fun v w' => v = .bool true ∧ w' = w0) := by
  refine Ca.of Try.func40 Try.ntmps40 rfl rfl ?_
  refine W.seq ?_
  refine W.region ?_
  refine WL.c rfl (o_ash (show _ = Value.bool _ from rfl) ?_)
  refine WL.nil ?_
  refine W.seq ?_
  refine W.seq ?_
  refine W.region ?_
  refine WL.c rfl (o_mvh (by first | exact (show _ = Value.pointer _ from rfl) | exact rfl) ?_)
  refine WL.c rfl (o_eqN (p := none) TI25 rfl rfl ?_)
  refine WL.c rfl (o_mvh (by first | exact (show _ = Value.pointer _ from rfl) | exact rfl) ?_)
  refine WL.c rfl (o_eqN (p := none) TI48 rfl rfl ?_)
  refine WL.c rfl (o_neB TI4 rfl rfl ?_)
  refine WL.nil ?_
  refine W.condF' rfl (rfl) ?_
  refine W.skip ?_
  refine W.seq ?_
  refine W.seq ?_
  refine W.region ?_
  refine WL.c rfl (o_mvh (by first | exact (show _ = Value.pointer _ from rfl) | exact rfl) ?_)
  refine WL.c rfl (o_neN (p := none) TI48 rfl rfl ?_)
  refine WL.nil ?_
  refine W.condF' rfl (rfl) ?_
  refine W.skip ?_
  refine W.seq ?_
  refine W.region ?_
  refine WL.c rfl (o_ash (show _ = Value.bool _ from rfl) ?_)
  refine WL.nil ?_
  refine W.ret ?_
  refine ret1v rfl (show _ = Value.bool _ from rfl) ?_
  exact ⟨rfl, rfl⟩

def setF {α : Type} (f : Nat → α) (i : Nat) (x : α) : Nat → α := fun j => if j = i then x else f j
theorem setF_eq {α : Type} (f : Nat → α) (i : Nat) (x : α) : setF f i x i = x := if_pos rfl
theorem setF_ne {α : Type} (f : Nat → α) {i j : Nat} (x : α) (h : j ≠ i) : setF f i x j = f j := if_neg h
def TbX (w : World) (H tp : Nat) (S : Nat → Option SSt) (nl nb : Nat) : Prop := ∃ (o : Nat → Nat) (P Q : Nat → Value) (a b c d : Value) (VA VB VC VD : Nat → Value), Tb w H tp o S S P Q a b c d nl nb VA VB VC VD
def TbO (w : World) (H tp : Nat) (S : Nat → Option SSt) (nl nb : Nat) (o : Nat → Nat) (B : Nat) : Prop := ∃ (o' : Nat → Nat) (P Q : Nat → Value) (a b c d : Value) (VA VB VC VD : Nat → Value), Tb w H tp o' S S P Q a b c d nl nb VA VB VC VD ∧ ∀ k, k < B → o' k = o k
theorem Tb.begin {w w' : World} {H tp i p q : Nat} {o : Nat → Nat} {S R : Nat → Option SSt} {P Q : Nat → Value} {a b c d : Value} {nl nb : Nat} {VA VB VC VD : Nat → Value} {s : SSt} {lv lq : Value} {V Vq : Nat → Value} (h : Tb w H tp o S R P Q a b c d nl nb VA VB VC VD) (hp : Stk w 0 p s.most s.high s.L lv V) (hq : RStk w 0 q s.most s.high s.L lq Vq)
    (h0p : ∀ k, SF p lv V s.L.length k → o k = 0 ∧ H ≤ k) (h0q : ∀ k, SF q lq Vq s.L.length k → o k = 0 ∧ H ≤ k) (hpq : ∀ k, SF p lv V s.L.length k → ¬ SF q lq Vq s.L.length k) (hg : Good s) (ho : Only (fun k => k = tp) w w')
    (cell : w'.heap[tp]? = some (.cells #[setF P i (.pointer (some ⟨p, 0, none⟩)) 0, setF P i (.pointer (some ⟨p, 0, none⟩)) 1, setF Q i (.pointer (some ⟨q, 0, none⟩)) 0, setF Q i (.pointer (some ⟨q, 0, none⟩)) 1, a, b, c, d] 55 (0, 0))) :
    ∃ o', Tb w' H tp o' (setF S i (some s)) (setF R i (some s)) (setF P i (.pointer (some ⟨p, 0, none⟩))) (setF Q i (.pointer (some ⟨q, 0, none⟩))) a b c d nl nb VA VB VC VD ∧ ∀ k, ¬ SF p lv V s.L.length k → ¬ SF q lq Vq s.L.length k → o' k = o k := by
  have hot := h.otp
  obtain ⟨o', e1, e2, e3, e4⟩ : ∃ o' : Nat → Nat, (∀ k, SF p lv V s.L.length k → o' k = 1 + i) ∧ (∀ k, SF q lq Vq s.L.length k → o' k = 3 + i) ∧ (∀ k, o k ≠ 0 → o' k = o k) ∧ (∀ k, ¬ SF p lv V s.L.length k → ¬ SF q lq Vq s.L.length k → o' k = o k) := by
    classical
    refine ⟨fun k => if SF p lv V s.L.length k then 1 + i else if SF q lq Vq s.L.length k then 3 + i else o k, fun k hk => if_pos hk, fun k hk => ?_, fun k hk => ?_, fun k h1 h2 => ?_⟩
    · show (if _ then _ else _) = _
      rw [if_neg (fun h1 => hpq k h1 hk), if_pos hk]
    · show (if _ then _ else _) = _
      rw [if_neg (fun h1 => hk (h0p k h1).1), if_neg (fun h1 => hk (h0q k h1).1)]
    · show (if _ then _ else _) = _
      rw [if_neg h1, if_neg h2]
  have st : ∀ j, 1 ≤ j → j ≠ 9 → Stp (fun k => k = tp) o o' j w w' := fun j h1 h2 => ⟨ho, fun k hk1 hk2 => ⟨fun he => by subst he; omega, by rw [e3 k (by omega)]; exact hk2⟩⟩
  have ntp : ∀ k, SF p lv V s.L.length k → ¬ k = tp := fun k hk he => by have := (h0p k hk).1; subst he; omega
  have ntq : ∀ k, SF q lq Vq s.L.length k → ¬ k = tp := fun k hk he => by have := (h0q k hk).1; subst he; omega
  refine ⟨o', ⟨cell, by rw [e3 tp (by omega)]; exact hot, Nat.le_trans h.le ho.size, fun k hk => ?_, fun k hk => ?_, fun j hj => ?_, fun j hj => ?_, fun j hj t ht => ?_, fun j hj t ht => ?_, h.bk.stp (F := fun k => k = tp) (fun id h1 h2 h3 => st _ (by omega) h3)⟩, e4⟩
  · rw [e4 k (fun h1 => by have := (h0p k h1).2; omega) (fun h1 => by have := (h0q k h1).2; omega)]; exact h.lo k hk
  · have hsz := ho.size
    rw [e4 k (fun h1 => by have := (hp.lt k h1).2; omega) (fun h1 => by have := (hq.lt k h1).2; omega)]; exact h.hi k (by omega)
  · by_cases e : j = i
    · subst e
      rw [setF_eq, setF_eq]
      exact .inr ⟨s, p, lv, V, rfl, rfl, hp.only ho ntp, e1⟩
    · rw [setF_ne _ _ e, setF_ne _ _ e]
      exact (h.ps j hj).stp (st _ (by omega) (by omega))
  · by_cases e : j = i
    · subst e
      rw [setF_eq, setF_eq]
      exact .inr ⟨s, q, lq, Vq, rfl, rfl, hq.only ho ntq, e2⟩
    · rw [setF_ne _ _ e, setF_ne _ _ e]
      exact (h.rs j hj).stp (st _ (by omega) (by omega))
  · by_cases e : j = i
    · subst e; rw [setF_eq] at ht; cases ht; exact hg
    · rw [setF_ne _ _ e] at ht; exact h.gs j hj t ht
  · by_cases e : j = i
    · subst e; rw [setF_eq] at ht; cases ht; exact hg
    · rw [setF_ne _ _ e] at ht; exact h.gr j hj t ht
theorem begins_spec {w0 : World} {H tp i p q : Nat} {o : Nat → Nat} {S : Nat → Option SSt} {P Q : Nat → Value} {a b c d : Value} {nl nb : Nat} {VA VB VC VD : Nat → Value} {s : SSt} {lv lq : Value} {V Vq : Nat → Value} (h : Tb w0 H tp o S S P Q a b c d nl nb VA VB VC VD) (hi : i < 2) (hp : Stk w0 0 p s.most s.high s.L lv V) (hq : RStk w0 0 q s.most s.high s.L lq Vq)
    (h0p : ∀ k, SF p lv V s.L.length k → o k = 0 ∧ H ≤ k) (h0q : ∀ k, SF q lq Vq s.L.length k → o k = 0 ∧ H ≤ k) (hpq : ∀ k, SF p lv V s.L.length k → ¬ SF q lq Vq s.L.length k) (hg : Good s) {B : Nat} (hBp : ∀ k, SF p lv V s.L.length k → B ≤ k) (hBq : ∀ k, SF q lq Vq s.L.length k → B ≤ k) :
    Ca Try.prog 40 #[.pointer (some ⟨tp, 0, none⟩), .int .i64 (i : Int), .pointer (some ⟨p, 0, none⟩), .pointer (some ⟨q, 0, none⟩)] w0 (fun v w' => v = .bool true ∧ TbO w' H tp (setF S i (some s)) nl nb o B ∧ Only (fun k => k = tp) w0 w') := by
  obtain rfl | rfl : i = 0 ∨ i = 1 := by omega
  · refine (begins0_spec tp p q _ _ _ _ _ _ _ _ w0 h.cell).mono (fun v w' hh => ⟨hh.1, ?_, hh.2.2⟩)
    obtain ⟨o', h', hk⟩ := h.begin (i := 0) hp hq h0p h0q hpq hg hh.2.2 hh.2.1
    exact ⟨o', _, _, _, _, _, _, _, _, _, _, h', fun k hB => hk k (fun h1 => by have := hBp k h1; omega) (fun h1 => by have := hBq k h1; omega)⟩
  · refine (begins1_spec tp p q _ _ _ _ _ _ _ _ w0 h.cell).mono (fun v w' hh => ⟨hh.1, ?_, hh.2.2⟩)
    obtain ⟨o', h', hk⟩ := h.begin (i := 1) hp hq h0p h0q hpq hg hh.2.2 hh.2.1
    exact ⟨o', _, _, _, _, _, _, _, _, _, _, h', fun k hB => hk k (fun h1 => by have := hBp k h1; omega) (fun h1 => by have := hBq k h1; omega)⟩


theorem Good.of {xs : List UInt8} {s : SSt} {a : Nat} (h : rdS xs = .ok s a) : Good s := by
  obtain ⟨-, h1, h2, h3, h4, h5⟩ := rdS_back h
  exact ⟨by omega, by omega, h5⟩

set_option maxHeartbeats 1000000 in
theorem loads_spec (H tp : Nat) (o : Nat → Nat) (S : Nat → Option SSt) (P Q : Nat → Value) (a b c d : Value) (nl nb : Nat) (VA VB VC VD : Nat → Value) (w0 : World) (h : Tb w0 H tp o S S P Q a b c d nl nb VA VB VC VD) (i : Nat) (hi : i < 2) (dv : Value) (xs : List UInt8) (hD : By w0 dv xs) (hl : xs.length ≤ 100000000000000) : Ca Try.prog 46 #[.pointer (some ⟨tp, 0, none⟩), .int .i64 (i : Int), dv] w0 (fun v w' => v = .bool true ∧ (∃ S', TbO w' H tp S' nl nb o w0.heap.size ∧ ∀ j, (S j).isSome = true → (S' j).isSome = true) ∧ Only (fun k => k = tp) w0 w') := by
  refine Ca.of Try.func46 Try.ntmps46 rfl rfl ?_
  refine W.seq ?_
  refine W.region ?_
  refine WL.c rfl (o_ash (show _ = Value.bool _ from rfl) ?_)
  refine WL.nil ?_
  refine W.seq ?_
  refine W.region ?_
  refine WL.c rfl (o_mvh (by first | exact (show _ = Value.slice _ _ _ from rfl) | exact rfl) ?_)
  refine WL.c rfl (o_apO (w0.heap.size) TI23 TI5 (show _ = Value.slice _ _ _ from rfl) rfl (World.ownsRow_nil _ _ _ _) hD rfl (by decide) one_bv (by rw [maxLen_eq]; omega) (by omega) (Nat.le_refl _) ?_)
  intro v16 w16 hown16 ho16 hb16 hk16
  rw [Nat.zero_add, List.nil_append] at hown16
  have hx16 : Ext w0 w16 := ho16.mono (fun j _ h => by cases h)
  refine WL.apO (w0.heap.size) rfl rfl TI23 TI5 (show _ = Value.int _ _ from rfl) (show _ = v16 from rfl) hown16 (by decide) (by decide) rfl (one1 rfl) rfl (by rw [maxLen_eq]; omega) (by omega) hx16.size ?_
  intro v18 w18 hown18 ho18 hb18 hk18
  replace hown18 : w18.ownsRow w0.heap.size 5 1 v18 (xs.length + 1) ((xs ++ [90]).map bv) := by rw [List.map_append]; exact hown18
  have hx18 : Ext w0 w18 := Ext.many hx16 (Nat.le_refl _) ho18 (fun k hk => (hown16.lt k hk).1)
  obtain ⟨g, cap, hv18, -⟩ := own_some hown18 (by omega)
  subst hv18
  have hD18 := Sl.ext hD hx18
  obtain ⟨cap', cur', hvv, hg0, -, hnc, -, -, -⟩ := own_blk hown18 rfl
  have hcap : xs.length + 1 ≤ cap := by simp only [Value.slice.injEq] at hvv; omega
  have hHl : By w18 (Value.slice (some ⟨g, 0, none⟩) xs.length cap) xs := by
    have h9 := Sl.own (own_take hown18 (show xs.length ≤ xs.length + 1 by omega))
    rw [Nat.mul_one, List.map_append, List.take_left' (by simp)] at h9
    exact h9
  have hhi := h.hi
  have hle0 := h.le
  have hs18 := hx18.size
  have hg18 := hown18.lt g rfl
  have hog : o g = 0 := hhi g hg18.1
  replace h := h.ext hx18
  refine WL.c rfl (o_mvh (by first | exact (show _ = Value.slice _ _ _ from rfl) | exact rfl) ?_)
  refine WL.c rfl (o_lenR TI23 rfl hD18 ?_)
  refine WL.c rfl (o_slv TI23 TI5 (show _ = Value.slice (some ⟨g, 0, none⟩) (xs.length + 1) cap from rfl) Lo.n (Hi.s rfl) (Nat.zero_le _) (by omega) ?_)
  rw [sliced0]
  refine WL.c rfl (o_ash (by first | exact (show _ = Value.slice _ _ _ from rfl) | exact rfl) ?_)
  refine WL.nil ?_
  refine W.seq ?_
  rcases hr : rdS xs with ⟨s, a1⟩ | ⟨e1, a1⟩
  · skip
    have hgs := Good.of hr
    refine W.region ?_
    refine WL.c rfl (o_mvh (by first | exact (show _ = Value.slice _ _ _ from rfl) | exact rfl) ?_)
    refine WL.c rfl (o_call Try.call9 (lc rfl ln) ((load_spec _ xs _ hHl (by omega)).mono ?_))
    rintro v24 w24 ⟨hok, -⟩
    obtain ⟨p, lv, V, rfl, hst, hx24⟩ := hok s a1 hr
    replace hD18 := Sl.ext hD18 hx24
    replace hHl := Sl.ext hHl hx24
    replace hown18 := own_ext hown18 hx24
    replace h := h.ext hx24
    replace hx18 := hx18.tr hx24
    have hlo24 := hx24.size
    have h18s := hx18.size
    have h24 := h
    have hg24 : g < w24.heap.size := (hown18.lt g rfl).2
    have hstl : ∀ k, SF p lv V s.L.length k → k < w24.heap.size := fun k hk => (hst.lt k hk).2
    have hsth : ∀ k, SF p lv V s.L.length k → w18.heap.size ≤ k := fun k hk => (hst.lt k hk).1
    refine WL.c rfl (o_mvh (by first | exact (show _ = Value.tuple _ from rfl) | exact rfl) ?_)
    refine WL.c rfl (o_ext rfl rfl ?_)
    refine WL.c rfl (o_ext rfl rfl ?_)
    refine WL.c rfl (o_alB TI31 ?_)
    intro w9 hC9 hx9 hs9
    replace hD18 := Sl.ext hD18 hx9
    replace hHl := Sl.ext hHl hx9
    replace hown18 := own_ext hown18 hx9
    replace h := h.ext hx9
    replace hx18 := hx18.tr hx9
    replace hst := hst.ext hx9
    refine WL.c rfl (o_ash (by first | exact (show _ = Value.pointer _ from rfl) | exact rfl) ?_)
    refine WL.u (o_stA TI31 rfl (show _ = Value.agg #[.int .i64 0, .int .i64 0] from rfl) rfl rfl hC9 rfl ?_)
    intro w10 hB9 ho9 hs10
    have h2410 : w24.heap.size ≤ w10.heap.size := by have := ho9.size; have := hx9.size; omega
    obtain ⟨c9, hc9⟩ : ∃ c, c = w24.heap.size := ⟨_, rfl⟩
    rw [← hc9] at hB9 ho9 hC9 ⊢
    have h09 : o c9 = 0 := h24.hi c9 (by omega)
    have hl9 : g < c9 := by rw [hc9]; exact hg24
    replace hst := hst.only ho9 (fun k hk he => by have := hstl k hk; omega)
    replace hD18 := Sl.ext hD (hx18.trans' ho9 (fun _ h => h) (fun k hk he => by omega))
    replace hown18 := own_only hown18 ho9 (fun k hk he => by have : g = k := by simpa [Value.ownBlock] using hk
                                                             omega)
    replace hHl : By w10 (Value.slice (some ⟨g, 0, none⟩) xs.length cap) xs := by
      have h9 := Sl.own (own_take hown18 (show xs.length ≤ xs.length + 1 by omega))
      rw [Nat.mul_one, List.map_append, List.take_left' (by simp)] at h9
      exact h9
    replace h := h.loc ho9 (fun k hk => by subst hk; exact h09)
    replace hx18 : Ext w0 w10 := hx18.trans' ho9 (fun _ h => h) (fun k hk he => by omega)
    refine WL.nil ?_
    refine W.seq ?_
    refine W.region ?_
    refine WL.c rfl (o_mvh (by first | exact (show _ = Value.slice _ _ _ from rfl) | exact rfl) ?_)
    refine WL.c rfl (o_call Try.call69 (lc rfl ln) ((rload_spec _ xs _ hD18 (by omega)).mono ?_))
    rintro v29 w29 ⟨hok9, -⟩
    obtain ⟨q, lq, Vq, rfl, hsq, hx29⟩ := hok9 s a1 hr
    replace hD18 := Sl.ext hD18 hx29
    replace hHl := Sl.ext hHl hx29
    replace hown18 := own_ext hown18 hx29
    replace h := h.ext hx29
    replace hx18 := hx18.tr hx29
    replace hB9 := hx29.blk hB9 (fun h => h)
    replace hst := hst.ext hx29
    have hlo29 := hx29.size
    have hsqh : ∀ k, SF q lq Vq s.L.length k → w10.heap.size ≤ k := fun k hk => (hsq.lt k hk).1
    refine WL.c rfl (o_mvh (by first | exact (show _ = Value.tuple _ from rfl) | exact rfl) ?_)
    refine WL.c rfl (o_ext rfl rfl ?_)
    refine WL.c rfl (o_ext rfl rfl ?_)
    refine WL.c rfl (o_ext rfl rfl ?_)
    refine WL.c rfl (o_ash (by first | exact (show _ = Value.pointer _ from rfl) | exact rfl) ?_)
    refine WL.c rfl (o_ash (show _ = Value.int _ _ from rfl) ?_)
    refine WL.c rfl (o_ash (show _ = Value.int _ _ from rfl) ?_)
    refine WL.nil ?_
    refine W.seq ?_
    refine W.region ?_
    refine WL.c rfl (o_fa 0 TI31 rfl TI29 rfl rfl ?_)
    refine WL.c rfl (o_ld TI29 rfl rfl (cell_of hB9 rfl) ?_)
    refine WL.c rfl (o_call Try.call10 (lc rfl ln) ((num_spec _ _).mono ?_))
    rintro v35 w35 ⟨rfl, hw35⟩
    replace hw35 := hw35.symm
    subst hw35
    refine WL.c rfl (o_mvh (show _ = Value.int _ _ from rfl) ?_)
    refine WL.c rfl (o_eq rfl rfl ?_)
    refine WL.c rfl (o_mvh (show _ = Value.bool _ from rfl) ?_)
    refine WL.g rfl (by simp) rfl (o_fa 1 TI31 rfl TI3 rfl rfl ?_)
    refine WL.g rfl (by simp) rfl (o_ld TI3 rfl rfl (cell_of hB9 rfl) ?_)
    refine WL.g rfl (by simp) rfl (o_mvh (show _ = Value.int _ _ from rfl) ?_)
    refine WL.g rfl (by simp) rfl (o_eq rfl rfl ?_)
    refine WL.c rfl (o_pickA rfl rfl ?_)
    refine WL.c rfl (o_mvh (show _ = Value.bool _ from rfl) ?_)
    refine WL.g rfl (by simp) rfl (o_mvh (by first | exact (show _ = Value.slice _ _ _ from rfl) | exact rfl) ?_)
    refine WL.g rfl (by simp) rfl (o_cvBS TI23 TI5 TI9 rfl hHl ?_)
    refine WL.g rfl (by simp) rfl (o_mvh (by first | exact (show _ = Value.slice _ _ _ from rfl) | exact rfl) ?_)
    refine WL.g rfl (by simp) rfl (o_cvBS TI23 TI5 TI9 rfl hD18 ?_)
    refine WL.g rfl (by simp) rfl (o_eqT rfl rfl ?_)
    refine WL.c rfl (o_pickA rfl rfl ?_)
    refine WL.c rfl (o_mvh (show _ = Value.bool _ from rfl) ?_)
    refine WL.g rfl (by simp) rfl (o_mvh (by first | exact (show _ = Value.slice _ _ _ from rfl) | exact rfl) ?_)
    refine WL.g rfl (by simp) rfl (o_mvh (by first | exact (show _ = Value.slice _ _ _ from rfl) | exact rfl) ?_)
    refine WL.g rfl (by simp) rfl (o_lenR TI23 rfl hD18 ?_)
    refine WL.g rfl (by simp) rfl (o_addi rfl rfl (by omega) ?_)
    refine WL.g rfl (by simp) rfl (o_slv (h := xs.length + 1) TI23 TI5 (show _ = Value.slice (some ⟨g, 0, none⟩) xs.length cap from rfl) Lo.n (Hi.s rfl) (Nat.zero_le _) (by omega) ?_)
    rw [sliced0]
    refine WL.g rfl (by simp) rfl (o_mvh (by first | exact (show _ = Value.slice _ _ _ from rfl) | exact rfl) ?_)
    refine WL.g rfl (by simp) rfl (o_lenR TI23 rfl hD18 ?_)
    refine WL.g rfl (by simp) rfl (o_ixB (i := xs.length) TI23 TI5 (show _ = Value.slice (some ⟨g, 0, none⟩) (xs.length + 1) cap from rfl) rfl (by omega) ?_)
    refine WL.g rfl (by simp) rfl (o_ld TI5 rfl rfl (own_at (u := bv 90) (i := xs.length) hown18 (by simp)) ?_)
    refine WL.g rfl (by simp) rfl (o_eq rfl rfl ?_)
    refine WL.c rfl (o_pickA rfl rfl ?_)
    refine WL.c rfl (o_ash (show _ = Value.bool _ from rfl) ?_)
    refine WL.nil ?_
    refine W.seq ?_
    refine W.seq ?_
    refine W.region ?_
    refine WL.c rfl (o_ash (show _ = Value.int _ _ from rfl) ?_)
    refine WL.nil ?_
    refine W.block ?_
    refine W.loop (fun e w => ∃ (k : Nat) (zs : List Value), k ≤ xs.length ∧ e 0 = .pointer (some ⟨tp, 0, none⟩) ∧ e 1 = .int .i64 (i : Int) ∧ e 7 = Value.slice (some ⟨g, 0, none⟩) xs.length cap ∧ e 8 = .pointer (some ⟨p, 0, none⟩) ∧ e 10 = .pointer (some ⟨q, 0, none⟩) ∧ e 13 = .bool true ∧ e 14 = .int .i64 (k : Int) ∧ w.ownsRow w0.heap.size 5 1 (.slice (some ⟨g, 0, none⟩) (xs.length + 1) cap) (xs.length + 1) zs ∧ (∀ j, j < xs.length → ∃ m : Nat, m < 256 ∧ zs[j]? = some (.int .u8 (m : Int))) ∧ Only (fun k => k = g) w29 w) (fun e w => xs.length - (intOf (e 14)).toNat) ?_ ?_
    · exact ⟨0, _, Nat.zero_le _, rfl, rfl, rfl, rfl, rfl, congrArg Value.bool (by simp), rfl, hown18, fun j hj => ⟨xs[j].toNat, UInt8.toNat_lt _, by rw [List.map_append, List.getElem?_append_left (by simpa using hj), List.getElem?_map, List.getElem?_eq_getElem hj]; rfl⟩, Only.refl _ _⟩
    rintro e w ⟨k, zs, hk, h0, h1, h7, h8, h10, h13, h14, hrow, hz, ho⟩
    have hm14 := h14
    have hin : Sl w 1 (Value.slice (some ⟨g, 0, none⟩) xs.length cap) xs.length _ := Sl.own (own_take hrow (show xs.length ≤ xs.length + 1 by omega))
    refine W.seq ?_
    refine W.seq ?_
    refine W.region ?_
    refine WL.c rfl (o_mvh h14 ?_)
    refine WL.c rfl (o_mvh h7 ?_)
    refine WL.c rfl (o_lenR TI23 rfl hin ?_)
    refine WL.c rfl (o_lt rfl rfl ?_)
    refine WL.nil ?_
    refine W.cond rfl (fun c66 => ?_) (fun c66 => ?_)
    · try simp only [decide_eq_true_eq, decide_eq_false_iff_not, Bool.not_eq_true', Bool.not_eq_false', Bool.and_eq_true, Bool.or_eq_true, Bool.and_eq_false_iff, Bool.or_eq_false_iff] at c66
      refine W.skip ?_
      refine W.seq ?_
      refine W.block ?_
      have hk1 : k < xs.length := by omega
      obtain ⟨m, hm, hzm⟩ := hz k hk1
      refine W.region ?_
      refine WL.c rfl (o_mvh h7 ?_)
      refine WL.c rfl (o_mvh h14 ?_)
      refine WL.c rfl (o_mvh h7 ?_)
      refine WL.c rfl (o_mvh h14 ?_)
      refine WL.c rfl (o_ixB (i := k) TI23 TI5 (show _ = Value.slice (some ⟨g, 0, none⟩) xs.length cap from rfl) rfl (by omega) ?_)
      refine WL.c rfl (o_ld TI5 rfl rfl (own_at hrow hzm) ?_)
      refine WL.c rfl (n_add (b := 1) 256 rfl (by decide) rfl rfl ?_)
      refine WL.c rfl (o_ixB (i := k) TI23 TI5 (show _ = Value.slice (some ⟨g, 0, none⟩) xs.length cap from rfl) rfl (by omega) ?_)
      refine WL.u (o_stRo TI5 rfl (show _ = Value.int .u8 _ from rfl) rfl hrow rfl (by omega) ?_)
      intro w7 hrow7 ho7 hs7
      rw [show 0 + k * 1 = k by omega] at hrow7
      have hz7 : ∀ j, j < xs.length → ∃ m' : Nat, m' < 256 ∧ (zs.set k (.int .u8 (((m + 1) % 256 : Nat) : Int)))[j]? = some (.int .u8 (m' : Int)) := fun j hj => by
        by_cases e : k = j
        · subst e; exact ⟨(m + 1) % 256, Nat.mod_lt _ (by omega), by rw [List.getElem?_set_self (by have := hrow.1; omega)]⟩
        · rw [List.getElem?_set_ne e]; exact hz j hj
      replace ho7 : Only (fun k => k = g) w29 w7 := ho.trans (ho7.mono (fun k _ hk => by simpa [Value.ownBlock, eq_comm] using hk))
      refine WL.nil ?_
      refine W.region ?_
      refine WL.c rfl (o_mvh h14 ?_)
      refine WL.c rfl (o_addi rfl rfl (by omega) ?_)
      refine WL.c rfl (o_ash (show _ = Value.int _ _ from rfl) ?_)
      refine WL.nil ?_
      refine ⟨⟨k + 1, _, by omega, h0, h1, h7, h8, h10, h13, rfl, hrow7, hz7, ho7⟩, ?_⟩
      show xs.length - ((k : Int) + 1).toNat < _
      rw [hm14]; simp only [intOf]; omega
    · try simp only [decide_eq_true_eq, decide_eq_false_iff_not, Bool.not_eq_true', Bool.not_eq_false', Bool.and_eq_true, Bool.or_eq_true, Bool.and_eq_false_iff, Bool.or_eq_false_iff] at c66
      refine W.exit ?_
      refine W.seq ?_
      replace h := h.loc ho (fun k hk => by subst hk; exact hog)
      replace hx18 : Ext w0 w := hx18.trans' ho (fun _ h => h) (fun k hk he => by omega)
      replace hst := hst.only ho (fun k hk he => by have := hsth k hk; omega)
      replace hsq := hsq.only ho (fun k hk he => by have := hsqh k hk; omega)
      refine W.region ?_
      refine WL.c rfl (o_mvh h13 ?_)
      refine WL.c rfl (o_mvh (show _ = Value.bool _ from rfl) ?_)
      refine WL.g rfl (rfl) rfl (o_mvh h0 ?_)
      refine WL.g rfl (rfl) rfl (o_mvh h1 ?_)
      refine WL.g rfl (rfl) rfl (o_mvh h8 ?_)
      refine WL.g rfl (rfl) rfl (o_mvh h10 ?_)
      refine WL.g rfl (rfl) rfl (o_call Try.call40 (lc rfl (lc rfl (lc rfl (lc rfl ln)))) ((begins_spec h hi (hst.mono (Nat.zero_le _)) (hsq.mono (Nat.zero_le _)) (fun k hk => by have := hsth k hk; exact ⟨hhi k (by omega), by omega⟩) (fun k hk => by have := hsqh k hk; exact ⟨hhi k (by omega), by omega⟩) (fun k hk hk2 => by have := hstl k hk; have := hsqh k hk2; omega) hgs (B := w0.heap.size) (fun k hk => by have := hsth k hk; omega) (fun k hk => by have := hsqh k hk; omega)).mono ?_))
      rintro v83 w83 ⟨rfl, hX, ho83⟩
      refine WL.c rfl (o_pickA rfl rfl ?_)
      refine WL.c rfl (o_ash (show _ = Value.bool _ from rfl) ?_)
      refine WL.nil ?_
      refine W.ret ?_
      refine ret1v rfl (show _ = Value.bool _ from rfl) ?_
      exact ⟨rfl, ⟨_, hX, fun j hj => by by_cases e : j = i; subst e; rw [setF_eq]; rfl; rw [setF_ne _ _ e]; exact hj⟩, hx18.trans' ho83 (fun _ h => h.elim) (fun k _ h => h)⟩
  · skip
    skip
    refine W.region ?_
    refine WL.c rfl (o_mvh (by first | exact (show _ = Value.slice _ _ _ from rfl) | exact rfl) ?_)
    refine WL.c rfl (o_call Try.call9 (lc rfl ln) ((load_spec _ xs _ hHl (by omega)).mono ?_))
    rintro v24 w24 ⟨-, hbad⟩
    obtain ⟨rfl, hx24⟩ := hbad e1 a1 hr
    replace hD18 := Sl.ext hD18 hx24
    replace hHl := Sl.ext hHl hx24
    replace hown18 := own_ext hown18 hx24
    replace h := h.ext hx24
    replace hx18 := hx18.tr hx24
    have hlo24 := hx24.size
    have h18s := hx18.size
    have h24 := h
    have hg24 : g < w24.heap.size := (hown18.lt g rfl).2
    refine WL.c rfl (o_mvh (by first | exact (show _ = Value.tuple _ from rfl) | exact rfl) ?_)
    refine WL.c rfl (o_ext rfl rfl ?_)
    refine WL.c rfl (o_ext rfl rfl ?_)
    refine WL.c rfl (o_alB TI31 ?_)
    intro w9 hC9 hx9 hs9
    replace hD18 := Sl.ext hD18 hx9
    replace hHl := Sl.ext hHl hx9
    replace hown18 := own_ext hown18 hx9
    replace h := h.ext hx9
    replace hx18 := hx18.tr hx9
    refine WL.c rfl (o_ash (by first | exact (show _ = Value.pointer _ from rfl) | exact rfl) ?_)
    refine WL.u (o_stA TI31 rfl (show _ = Value.agg #[.int .i64 (e1 : Int), .int .i64 (a1 : Int)] from rfl) rfl rfl hC9 rfl ?_)
    intro w10 hB9 ho9 hs10
    have h2410 : w24.heap.size ≤ w10.heap.size := by have := ho9.size; have := hx9.size; omega
    obtain ⟨c9, hc9⟩ : ∃ c, c = w24.heap.size := ⟨_, rfl⟩
    rw [← hc9] at hB9 ho9 hC9 ⊢
    have h09 : o c9 = 0 := h24.hi c9 (by omega)
    have hl9 : g < c9 := by rw [hc9]; exact hg24
    replace hD18 := Sl.ext hD (hx18.trans' ho9 (fun _ h => h) (fun k hk he => by omega))
    replace hown18 := own_only hown18 ho9 (fun k hk he => by have : g = k := by simpa [Value.ownBlock] using hk
                                                             omega)
    replace hHl : By w10 (Value.slice (some ⟨g, 0, none⟩) xs.length cap) xs := by
      have h9 := Sl.own (own_take hown18 (show xs.length ≤ xs.length + 1 by omega))
      rw [Nat.mul_one, List.map_append, List.take_left' (by simp)] at h9
      exact h9
    replace h := h.loc ho9 (fun k hk => by subst hk; exact h09)
    replace hx18 : Ext w0 w10 := hx18.trans' ho9 (fun _ h => h) (fun k hk he => by omega)
    refine WL.nil ?_
    refine W.seq ?_
    refine W.region ?_
    refine WL.c rfl (o_mvh (by first | exact (show _ = Value.slice _ _ _ from rfl) | exact rfl) ?_)
    refine WL.c rfl (o_call Try.call69 (lc rfl ln) ((rload_spec _ xs _ hD18 (by omega)).mono ?_))
    rintro v29 w29 ⟨-, hbad9⟩
    obtain ⟨rfl, hx29⟩ := hbad9 e1 a1 hr
    replace hD18 := Sl.ext hD18 hx29
    replace hHl := Sl.ext hHl hx29
    replace hown18 := own_ext hown18 hx29
    replace h := h.ext hx29
    replace hx18 := hx18.tr hx29
    replace hB9 := hx29.blk hB9 (fun h => h)
    have hlo29 := hx29.size
    refine WL.c rfl (o_mvh (by first | exact (show _ = Value.tuple _ from rfl) | exact rfl) ?_)
    refine WL.c rfl (o_ext rfl rfl ?_)
    refine WL.c rfl (o_ext rfl rfl ?_)
    refine WL.c rfl (o_ext rfl rfl ?_)
    refine WL.c rfl (o_ash (by first | exact (show _ = Value.pointer _ from rfl) | exact rfl) ?_)
    refine WL.c rfl (o_ash (show _ = Value.int _ _ from rfl) ?_)
    refine WL.c rfl (o_ash (show _ = Value.int _ _ from rfl) ?_)
    refine WL.nil ?_
    refine W.seq ?_
    refine W.region ?_
    refine WL.c rfl (o_fa 0 TI31 rfl TI29 rfl rfl ?_)
    refine WL.c rfl (o_ld TI29 rfl rfl (cell_of hB9 rfl) ?_)
    refine WL.c rfl (o_call Try.call10 (lc rfl ln) ((num_spec _ _).mono ?_))
    rintro v35 w35 ⟨rfl, hw35⟩
    replace hw35 := hw35.symm
    subst hw35
    refine WL.c rfl (o_mvh (show _ = Value.int _ _ from rfl) ?_)
    refine WL.c rfl (o_eq rfl rfl ?_)
    refine WL.c rfl (o_mvh (show _ = Value.bool _ from rfl) ?_)
    refine WL.g rfl (by simp) rfl (o_fa 1 TI31 rfl TI3 rfl rfl ?_)
    refine WL.g rfl (by simp) rfl (o_ld TI3 rfl rfl (cell_of hB9 rfl) ?_)
    refine WL.g rfl (by simp) rfl (o_mvh (show _ = Value.int _ _ from rfl) ?_)
    refine WL.g rfl (by simp) rfl (o_eq rfl rfl ?_)
    refine WL.c rfl (o_pickA rfl rfl ?_)
    refine WL.c rfl (o_mvh (show _ = Value.bool _ from rfl) ?_)
    refine WL.g rfl (by simp) rfl (o_mvh (by first | exact (show _ = Value.slice _ _ _ from rfl) | exact rfl) ?_)
    refine WL.g rfl (by simp) rfl (o_cvBS TI23 TI5 TI9 rfl hHl ?_)
    refine WL.g rfl (by simp) rfl (o_mvh (by first | exact (show _ = Value.slice _ _ _ from rfl) | exact rfl) ?_)
    refine WL.g rfl (by simp) rfl (o_cvBS TI23 TI5 TI9 rfl hD18 ?_)
    refine WL.g rfl (by simp) rfl (o_eqT rfl rfl ?_)
    refine WL.c rfl (o_pickA rfl rfl ?_)
    refine WL.c rfl (o_mvh (show _ = Value.bool _ from rfl) ?_)
    refine WL.g rfl (by simp) rfl (o_mvh (by first | exact (show _ = Value.slice _ _ _ from rfl) | exact rfl) ?_)
    refine WL.g rfl (by simp) rfl (o_mvh (by first | exact (show _ = Value.slice _ _ _ from rfl) | exact rfl) ?_)
    refine WL.g rfl (by simp) rfl (o_lenR TI23 rfl hD18 ?_)
    refine WL.g rfl (by simp) rfl (o_addi rfl rfl (by omega) ?_)
    refine WL.g rfl (by simp) rfl (o_slv (h := xs.length + 1) TI23 TI5 (show _ = Value.slice (some ⟨g, 0, none⟩) xs.length cap from rfl) Lo.n (Hi.s rfl) (Nat.zero_le _) (by omega) ?_)
    rw [sliced0]
    refine WL.g rfl (by simp) rfl (o_mvh (by first | exact (show _ = Value.slice _ _ _ from rfl) | exact rfl) ?_)
    refine WL.g rfl (by simp) rfl (o_lenR TI23 rfl hD18 ?_)
    refine WL.g rfl (by simp) rfl (o_ixB (i := xs.length) TI23 TI5 (show _ = Value.slice (some ⟨g, 0, none⟩) (xs.length + 1) cap from rfl) rfl (by omega) ?_)
    refine WL.g rfl (by simp) rfl (o_ld TI5 rfl rfl (own_at (u := bv 90) (i := xs.length) hown18 (by simp)) ?_)
    refine WL.g rfl (by simp) rfl (o_eq rfl rfl ?_)
    refine WL.c rfl (o_pickA rfl rfl ?_)
    refine WL.c rfl (o_ash (show _ = Value.bool _ from rfl) ?_)
    refine WL.nil ?_
    refine W.seq ?_
    refine W.seq ?_
    refine W.region ?_
    refine WL.c rfl (o_ash (show _ = Value.int _ _ from rfl) ?_)
    refine WL.nil ?_
    refine W.block ?_
    refine W.loop (fun e w => ∃ (k : Nat) (zs : List Value), k ≤ xs.length ∧ e 0 = .pointer (some ⟨tp, 0, none⟩) ∧ e 1 = .int .i64 (i : Int) ∧ e 7 = Value.slice (some ⟨g, 0, none⟩) xs.length cap ∧ e 8 = .pointer none ∧ e 10 = .pointer none ∧ e 13 = .bool true ∧ e 14 = .int .i64 (k : Int) ∧ w.ownsRow w0.heap.size 5 1 (.slice (some ⟨g, 0, none⟩) (xs.length + 1) cap) (xs.length + 1) zs ∧ (∀ j, j < xs.length → ∃ m : Nat, m < 256 ∧ zs[j]? = some (.int .u8 (m : Int))) ∧ Only (fun k => k = g) w29 w) (fun e w => xs.length - (intOf (e 14)).toNat) ?_ ?_
    · exact ⟨0, _, Nat.zero_le _, rfl, rfl, rfl, rfl, rfl, congrArg Value.bool (by simp), rfl, hown18, fun j hj => ⟨xs[j].toNat, UInt8.toNat_lt _, by rw [List.map_append, List.getElem?_append_left (by simpa using hj), List.getElem?_map, List.getElem?_eq_getElem hj]; rfl⟩, Only.refl _ _⟩
    rintro e w ⟨k, zs, hk, h0, h1, h7, h8, h10, h13, h14, hrow, hz, ho⟩
    have hm14 := h14
    have hin : Sl w 1 (Value.slice (some ⟨g, 0, none⟩) xs.length cap) xs.length _ := Sl.own (own_take hrow (show xs.length ≤ xs.length + 1 by omega))
    refine W.seq ?_
    refine W.seq ?_
    refine W.region ?_
    refine WL.c rfl (o_mvh h14 ?_)
    refine WL.c rfl (o_mvh h7 ?_)
    refine WL.c rfl (o_lenR TI23 rfl hin ?_)
    refine WL.c rfl (o_lt rfl rfl ?_)
    refine WL.nil ?_
    refine W.cond rfl (fun c66 => ?_) (fun c66 => ?_)
    · try simp only [decide_eq_true_eq, decide_eq_false_iff_not, Bool.not_eq_true', Bool.not_eq_false', Bool.and_eq_true, Bool.or_eq_true, Bool.and_eq_false_iff, Bool.or_eq_false_iff] at c66
      refine W.skip ?_
      refine W.seq ?_
      refine W.block ?_
      have hk1 : k < xs.length := by omega
      obtain ⟨m, hm, hzm⟩ := hz k hk1
      refine W.region ?_
      refine WL.c rfl (o_mvh h7 ?_)
      refine WL.c rfl (o_mvh h14 ?_)
      refine WL.c rfl (o_mvh h7 ?_)
      refine WL.c rfl (o_mvh h14 ?_)
      refine WL.c rfl (o_ixB (i := k) TI23 TI5 (show _ = Value.slice (some ⟨g, 0, none⟩) xs.length cap from rfl) rfl (by omega) ?_)
      refine WL.c rfl (o_ld TI5 rfl rfl (own_at hrow hzm) ?_)
      refine WL.c rfl (n_add (b := 1) 256 rfl (by decide) rfl rfl ?_)
      refine WL.c rfl (o_ixB (i := k) TI23 TI5 (show _ = Value.slice (some ⟨g, 0, none⟩) xs.length cap from rfl) rfl (by omega) ?_)
      refine WL.u (o_stRo TI5 rfl (show _ = Value.int .u8 _ from rfl) rfl hrow rfl (by omega) ?_)
      intro w7 hrow7 ho7 hs7
      rw [show 0 + k * 1 = k by omega] at hrow7
      have hz7 : ∀ j, j < xs.length → ∃ m' : Nat, m' < 256 ∧ (zs.set k (.int .u8 (((m + 1) % 256 : Nat) : Int)))[j]? = some (.int .u8 (m' : Int)) := fun j hj => by
        by_cases e : k = j
        · subst e; exact ⟨(m + 1) % 256, Nat.mod_lt _ (by omega), by rw [List.getElem?_set_self (by have := hrow.1; omega)]⟩
        · rw [List.getElem?_set_ne e]; exact hz j hj
      replace ho7 : Only (fun k => k = g) w29 w7 := ho.trans (ho7.mono (fun k _ hk => by simpa [Value.ownBlock, eq_comm] using hk))
      refine WL.nil ?_
      refine W.region ?_
      refine WL.c rfl (o_mvh h14 ?_)
      refine WL.c rfl (o_addi rfl rfl (by omega) ?_)
      refine WL.c rfl (o_ash (show _ = Value.int _ _ from rfl) ?_)
      refine WL.nil ?_
      refine ⟨⟨k + 1, _, by omega, h0, h1, h7, h8, h10, h13, rfl, hrow7, hz7, ho7⟩, ?_⟩
      show xs.length - ((k : Int) + 1).toNat < _
      rw [hm14]; simp only [intOf]; omega
    · try simp only [decide_eq_true_eq, decide_eq_false_iff_not, Bool.not_eq_true', Bool.not_eq_false', Bool.and_eq_true, Bool.or_eq_true, Bool.and_eq_false_iff, Bool.or_eq_false_iff] at c66
      refine W.exit ?_
      refine W.seq ?_
      replace h := h.loc ho (fun k hk => by subst hk; exact hog)
      replace hx18 : Ext w0 w := hx18.trans' ho (fun _ h => h) (fun k hk he => by omega)
      refine W.region ?_
      refine WL.c rfl (o_mvh h13 ?_)
      refine WL.c rfl (o_mvh (show _ = Value.bool _ from rfl) ?_)
      refine WL.g rfl (rfl) rfl (o_mvh h0 ?_)
      refine WL.g rfl (rfl) rfl (o_mvh h1 ?_)
      refine WL.g rfl (rfl) rfl (o_mvh h8 ?_)
      refine WL.g rfl (rfl) rfl (o_mvh h10 ?_)
      refine WL.g rfl (rfl) rfl (o_call Try.call40 (lc rfl (lc rfl (lc rfl (lc rfl ln)))) ((beginsN_spec tp (i : Int) _).mono ?_))
      rintro v83 w83 ⟨rfl, rfl⟩
      refine WL.c rfl (o_pickA rfl rfl ?_)
      refine WL.c rfl (o_ash (show _ = Value.bool _ from rfl) ?_)
      refine WL.nil ?_
      refine W.ret ?_
      refine ret1v rfl (show _ = Value.bool _ from rfl) ?_
      exact ⟨rfl, ⟨S, ⟨o, P, Q, a, b, c, d, VA, VB, VC, VD, h, fun _ _ => rfl⟩, fun j hj => hj⟩, hx18.mono (fun _ _ h => h.elim)⟩

theorem ob {g n c k : Nat} (h : (Value.slice (some ⟨g, 0, none⟩) n c).ownBlock = some k) : g = k := by simpa [Value.ownBlock] using h
theorem Tb.cellP {w : World} {H tp i : Nat} {o : Nat → Nat} {S R : Nat → Option SSt} {P Q : Nat → Value} {a b c d : Value} {nl nb : Nat} {VA VB VC VD : Nat → Value} (h : Tb w H tp o S R P Q a b c d nl nb VA VB VC VD) (hi : i < 2) : w.cell? ⟨tp, 0 + i * 1, none⟩ = some (P i) := by
  obtain rfl | rfl : i = 0 ∨ i = 1 := by omega
  · exact cell_of h.cell rfl
  · exact cell_of h.cell rfl
theorem Tb.cellR {w : World} {H tp i : Nat} {o : Nat → Nat} {S R : Nat → Option SSt} {P Q : Nat → Value} {a b c d : Value} {nl nb : Nat} {VA VB VC VD : Nat → Value} (h : Tb w H tp o S R P Q a b c d nl nb VA VB VC VD) (hi : i < 2) : w.cell? ⟨tp, 2 + i * 1, none⟩ = some (Q i) := by
  obtain rfl | rfl : i = 0 ∨ i = 1 := by omega
  · exact cell_of h.cell rfl
  · exact cell_of h.cell rfl
theorem Tb.getP {w : World} {H tp i : Nat} {o : Nat → Nat} {S R : Nat → Option SSt} {P Q : Nat → Value} {a b c d : Value} {nl nb : Nat} {VA VB VC VD : Nat → Value} {s : SSt} (h : Tb w H tp o S R P Q a b c d nl nb VA VB VC VD) (hi : i < 2) (hs : S i = some s) : ∃ p lv V, P i = .pointer (some ⟨p, 0, none⟩) ∧ Stk w 0 p s.most s.high s.L lv V ∧ ∀ k, SF p lv V s.L.length k → o k = 1 + i := by
  rcases h.ps i hi with ⟨h1, -⟩ | ⟨t, p, lv, V, h1, h2, h3, h4⟩
  · rw [hs] at h1; cases h1
  · rw [hs] at h1; cases h1; exact ⟨p, lv, V, h2, h3, h4⟩
theorem Tb.getR {w : World} {H tp i : Nat} {o : Nat → Nat} {S R : Nat → Option SSt} {P Q : Nat → Value} {a b c d : Value} {nl nb : Nat} {VA VB VC VD : Nat → Value} {s : SSt} (h : Tb w H tp o S R P Q a b c d nl nb VA VB VC VD) (hi : i < 2) (hs : R i = some s) : ∃ p lv V, Q i = .pointer (some ⟨p, 0, none⟩) ∧ RStk w 0 p s.most s.high s.L lv V ∧ ∀ k, SF p lv V s.L.length k → o k = 3 + i := by
  rcases h.rs i hi with ⟨h1, -⟩ | ⟨t, p, lv, V, h1, h2, h3, h4⟩
  · rw [hs] at h1; cases h1
  · rw [hs] at h1; cases h1; exact ⟨p, lv, V, h2, h3, h4⟩
def labV (o : Nat → Nat) (v : Value) (id : Nat) : Nat → Nat := fun k => if v.ownBlock = some k then id else o k
theorem labV_eq {o : Nat → Nat} {v : Value} {id k : Nat} (h : v.ownBlock = some k) : labV o v id k = id := if_pos h
theorem labV_ne {o : Nat → Nat} {v : Value} {id k : Nat} (h : ¬ v.ownBlock = some k) : labV o v id k = o k := if_neg h
theorem Tb.labV {w : World} {H tp id : Nat} {o : Nat → Nat} {S R : Nat → Option SSt} {P Q : Nat → Value} {a b c d v : Value} {nl nb : Nat} {VA VB VC VD : Nat → Value} (h : Tb w H tp o S R P Q a b c d nl nb VA VB VC VD) (hv : ∀ k, v.ownBlock = some k → H ≤ k ∧ k < w.heap.size ∧ o k = 0) : Tb w H tp (labV o v id) S R P Q a b c d nl nb VA VB VC VD :=
  h.step (Only.refl No w) (fun k hk h0 _ => ⟨fun h => h, labV_ne (fun h1 => h0 (hv k h1).2.2)⟩) (fun k hk => by rw [labV_ne (fun h1 => by have := (hv k h1).1; omega)]; exact h.lo k hk) (fun k hk => by rw [labV_ne (fun h1 => by have := (hv k h1).2.1; omega)]; exact h.hi k hk)
theorem saved_len {w : World} {H p : Nat} {s : SSt} {lv : Value} {V : Nat → Value} (h : Stk w H p s.most s.high s.L lv V) (hg : Good s) : (saved s.most s.high s.L).length ≤ 12000000000000 := by
  have h1 := frames_len hg.whole
  have h2 := hg.high
  have h2' := hg.most
  have h3 := h.len
  have h4 := vIs_len (l := [(s.most : Int), (s.L.length : Int), (s.high : Int)]) (by
    intro n hn
    have := hg.most
    simp only [List.mem_cons, List.not_mem_nil, or_false] at hn
    unfold numOk
    rcases hn with rfl | rfl | rfl <;> omega)
  have h5 : s.L.length * 10485830 ≤ 1048576 * 10485830 := Nat.mul_le_mul_right _ (by omega)
  simp only [saved, List.length_cons, List.length_append, List.length_nil] at *
  omega
theorem Lst.clipB {w : World} {B g cap : Nat} {xs : List UInt8} (h : w.ownsRow B 5 1 (.slice (some ⟨g, 0, none⟩) xs.length cap) xs.length (xs.map bv)) : Lst w 5 (.slice (some ⟨g, 0, none⟩) xs.length xs.length) (xs.map bv) :=
  ⟨some ⟨g, 0, none⟩, xs.length, cap, by simp, by simpa using own_mono h (Nat.zero_le _), .inr (by simp)⟩
theorem Lst.by {w : World} {v : Value} {xs : List UInt8} (h : Lst w 5 v (xs.map bv)) : By w v xs := by have := h.sl; rwa [List.length_map] at this
theorem Lst.ext {w w' : World} {el : TypeId} {v : Value} {xs : List Value} (h : Lst w el v xs) (hx : Ext w w') : Lst w' el v xs := h.only hx (fun _ _ h => h)

set_option maxHeartbeats 1000000 in
theorem saves_spec (H tp : Nat) (o : Nat → Nat) (S : Nat → Option SSt) (P Q : Nat → Value) (a b c d : Value) (nl nb : Nat) (VA VB VC VD : Nat → Value) (w0 : World) (h : Tb w0 H tp o S S P Q a b c d nl nb VA VB VC VD) (i : Nat) (hi : i < 2) (s : SSt) (hs : S i = some s) (again : Bool) (hnb : nb + 2 ≤ 1000000000000) : Ca Try.prog 45 #[.pointer (some ⟨tp, 0, none⟩), .int .i64 (i : Int), .bool again] w0 (fun v w' => v = .bool true ∧ (∃ S', TbX w' H tp S' nl (nb + 2) ∧ ∀ j, (S j).isSome = true → (S' j).isSome = true) ∧ Only (fun k => H ≤ k) w0 w') := by
  obtain ⟨p, lv, V, hPi, hp, hpi⟩ := h.getP hi hs
  obtain ⟨q, lq, Vq, hQi, hq, hqi⟩ := h.getR hi hs
  have hgs := h.gs i hi s hs
  have hx : Ext w0 w0 := Only.refl _ _
  have hle := h.le
  have hhi := h.hi
  obtain ⟨sv, hsv⟩ : ∃ sv, sv = saved s.most s.high s.L := ⟨_, rfl⟩
  have hsvl : sv.length ≤ 12000000000000 := by rw [hsv]; exact saved_len hp hgs
  refine Ca.of Try.func45 Try.ntmps45 rfl rfl ?_
  refine W.seq ?_
  refine W.region ?_
  refine WL.c rfl (o_ash (show _ = Value.bool _ from rfl) ?_)
  refine WL.nil ?_
  refine W.seq ?_
  refine W.region ?_
  refine WL.c rfl (o_mvh (by first | exact (show _ = Value.pointer _ from rfl) | exact rfl) ?_)
  refine WL.c rfl (o_mvh (show _ = Value.int _ _ from rfl) ?_)
  refine WL.c rfl (o_nil rfl ?_)
  refine WL.c rfl (o_fa 0 TI55 rfl TI47 rfl rfl ?_)
  refine WL.c rfl (o_ixA TI47 TI25 rfl rfl (by omega) ?_)
  refine WL.c rfl (o_ld TI25 rfl rfl ((h.cellP hi).trans (congrArg some hPi)) ?_)
  refine WL.c rfl (o_call Try.call8 (lc rfl ln) ((save_spec 0 p s.most s.high s.L lv V _ hp hgs.whole hgs.high).mono ?_))
  rintro v17 w17 ⟨g1, cap1, rfl, hown1, hx1⟩
  rw [← hsv] at hown1 ⊢
  have hA := Lst.clipB hown1
  have hg1 : w0.heap.size ≤ g1 := (hown1.lt g1 rfl).1
  replace h := h.ext hx1
  replace hp := hp.ext hx1
  replace hq := hq.ext hx1
  replace hx := hx.tr hx1
  refine WL.c rfl (o_ash (by first | exact (show _ = Value.slice _ _ _ from rfl) | exact rfl) ?_)
  refine WL.nil ?_
  refine W.seq ?_
  refine W.region ?_
  refine WL.c rfl (o_mvh (by first | exact (show _ = Value.pointer _ from rfl) | exact rfl) ?_)
  refine WL.c rfl (o_mvh (show _ = Value.int _ _ from rfl) ?_)
  refine WL.c rfl (o_nil rfl ?_)
  refine WL.c rfl (o_fa 0 TI55 rfl TI47 rfl rfl ?_)
  refine WL.c rfl (o_ixA TI47 TI25 rfl rfl (by omega) ?_)
  refine WL.c rfl (o_ld TI25 rfl rfl ((h.cellP hi).trans (congrArg some hPi)) ?_)
  refine WL.c rfl (o_call Try.call8 (lc rfl ln) ((save_spec 0 p s.most s.high s.L lv V _ hp hgs.whole hgs.high).mono ?_))
  rintro v24 w24 ⟨g2, cap2, rfl, hown2, hx2⟩
  rw [← hsv] at hown2 ⊢
  have hB := Lst.clipB hown2
  have hg12 : g1 < g2 := by have h1 := (hown2.lt g2 rfl).1; have h2 := (hown1.lt g1 rfl).2; omega
  replace hA := hA.ext hx2
  replace h := h.ext hx2
  replace hp := hp.ext hx2
  replace hq := hq.ext hx2
  replace hx := hx.tr hx2
  refine WL.c rfl (o_ash (by first | exact (show _ = Value.slice _ _ _ from rfl) | exact rfl) ?_)
  refine WL.nil ?_
  refine W.seq ?_
  refine W.region ?_
  refine WL.c rfl (o_mvh (by first | exact (show _ = Value.pointer _ from rfl) | exact rfl) ?_)
  refine WL.c rfl (o_mvh (show _ = Value.int _ _ from rfl) ?_)
  refine WL.c rfl (o_nil rfl ?_)
  refine WL.c rfl (o_fa 2 TI55 rfl TI49 rfl rfl ?_)
  refine WL.c rfl (o_ixA TI49 TI48 rfl rfl (by omega) ?_)
  refine WL.c rfl (o_ld TI48 rfl rfl ((h.cellR hi).trans (congrArg some hQi)) ?_)
  refine WL.c rfl (o_call Try.call67 (lc rfl ln) ((rsave_spec 0 q s.most s.high s.L lq Vq _ hq hgs.whole hgs.high sv hsv).mono ?_))
  rintro v31 w31 ⟨hown3, hx3⟩
  replace hA := hA.ext hx3
  replace hB := hB.ext hx3
  have hC := (Lst.own hown3).by
  replace h := h.ext hx3
  replace hp := hp.ext hx3
  replace hq := hq.ext hx3
  replace hx := hx.tr hx3
  refine WL.c rfl (o_ash (by first | exact (show _ = Value.slice _ _ _ from rfl) | exact rfl) ?_)
  refine WL.nil ?_
  refine W.seq ?_
  refine W.region ?_
  refine WL.c rfl (o_mvh (by first | exact (show _ = Value.slice _ _ _ from rfl) | exact rfl) ?_)
  refine WL.c rfl (o_cvBS TI23 TI5 TI9 rfl hA.by ?_)
  refine WL.c rfl (o_mvh (by first | exact (show _ = Value.slice _ _ _ from rfl) | exact rfl) ?_)
  refine WL.c rfl (o_cvBS TI23 TI5 TI9 rfl hC ?_)
  refine WL.c rfl (o_eqT rfl rfl ?_)
  refine WL.c rfl (o_mvh (show _ = Value.bool _ from rfl) ?_)
  refine WL.g rfl (by simp) rfl (o_mvh (by first | exact (show _ = Value.slice _ _ _ from rfl) | exact rfl) ?_)
  refine WL.g rfl (by simp) rfl (o_cvBS TI23 TI5 TI9 rfl hB.by ?_)
  refine WL.g rfl (by simp) rfl (o_mvh (by first | exact (show _ = Value.slice _ _ _ from rfl) | exact rfl) ?_)
  refine WL.g rfl (by simp) rfl (o_cvBS TI23 TI5 TI9 rfl hC ?_)
  refine WL.g rfl (by simp) rfl (o_eqT rfl rfl ?_)
  refine WL.c rfl (o_pickA rfl rfl ?_)
  refine WL.c rfl (o_ash (show _ = Value.bool _ from rfl) ?_)
  refine WL.nil ?_
  refine W.seq ?_
  refine W.seq ?_
  refine W.region ?_
  refine WL.c rfl (o_mvh (show _ = Value.bool _ from rfl) ?_)
  refine WL.c rfl (o_mvh (show _ = Value.bool _ from rfl) ?_)
  refine WL.g rfl (by simp) rfl (o_mvh (show _ = Value.bool _ from rfl) ?_)
  refine WL.c rfl (o_pickA rfl rfl ?_)
  refine WL.nil ?_
  refine W.cut (fun e1 w1 => (∃ S', TbO w1 H tp S' nl nb o w31.heap.size ∧ ∀ j, (S j).isSome = true → (S' j).isSome = true) ∧ Only (fun k => k = tp) w31 w1 ∧ e1 0 = .pointer (some ⟨tp, 0, none⟩) ∧ e1 7 = Value.slice (some ⟨g1, 0, none⟩) sv.length sv.length ∧ e1 8 = Value.slice (some ⟨g2, 0, none⟩) sv.length sv.length ∧ e1 10 = .bool true) ?_ ?_
  · -- both ways
    refine W.cond rfl (fun c47 => ?_) (fun c47 => ?_)
    · try simp only [decide_eq_true_eq, decide_eq_false_iff_not, Bool.not_eq_true', Bool.not_eq_false', Bool.and_eq_true, Bool.or_eq_true, Bool.and_eq_false_iff, Bool.or_eq_false_iff] at c47
      refine W.region ?_
      refine WL.c rfl (o_mvh (by first | exact (show _ = Value.pointer _ from rfl) | exact rfl) ?_)
      refine WL.c rfl (o_mvh (show _ = Value.int _ _ from rfl) ?_)
      refine WL.c rfl (o_mvh (by first | exact (show _ = Value.slice _ _ _ from rfl) | exact rfl) ?_)
      refine WL.c rfl (o_call Try.call46 (lc rfl (lc rfl (lc rfl ln))) ((loads_spec H tp o S P Q a b c d nl nb VA VB VC VD _ h i hi _ sv hC (by omega)).mono ?_))
      rintro v51 w51 ⟨rfl, hL51, ho51⟩
      refine WL.c rfl (o_ash (show _ = Value.bool _ from rfl) ?_)
      refine WL.nil ?_
      first | exact ⟨hL51, ho51, rfl, rfl, rfl, rfl⟩ | exact ⟨⟨S, ⟨o, P, Q, a, b, c, d, VA, VB, VC, VD, h, fun _ _ => rfl⟩, fun _ hj => hj⟩, Only.refl _ _, rfl, rfl, rfl, congrArg Value.bool (by simp)⟩
    · try simp only [decide_eq_true_eq, decide_eq_false_iff_not, Bool.not_eq_true', Bool.not_eq_false', Bool.and_eq_true, Bool.or_eq_true, Bool.and_eq_false_iff, Bool.or_eq_false_iff] at c47
      refine W.skip ?_
      first | exact ⟨hL51, ho51, rfl, rfl, rfl, rfl⟩ | exact ⟨⟨S, ⟨o, P, Q, a, b, c, d, VA, VB, VC, VD, h, fun _ _ => rfl⟩, fun _ hj => hj⟩, Only.refl _ _, rfl, rfl, rfl, congrArg Value.bool (by simp)⟩
  rintro e w ⟨⟨S', ⟨o', P', Q', a', b', c', d', VA', VB', VC', VD', h', hk'⟩, hS'⟩, ho', h0, h7, h8, h10⟩
  have hs31 := hx.size
  have hg1l : g1 < w31.heap.size := hA.lt g1 rfl
  have hg2l : g2 < w31.heap.size := hB.lt g2 rfl
  have hs1 := ho'.size
  have hgt1 : ¬ g1 = tp := fun he => by have := h.otp; have := hhi g1 hg1; subst he; omega
  have hgt2 : ¬ g2 = tp := fun he => by have := h.otp; have := hhi g2 (by omega); subst he; omega
  replace hA := hA.only ho' (fun k hk => by obtain rfl := ob hk; exact hgt1)
  replace hB := hB.only ho' (fun k hk => by obtain rfl := ob hk; exact hgt2)
  have l1 := h'.labV (id := 11) (v := Value.slice (some ⟨g1, 0, none⟩) sv.length sv.length) (fun k hk => by obtain rfl := ob hk; exact ⟨by omega, by omega, by rw [hk' g1 hg1l]; exact hhi g1 hg1⟩)
  have n21 : ¬ (Value.slice (some ⟨g1, 0, none⟩) sv.length sv.length).ownBlock = some g2 := fun hk => by obtain rfl := ob hk; omega
  have l2 := l1.labV (id := 12) (v := Value.slice (some ⟨g2, 0, none⟩) sv.length sv.length) (fun k hk => by obtain rfl := ob hk; exact ⟨by omega, by omega, by rw [labV_ne n21, hk' g2 hg2l]; exact hhi g2 (by omega)⟩)
  have n12 : ¬ (Value.slice (some ⟨g2, 0, none⟩) sv.length sv.length).ownBlock = some g1 := fun hk => by obtain rfl := ob hk; omega
  generalize ho2 : labV (labV o' (Value.slice (some ⟨g1, 0, none⟩) sv.length sv.length) 11) (Value.slice (some ⟨g2, 0, none⟩) sv.length sv.length) 12 = o2 at *
  have o21 : o2 g1 = 11 := by rw [← ho2, labV_ne n12, labV_eq rfl]
  have o22 : o2 g2 = 12 := by rw [← ho2, labV_eq rfl]
  have l2lo := l2.lo
  refine W.seq ?_
  refine W.region ?_
  refine WL.c rfl (o_mvh h0 ?_)
  refine WL.c rfl (o_nil rfl ?_)
  refine WL.c rfl (o_fa 4 TI55 rfl TI53 rfl rfl ?_)
  refine WL.c rfl (o_mvh h7 ?_)
  refine WL.c rfl (o_call Try.call68 (lc rfl (lc rfl ln)) ((bbytes_spec H tp o2 S' S' P' Q' a' b' c' d' nl nb VA' VB' VC' VD' _ l2 _ (sv.map bv) 11 (by omega) hA (fun k hk => by obtain rfl := ob hk; exact o21) (by simpa using hsvl) (by omega)).mono ?_))
  rintro v56 w56 ⟨⟨o3, c3, d3, VC3, VD3, l3, hk3⟩, ho56⟩
  replace hB := hB.only ho56 (fun k hk => by obtain rfl := ob hk; rw [o22]; omega)
  have o32 : o3 g2 = 12 := by rw [hk3 g2 (by omega) (by omega)]; exact o22
  have l3lo := l3.lo
  refine WL.nil ?_
  refine W.seq ?_
  refine W.region ?_
  refine WL.c rfl (o_mvh h0 ?_)
  refine WL.c rfl (o_nil rfl ?_)
  refine WL.c rfl (o_fa 4 TI55 rfl TI53 rfl rfl ?_)
  refine WL.c rfl (o_mvh h8 ?_)
  refine WL.c rfl (o_call Try.call68 (lc rfl (lc rfl ln)) ((bbytes_spec H tp o3 S' S' P' Q' a' b' c3 d3 nl (nb + 1) VA' VB' VC3 VD3 _ l3 _ (sv.map bv) 12 (by omega) hB (fun k hk => by obtain rfl := ob hk; exact o32) (by simpa using hsvl) (by omega)).mono ?_))
  rintro v61 w61 ⟨⟨o4, c4, d4, VC4, VD4, l4, hk4⟩, ho61⟩
  refine WL.nil ?_
  refine W.seq ?_
  refine W.region ?_
  refine WL.c rfl (o_mvh h10 ?_)
  refine WL.c rfl (o_ash (show _ = Value.bool _ from rfl) ?_)
  refine WL.nil ?_
  refine W.ret ?_
  refine ret1v rfl (show _ = Value.bool _ from rfl) ?_
  refine ⟨rfl, ⟨S', ⟨o4, P', Q', a', b', c4, d4, VA', VB', VC4, VD4, l4⟩, hS'⟩, ?_⟩
  have htp : H ≤ tp := Nat.le_of_not_lt (fun h1 => by have := h.otp; have := h.lo tp h1; omega)
  refine (hx.trans' ho' (fun _ h => h.elim) (fun k _ hk => by subst hk; exact htp)).trans ((ho56.mono (fun k _ hk => Nat.le_of_not_lt (fun h1 => by have := l2lo k h1; omega))).trans (ho61.mono (fun k _ hk => Nat.le_of_not_lt (fun h1 => by have := l3lo k h1; omega))))

theorem topF_tab {w : World} {H p most high : Nat} {L : List Fr} {lv : Value} {V : Nat → Value} (h : Stk w H p most high L lv V) : (topF L).tab.length ≤ 1048576 := by
  rcases Nat.eq_zero_or_pos L.length with h0 | h0
  · rw [topF_nil h0]; exact Nat.zero_le _
  · exact h.tl _ (by omega)
theorem htp_of {w : World} {H tp : Nat} {o : Nat → Nat} {S R : Nat → Option SSt} {P Q : Nat → Value} {a b c d : Value} {nl nb : Nat} {VA VB VC VD : Nat → Value} (h : Tb w H tp o S R P Q a b c d nl nb VA VB VC VD) : H ≤ tp := Nat.le_of_not_lt (fun h1 => by have := h.otp; have := h.lo tp h1; omega)
theorem foot_of {w : World} {H tp id : Nat} {o : Nat → Nat} {S R : Nat → Option SSt} {P Q : Nat → Value} {a b c d : Value} {nl nb : Nat} {VA VB VC VD : Nat → Value} (h : Tb w H tp o S R P Q a b c d nl nb VA VB VC VD) (hid : 11 ≤ id) : ∀ k, (5 ≤ o k ∧ o k ≤ 9) ∨ o k = id → H ≤ k := fun k hk => Nat.le_of_not_lt (fun h1 => by have := h.lo k h1; omega)
theorem lst_ints {w : World} {B : Nat} {v : Value} {l : List Int} (h : w.ownsRow B 3 1 v l.length (ints l)) : Lst w 3 v (ints l) := Lst.own h

set_option maxHeartbeats 2000000 in
theorem tells_spec (H tp : Nat) (o : Nat → Nat) (S : Nat → Option SSt) (P Q : Nat → Value) (a b c d : Value) (nl nb : Nat) (VA VB VC VD : Nat → Value) (w0 : World) (h : Tb w0 H tp o S S P Q a b c d nl nb VA VB VC VD) (i : Nat) (hi : i < 2) (s : SSt) (hs : S i = some s) (hnl : nl + 3 ≤ 1000000000000) : Ca Try.prog 44 #[.pointer (some ⟨tp, 0, none⟩), .int .i64 (i : Int)] w0 (fun v w' => v = .bool true ∧ TbX w' H tp S (nl + 3) nb ∧ Only (fun k => H ≤ k) w0 w') := by
  obtain ⟨p, lv, V, hPi, hp, hpi⟩ := h.getP hi hs
  obtain ⟨q, lq, Vq, hQi, hq, hqi⟩ := h.getR hi hs
  have hgs := h.gs i hi s hs
  have htab := topF_tab hp
  have hx : Ext w0 w0 := Only.refl _ _
  have hle := h.le
  have hhi := h.hi
  refine Ca.of Try.func44 Try.ntmps44 rfl rfl ?_
  refine W.seq ?_
  refine W.region ?_
  refine WL.c rfl (o_ash (show _ = Value.bool _ from rfl) ?_)
  refine WL.nil ?_
  refine W.seq ?_
  refine W.region ?_
  refine WL.c rfl (o_mvh (by first | exact (show _ = Value.pointer _ from rfl) | exact rfl) ?_)
  refine WL.c rfl (o_mvh (show _ = Value.int _ _ from rfl) ?_)
  refine WL.c rfl (o_nil rfl ?_)
  refine WL.c rfl (o_fa 0 TI55 rfl TI47 rfl rfl ?_)
  refine WL.c rfl (o_ixA TI47 TI25 rfl rfl (by omega) ?_)
  refine WL.c rfl (o_ld TI25 rfl rfl ((h.cellP hi).trans (congrArg some hPi)) ?_)
  refine WL.c rfl (o_ash (by first | exact (show _ = Value.pointer _ from rfl) | exact rfl) ?_)
  refine WL.nil ?_
  refine W.seq ?_
  refine W.region ?_
  refine WL.c rfl (o_mvh (by first | exact (show _ = Value.pointer _ from rfl) | exact rfl) ?_)
  refine WL.c rfl (o_mvh (show _ = Value.int _ _ from rfl) ?_)
  refine WL.c rfl (o_nil rfl ?_)
  refine WL.c rfl (o_fa 2 TI55 rfl TI49 rfl rfl ?_)
  refine WL.c rfl (o_ixA TI49 TI48 rfl rfl (by omega) ?_)
  refine WL.c rfl (o_ld TI48 rfl rfl ((h.cellR hi).trans (congrArg some hQi)) ?_)
  refine WL.c rfl (o_ash (by first | exact (show _ = Value.pointer _ from rfl) | exact rfl) ?_)
  refine WL.nil ?_
  refine W.seq ?_
  refine W.region ?_
  refine WL.c rfl (o_mvh (by first | exact (show _ = Value.pointer _ from rfl) | exact rfl) ?_)
  have h0s := hx.size
  refine WL.c rfl (o_call Try.call19 (lc rfl ln) ((top_spec 0 p s.most s.high s.L lv V _ hp).mono ?_))
  rintro v32 w32 ⟨u1, rfl, hou1, hx32⟩
  replace hx := hx.tr hx32
  replace h := h.ext hx32
  replace hp := hp.ext hx32
  replace hq := hq.ext hx32
  have hbu1 : ∀ k, u1.ownBlock = some k → w0.heap.size ≤ k := fun k hk => by have := (hou1.lt k hk).1; have := h0s; omega
  refine WL.c rfl (o_mvh (by first | exact (show _ = Value.tuple _ from rfl) | exact rfl) ?_)
  refine WL.c rfl (o_ext rfl rfl ?_)
  refine WL.c rfl (o_ext rfl rfl ?_)
  refine WL.c rfl (o_alB TI39 ?_)
  intro wa7 hCa hxa hsa
  refine WL.u (o_stA TI39 rfl (show _ = Value.agg (fcells (topF s.L) u1).toArray from rfl) rfl (fcells_one (own_one hou1)) hCa rfl ?_)
  intro wb7 hB7 hob hsb
  have hxb := Ext.own hxa (Nat.le_refl _) hob
  clear hCa hxa hsa hob hsb
  replace hx := hx.tr hxb
  replace h := h.ext hxb
  replace hp := hp.ext hxb
  replace hq := hq.ext hxb
  replace hou1 := own_ext hou1 hxb
  clear hxb
  refine WL.c rfl (o_ash (show _ = Value.int _ _ from rfl) ?_)
  refine WL.nil ?_
  refine W.seq ?_
  refine W.region ?_
  refine WL.c rfl (o_mvh (by first | exact (show _ = Value.pointer _ from rfl) | exact rfl) ?_)
  have h0s := hx.size
  have hu1l : ∀ k, u1.ownBlock = some k → k < wb7.heap.size := fun k hk => (hou1.lt k hk).2
  refine WL.c rfl (o_call Try.call19 (lc rfl ln) ((top_spec 0 p s.most s.high s.L lv V _ hp).mono ?_))
  rintro v37 w37 ⟨u2, rfl, hou2, hx37⟩
  replace hx := hx.tr hx37
  replace h := h.ext hx37
  replace hp := hp.ext hx37
  replace hq := hq.ext hx37
  replace hou1 := own_ext hou1 hx37
  replace hB7 := Only.blk hx37 hB7 (fun h => h)
  have hbu2 : ∀ k, u2.ownBlock = some k → w0.heap.size ≤ k := fun k hk => by have := (hou2.lt k hk).1; have := h0s; omega
  have hdj : ∀ k, u2.ownBlock = some k → ¬ u1.ownBlock = some k := fun k hk hk1 => by have h1 := (hou2.lt k hk).1; have h2 := hu1l k hk1; omega
  refine WL.c rfl (o_mvh (by first | exact (show _ = Value.tuple _ from rfl) | exact rfl) ?_)
  refine WL.c rfl (o_ext rfl rfl ?_)
  refine WL.c rfl (o_ext rfl rfl ?_)
  refine WL.c rfl (o_alB TI39 ?_)
  intro wa9 hCa hxa hsa
  refine WL.u (o_stA TI39 rfl (show _ = Value.agg (fcells (topF s.L) u2).toArray from rfl) rfl (fcells_one (own_one hou2)) hCa rfl ?_)
  intro wb9 hB9 hob hsb
  have hxb := Ext.own hxa (Nat.le_refl _) hob
  clear hCa hxa hsa hob hsb
  replace hx := hx.tr hxb
  replace h := h.ext hxb
  replace hp := hp.ext hxb
  replace hq := hq.ext hxb
  replace hou1 := own_ext hou1 hxb
  replace hB7 := Only.blk hxb hB7 (fun h => h)
  replace hou2 := own_ext hou2 hxb
  clear hxb
  refine WL.c rfl (o_ash (show _ = Value.int _ _ from rfl) ?_)
  refine WL.nil ?_
  refine W.seq ?_
  refine W.region ?_
  refine WL.c rfl (o_mvh (by first | exact (show _ = Value.pointer _ from rfl) | exact rfl) ?_)
  have h0s := hx.size
  refine WL.c rfl (o_call Try.call64 (lc rfl ln) ((rtop_spec 0 q s.most s.high s.L lq Vq _ hq).mono ?_))
  rintro v42 w42 ⟨u3, rfl, hou3, hx42⟩
  replace hx := hx.tr hx42
  replace h := h.ext hx42
  replace hp := hp.ext hx42
  replace hq := hq.ext hx42
  replace hou1 := own_ext hou1 hx42
  replace hB7 := Only.blk hx42 hB7 (fun h => h)
  replace hou2 := own_ext hou2 hx42
  replace hB9 := Only.blk hx42 hB9 (fun h => h)
  have hbu3 : ∀ k, u3.ownBlock = some k → w0.heap.size ≤ k := fun k hk => by have := (hou3.lt k hk).1; have := h0s; omega
  refine WL.c rfl (o_mvh (by first | exact (show _ = Value.tuple _ from rfl) | exact rfl) ?_)
  refine WL.c rfl (o_ext rfl rfl ?_)
  refine WL.c rfl (o_ext rfl rfl ?_)
  refine WL.c rfl (o_alB TI39 ?_)
  intro wa11 hCa hxa hsa
  refine WL.u (o_stA TI39 rfl (show _ = Value.agg (fcells (topF s.L) u3).toArray from rfl) rfl (fcells_one (own_one hou3)) hCa rfl ?_)
  intro wb11 hB11 hob hsb
  have hxb := Ext.own hxa (Nat.le_refl _) hob
  clear hCa hxa hsa hob hsb
  replace hx := hx.tr hxb
  replace h := h.ext hxb
  replace hp := hp.ext hxb
  replace hq := hq.ext hxb
  replace hou1 := own_ext hou1 hxb
  replace hB7 := Only.blk hxb hB7 (fun h => h)
  replace hou2 := own_ext hou2 hxb
  replace hB9 := Only.blk hxb hB9 (fun h => h)
  replace hou3 := own_ext hou3 hxb
  clear hxb
  refine WL.c rfl (o_ash (show _ = Value.int _ _ from rfl) ?_)
  refine WL.nil ?_
  refine W.seq ?_
  refine W.region ?_
  refine WL.c rfl (o_mvh (by first | exact (show _ = Value.pointer _ from rfl) | exact rfl) ?_)
  have h0s13 := hx.size
  refine WL.c rfl (o_call Try.call28 (lc rfl ln) ((head_spec 0 p s.most s.high s.L lv V _ hp).mono ?_))
  rintro v47 w47 ⟨rfl, hx47⟩
  replace hx := hx.tr hx47
  replace h := h.ext hx47
  replace hp := hp.ext hx47
  replace hq := hq.ext hx47
  replace hou1 := own_ext hou1 hx47
  replace hB7 := Only.blk hx47 hB7 (fun h => h)
  replace hou2 := own_ext hou2 hx47
  replace hB9 := Only.blk hx47 hB9 (fun h => h)
  replace hou3 := own_ext hou3 hx47
  replace hB11 := Only.blk hx47 hB11 (fun h => h)
  refine WL.c rfl (o_mvh (by first | exact (show _ = Value.tuple _ from rfl) | exact rfl) ?_)
  refine WL.c rfl (o_ext rfl rfl ?_)
  refine WL.c rfl (o_ext rfl rfl ?_)
  refine WL.c rfl (o_alB TI39 ?_)
  intro wa13 hCa hxa hsa
  refine WL.u (o_stA TI39 rfl (show _ = Value.agg (fcells (topF s.L) (.slice none 0 0)).toArray from rfl) rfl (fcells_one rfl) hCa rfl ?_)
  intro wb13 hB13 hob hsb
  have hxb := Ext.own hxa (Nat.le_refl _) hob
  clear hCa hxa hsa hob hsb
  replace hx := hx.tr hxb
  replace h := h.ext hxb
  replace hp := hp.ext hxb
  replace hq := hq.ext hxb
  replace hou1 := own_ext hou1 hxb
  replace hB7 := Only.blk hxb hB7 (fun h => h)
  replace hou2 := own_ext hou2 hxb
  replace hB9 := Only.blk hxb hB9 (fun h => h)
  replace hou3 := own_ext hou3 hxb
  replace hB11 := Only.blk hxb hB11 (fun h => h)
  clear hxb
  refine WL.c rfl (o_ash (show _ = Value.int _ _ from rfl) ?_)
  refine WL.nil ?_
  refine W.seq ?_
  refine W.region ?_
  refine WL.c rfl (o_mvh (by first | exact (show _ = Value.pointer _ from rfl) | exact rfl) ?_)
  have h0s := hx.size
  refine WL.c rfl (o_call Try.call65 (lc rfl ln) ((rhead_spec 0 q s.most s.high s.L lq Vq _ hq).mono ?_))
  rintro v52 w52 ⟨rfl, hx52⟩
  replace hx := hx.tr hx52
  replace h := h.ext hx52
  replace hp := hp.ext hx52
  replace hq := hq.ext hx52
  replace hou1 := own_ext hou1 hx52
  replace hB7 := Only.blk hx52 hB7 (fun h => h)
  replace hou2 := own_ext hou2 hx52
  replace hB9 := Only.blk hx52 hB9 (fun h => h)
  replace hou3 := own_ext hou3 hx52
  replace hB11 := Only.blk hx52 hB11 (fun h => h)
  replace hB13 := Only.blk hx52 hB13 (fun h => h)
  refine WL.c rfl (o_mvh (by first | exact (show _ = Value.tuple _ from rfl) | exact rfl) ?_)
  refine WL.c rfl (o_ext rfl rfl ?_)
  refine WL.c rfl (o_ext rfl rfl ?_)
  refine WL.c rfl (o_alB TI39 ?_)
  intro wa15 hCa hxa hsa
  refine WL.u (o_stA TI39 rfl (show _ = Value.agg (fcells (topF s.L) (.slice none 0 0)).toArray from rfl) rfl (fcells_one rfl) hCa rfl ?_)
  intro wb15 hB15 hob hsb
  have hxb := Ext.own hxa (Nat.le_refl _) hob
  clear hCa hxa hsa hob hsb
  replace hx := hx.tr hxb
  replace h := h.ext hxb
  replace hp := hp.ext hxb
  replace hq := hq.ext hxb
  replace hou1 := own_ext hou1 hxb
  replace hB7 := Only.blk hxb hB7 (fun h => h)
  replace hou2 := own_ext hou2 hxb
  replace hB9 := Only.blk hxb hB9 (fun h => h)
  replace hou3 := own_ext hou3 hxb
  replace hB11 := Only.blk hxb hB11 (fun h => h)
  replace hB13 := Only.blk hxb hB13 (fun h => h)
  clear hxb
  refine WL.c rfl (o_ash (show _ = Value.int _ _ from rfl) ?_)
  refine WL.nil ?_
  refine W.seq ?_
  refine W.region ?_
  refine WL.c rfl (o_ldA TI39 rfl rfl (show Cells _ w32.heap.size 0 (fcells (topF s.L) u1) from Cells.of hB7 0 _ (by simp)) rfl ?_)
  refine WL.c rfl (o_ldA TI39 rfl rfl (show Cells _ w42.heap.size 0 (fcells (topF s.L) u3) from Cells.of hB11 0 _ (by simp)) rfl ?_)
  refine WL.c rfl (o_call Try.call15 (lc rfl (lc rfl ln)) ((same_spec (topF s.L) u1 u3 _ (Sl.own hou1) (Sl.own hou3) (by omega)).mono ?_))
  rintro v57 w57 ⟨rfl, hx57⟩
  replace hx := hx.tr hx57
  replace h := h.ext hx57
  replace hp := hp.ext hx57
  replace hq := hq.ext hx57
  replace hou1 := own_ext hou1 hx57
  replace hB7 := Only.blk hx57 hB7 (fun h => h)
  replace hou2 := own_ext hou2 hx57
  replace hB9 := Only.blk hx57 hB9 (fun h => h)
  replace hou3 := own_ext hou3 hx57
  replace hB11 := Only.blk hx57 hB11 (fun h => h)
  replace hB13 := Only.blk hx57 hB13 (fun h => h)
  replace hB15 := Only.blk hx57 hB15 (fun h => h)
  refine WL.c rfl (o_mvh (show _ = Value.bool _ from rfl) ?_)
  refine WL.g rfl (rfl) rfl (o_ldA TI39 rfl rfl (show Cells _ w37.heap.size 0 (fcells (topF s.L) u2) from Cells.of hB9 0 _ (by simp)) rfl ?_)
  refine WL.g rfl (rfl) rfl (o_ldA TI39 rfl rfl (show Cells _ w42.heap.size 0 (fcells (topF s.L) u3) from Cells.of hB11 0 _ (by simp)) rfl ?_)
  refine WL.g rfl (rfl) rfl (o_call Try.call15 (lc rfl (lc rfl ln)) ((same_spec (topF s.L) u2 u3 _ (Sl.own hou2) (Sl.own hou3) (by omega)).mono ?_))
  rintro v61 w61 ⟨rfl, hx61⟩
  replace hx := hx.tr hx61
  replace h := h.ext hx61
  replace hp := hp.ext hx61
  replace hq := hq.ext hx61
  replace hou1 := own_ext hou1 hx61
  replace hB7 := Only.blk hx61 hB7 (fun h => h)
  replace hou2 := own_ext hou2 hx61
  replace hB9 := Only.blk hx61 hB9 (fun h => h)
  replace hou3 := own_ext hou3 hx61
  replace hB11 := Only.blk hx61 hB11 (fun h => h)
  replace hB13 := Only.blk hx61 hB13 (fun h => h)
  replace hB15 := Only.blk hx61 hB15 (fun h => h)
  refine WL.c rfl (o_pickA rfl rfl ?_)
  refine WL.c rfl (o_mvh (show _ = Value.bool _ from rfl) ?_)
  refine WL.g rfl (rfl) rfl (o_mvh (show _ = Value.int _ _ from rfl) ?_)
  refine WL.g rfl (rfl) rfl (o_call Try.call10 (lc rfl ln) ((num_spec _ _).mono ?_))
  rintro v65 w65 ⟨rfl, hw65⟩
  replace hw65 := hw65.symm
  subst hw65
  refine WL.g rfl (rfl) rfl (o_mvh (show _ = Value.int _ _ from rfl) ?_)
  refine WL.g rfl (rfl) rfl (o_eq rfl rfl ?_)
  refine WL.c rfl (o_pickA rfl rfl ?_)
  refine WL.c rfl (o_mvh (show _ = Value.bool _ from rfl) ?_)
  refine WL.g rfl (by simp) rfl (o_mvh (show _ = Value.int _ _ from rfl) ?_)
  refine WL.g rfl (by simp) rfl (o_call Try.call10 (lc rfl ln) ((num_spec _ _).mono ?_))
  rintro v71 w71 ⟨rfl, hw71⟩
  replace hw71 := hw71.symm
  subst hw71
  refine WL.g rfl (by simp) rfl (o_mvh (show _ = Value.int _ _ from rfl) ?_)
  refine WL.g rfl (by simp) rfl (o_eq rfl rfl ?_)
  refine WL.c rfl (o_pickA rfl rfl ?_)
  refine WL.c rfl (o_mvh (show _ = Value.bool _ from rfl) ?_)
  refine WL.g rfl (by simp) rfl (o_ldA TI39 rfl rfl (show Cells _ w47.heap.size 0 (fcells (topF s.L) (.slice none 0 0)) from Cells.of hB13 0 _ (by simp)) rfl ?_)
  refine WL.g rfl (by simp) rfl (o_ldA TI39 rfl rfl (show Cells _ w52.heap.size 0 (fcells (topF s.L) (.slice none 0 0)) from Cells.of hB15 0 _ (by simp)) rfl ?_)
  refine WL.g rfl (by simp) rfl (o_call Try.call15 (lc rfl (lc rfl ln)) ((same_spec { topF s.L with tab := [] } (.slice none 0 0) (.slice none 0 0) _ (Sl.nil _ _) (Sl.nil _ _) (Nat.zero_le _)).mono ?_))
  rintro v78 w78 ⟨rfl, hx78⟩
  replace hx := hx.tr hx78
  replace h := h.ext hx78
  replace hp := hp.ext hx78
  replace hq := hq.ext hx78
  replace hou1 := own_ext hou1 hx78
  replace hB7 := Only.blk hx78 hB7 (fun h => h)
  replace hou2 := own_ext hou2 hx78
  replace hB9 := Only.blk hx78 hB9 (fun h => h)
  replace hou3 := own_ext hou3 hx78
  replace hB11 := Only.blk hx78 hB11 (fun h => h)
  replace hB13 := Only.blk hx78 hB13 (fun h => h)
  replace hB15 := Only.blk hx78 hB15 (fun h => h)
  refine WL.c rfl (o_pickA rfl rfl ?_)
  refine WL.c rfl (o_mvh (show _ = Value.bool _ from rfl) ?_)
  refine WL.g rfl (by simp) rfl (o_mvh (show _ = Value.int _ _ from rfl) ?_)
  refine WL.g rfl (by simp) rfl (o_call Try.call10 (lc rfl ln) ((num_spec _ _).mono ?_))
  rintro v82 w82 ⟨rfl, hw82⟩
  replace hw82 := hw82.symm
  subst hw82
  refine WL.g rfl (by simp) rfl (o_mvh (show _ = Value.int _ _ from rfl) ?_)
  refine WL.g rfl (by simp) rfl (o_eq rfl rfl ?_)
  refine WL.c rfl (o_pickA rfl rfl ?_)
  refine WL.c rfl (o_mvh (show _ = Value.bool _ from rfl) ?_)
  refine WL.g rfl (by simp) rfl (o_mvh (by first | exact (show _ = Value.pointer _ from rfl) | exact rfl) ?_)
  refine WL.g rfl (by simp) rfl (o_call Try.call22 (lc rfl ln) ((slots_spec 0 p s.most s.high s.L lv V _ hp).mono ?_))
  rintro v88 w88 ⟨rfl, hx88⟩
  replace hx := hx.tr hx88
  replace h := h.ext hx88
  replace hp := hp.ext hx88
  replace hq := hq.ext hx88
  replace hou1 := own_ext hou1 hx88
  replace hB7 := Only.blk hx88 hB7 (fun h => h)
  replace hou2 := own_ext hou2 hx88
  replace hB9 := Only.blk hx88 hB9 (fun h => h)
  replace hou3 := own_ext hou3 hx88
  replace hB11 := Only.blk hx88 hB11 (fun h => h)
  replace hB13 := Only.blk hx88 hB13 (fun h => h)
  replace hB15 := Only.blk hx88 hB15 (fun h => h)
  refine WL.g rfl (by simp) rfl (o_mvh (by first | exact (show _ = Value.pointer _ from rfl) | exact rfl) ?_)
  refine WL.g rfl (by simp) rfl (o_call Try.call66 (lc rfl ln) ((rslots_spec 0 q s.most s.high s.L lq Vq _ hq).mono ?_))
  rintro v90 w90 ⟨rfl, hx90⟩
  replace hx := hx.tr hx90
  replace h := h.ext hx90
  replace hp := hp.ext hx90
  replace hq := hq.ext hx90
  replace hou1 := own_ext hou1 hx90
  replace hB7 := Only.blk hx90 hB7 (fun h => h)
  replace hou2 := own_ext hou2 hx90
  replace hB9 := Only.blk hx90 hB9 (fun h => h)
  replace hou3 := own_ext hou3 hx90
  replace hB11 := Only.blk hx90 hB11 (fun h => h)
  replace hB13 := Only.blk hx90 hB13 (fun h => h)
  replace hB15 := Only.blk hx90 hB15 (fun h => h)
  refine WL.g rfl (by simp) rfl (o_eq rfl rfl ?_)
  refine WL.c rfl (o_pickA rfl rfl ?_)
  refine WL.c rfl (o_ash (show _ = Value.bool _ from rfl) ?_)
  refine WL.nil ?_
  refine W.seq ?_
  have hL1 := lst_ints hou1
  have hL2 := lst_ints hou2
  have l1 := h.labV (id := 11) (v := u1) (fun k hk => by have := hbu1 k hk; exact ⟨by omega, (hou1.lt k hk).2, hhi k this⟩)
  have l2 := l1.labV (id := 12) (v := u2) (fun k hk => by have := hbu2 k hk; exact ⟨by omega, (hou2.lt k hk).2, by rw [labV_ne (hdj k hk)]; exact hhi k this⟩)
  have o21 : ∀ k, u1.ownBlock = some k → labV (labV o u1 11) u2 12 k = 11 := fun k hk => by rw [labV_ne (fun h2 => hdj k h2 hk), labV_eq hk]
  have o22 : ∀ k, u2.ownBlock = some k → labV (labV o u1 11) u2 12 k = 12 := fun k hk => labV_eq hk
  have ob9 : labV (labV o u1 11) u2 12 w37.heap.size = 0 := by rw [labV_ne (own_off hou2 hB9 (by decide)), labV_ne (own_off hou1 hB9 (by decide))]; exact hhi _ (by have := hx37.size; omega)
  have ob13 : labV (labV o u1 11) u2 12 w47.heap.size = 0 := by rw [labV_ne (own_off hou2 hB13 (by decide)), labV_ne (own_off hou1 hB13 (by decide))]; exact hhi _ (by have := hx47.size; omega)
  generalize labV (labV o u1 11) u2 12 = o2 at *
  have hxq : Only (fun k => H ≤ k) w0 w90 := hx.mono (fun _ _ h => h.elim)
  have hlt9 : w37.heap.size < w90.heap.size := (Array.getElem?_eq_some_iff.1 hB9).1
  have hlt13 : w47.heap.size < w90.heap.size := (Array.getElem?_eq_some_iff.1 hB13).1
  have hu2w : ∀ k, u2.ownBlock = some k → k < w90.heap.size := fun k hk => (hou2.lt k hk).2
  refine W.tail 5 rfl (by kernel_rfl) ?_
  refine WS.c rfl ((SO.o rfl (o_mvh (by first | exact (show _ = Value.pointer _ from rfl) | exact rfl) ⟨rfl, rfl⟩))) ?_
  refine WS.c rfl ((SO.r (r_nil rfl))) ?_
  refine WS.c rfl ((SO.o rfl (o_fa 4 TI55 rfl TI53 rfl rfl ⟨rfl, rfl⟩))) ?_
  refine WS.c rfl ((SO.o rfl (o_fa 6 TI39 rfl TI37 rfl rfl ⟨rfl, rfl⟩))) ?_
  refine WS.c rfl ((SO.o rfl (o_ld TI37 rfl rfl (cell_of hB7 rfl) ⟨rfl, rfl⟩))) ?_
  refine WS.nil ?_
  have hd := Only.drew w90
  replace l2 := l2.ext hd
  replace hL1 := hL1.ext hd
  replace hL2 := hL2.ext hd
  replace hB7 := hd.blk hB7 (fun h => h)
  replace hB9 := hd.blk hB9 (fun h => h)
  replace hB13 := hd.blk hB13 (fun h => h)
  have hds := hd.size
  replace hxq := hxq.trans' hd (fun _ h => h) (fun _ _ h => h.elim)
  clear hd
  generalize w90.drew = wz at *
  refine WL.c rfl (o_call Try.call59 (lc rfl (lc rfl ln)) ((btable_spec H tp o2 S S P Q a b c d nl nb VA VB VC VD _ l2 u1 (ints (topF s.L).tab) 11 (by omega) hL1 o21 (by rw [List.length_map]; omega) (by omega)).mono ?_))
  rintro v98 w98 ⟨⟨o3, a3, b3, VA3, VB3, l3, hk3⟩, ho98⟩
  replace hL2 := hL2.only ho98 (fun k hk hF => by have := o22 k hk; omega)
  replace hB9 := ho98.blk hB9 (fun hF => by omega)
  replace hB13 := ho98.blk hB13 (fun hF => by omega)
  replace hxq := hxq.trans (ho98.mono (fun k _ hk => foot_of l2 (by omega) k hk))
  have o32 : ∀ k, u2.ownBlock = some k → o3 k = 12 := fun k hk => by have h1 := o22 k hk; have h2 := hu2w k hk; rw [hk3 k (by omega) (by omega)]; exact h1
  have ob3 : o3 w47.heap.size = 0 := by rw [hk3 _ (by omega) (by omega)]; exact ob13
  have hs98 := ho98.size
  refine WL.nil ?_
  refine W.seq ?_
  refine W.tail 5 rfl (by kernel_rfl) ?_
  refine WS.c rfl ((SO.o rfl (o_mvh (by first | exact (show _ = Value.pointer _ from rfl) | exact rfl) ⟨rfl, rfl⟩))) ?_
  refine WS.c rfl ((SO.r (r_nil rfl))) ?_
  refine WS.c rfl ((SO.o rfl (o_fa 4 TI55 rfl TI53 rfl rfl ⟨rfl, rfl⟩))) ?_
  refine WS.c rfl ((SO.o rfl (o_fa 6 TI39 rfl TI37 rfl rfl ⟨rfl, rfl⟩))) ?_
  refine WS.c rfl ((SO.o rfl (o_ld TI37 rfl rfl (cell_of hB9 rfl) ⟨rfl, rfl⟩))) ?_
  refine WS.nil ?_
  have hd := Only.drew w98
  replace l3 := l3.ext hd
  replace hL2 := hL2.ext hd
  replace hB9 := hd.blk hB9 (fun h => h)
  replace hB13 := hd.blk hB13 (fun h => h)
  have hds := hd.size
  replace hxq := hxq.trans' hd (fun _ h => h) (fun _ _ h => h.elim)
  clear hd
  generalize w98.drew = wz at *
  refine WL.c rfl (o_call Try.call59 (lc rfl (lc rfl ln)) ((btable_spec H tp o3 S S P Q a3 b3 c d (nl + 1) nb VA3 VB3 VC VD _ l3 u2 (ints (topF s.L).tab) 12 (by omega) hL2 o32 (by rw [List.length_map]; omega) (by omega)).mono ?_))
  rintro v104 w104 ⟨⟨o4, a4, b4, VA4, VB4, l4, hk4⟩, ho104⟩
  replace hB13 := ho104.blk hB13 (fun hF => by omega)
  replace hxq := hxq.trans (ho104.mono (fun k _ hk => foot_of l3 (by omega) k hk))
  refine WL.nil ?_
  refine W.seq ?_
  refine W.tail 5 rfl (by kernel_rfl) ?_
  refine WS.c rfl ((SO.o rfl (o_mvh (by first | exact (show _ = Value.pointer _ from rfl) | exact rfl) ⟨rfl, rfl⟩))) ?_
  refine WS.c rfl ((SO.r (r_nil rfl))) ?_
  refine WS.c rfl ((SO.o rfl (o_fa 4 TI55 rfl TI53 rfl rfl ⟨rfl, rfl⟩))) ?_
  refine WS.c rfl ((SO.o rfl (o_fa 6 TI39 rfl TI37 rfl rfl ⟨rfl, rfl⟩))) ?_
  refine WS.c rfl ((SO.o rfl (o_ld TI37 rfl rfl (cell_of hB13 rfl) ⟨rfl, rfl⟩))) ?_
  refine WS.nil ?_
  have hd := Only.drew w104
  replace l4 := l4.ext hd
  replace hB13 := hd.blk hB13 (fun h => h)
  have hds := hd.size
  replace hxq := hxq.trans' hd (fun _ h => h) (fun _ _ h => h.elim)
  clear hd
  generalize w104.drew = wz at *
  refine WL.c rfl (o_call Try.call59 (lc rfl (lc rfl ln)) ((btable_spec H tp o4 S S P Q a4 b4 c d (nl + 2) nb VA4 VB4 VC VD _ l4 (.slice none 0 0) [] 13 (by omega) (Lst.own (World.ownsRow_nil _ 0 _ _)) (fun k hk => by cases hk) (Nat.zero_le _) (by omega)).mono ?_))
  rintro v110 w110 ⟨⟨o5, a5, b5, VA5, VB5, l5, hk5⟩, ho110⟩
  replace hxq := hxq.trans (ho110.mono (fun k _ hk => foot_of l4 (by omega) k hk))
  refine WL.nil ?_
  refine W.seq ?_
  refine W.region ?_
  refine WL.c rfl (o_mvh (show _ = Value.bool _ from rfl) ?_)
  refine WL.c rfl (o_ash (show _ = Value.bool _ from rfl) ?_)
  refine WL.nil ?_
  refine W.ret ?_
  refine ret1v rfl (show _ = Value.bool _ from rfl) ?_
  exact ⟨congrArg Value.bool (by simp), ⟨o5, P, Q, a5, b5, c, d, VA5, VB5, VC, VD, l5⟩, hxq⟩
end Go.Proofs.Ytdiaeafjjffjmaa
