/-
  Walks. Written by program out of specs of mine.
-/
import Derived.Test.YtieldjpbempkcaaRC
import Derived.Test.YtieldjpbempkcaaZ
set_option linter.unusedSimpArgs false
set_option linter.unusedVariables false
namespace Go.Proofs.Ytieldjpbempkcaa
open Go Go.Vc Go.RowKit Go.Proofs

/-- the two readers behind one pointer -/
structure Bt (w : World) (H b p q : Nat) (vb : Value) (bs : List UInt8) (over : Bool) : Prop where
  cell : w.heap[b]? = some (.cells #[.pointer (some ⟨p, 0, none⟩), .pointer (some ⟨q, 0, none⟩)] 30 (0, 0))
  prog : RdP w p bs over
  ref : RRd w H q vb bs over
  ok : RdOk bs over
  lob : H ≤ b
  lop : H ≤ p
  loq : H ≤ q
def BF (b p q : Nat) (vb : Value) (j : Nat) : Prop := j = b ∨ j = p ∨ j = q ∨ vb.ownBlock = some j
theorem Bt.ext {w w' : World} {H b p q : Nat} {vb : Value} {bs : List UInt8} {over : Bool} (h : Bt w H b p q vb bs over) (hx : Ext w w') : Bt w' H b p q vb bs over :=
  ⟨hx.blk h.cell (fun h => h), RdP.ext h.prog hx, h.ref.ext hx, h.ok, h.lob, h.lop, h.loq⟩
theorem Bt.only {w w' : World} {H b p q : Nat} {vb : Value} {bs : List UInt8} {over : Bool} {F : Nat → Prop} (h : Bt w H b p q vb bs over) (hx : Only F w w') (hn : ∀ j, BF b p q vb j → ¬ F j) : Bt w' H b p q vb bs over :=
  ⟨hx.blk h.cell (hn b (.inl rfl)), hx.blk h.prog (hn p (.inr (.inl rfl))), h.ref.only hx (hn q (.inr (.inr (.inl rfl)))) (fun j hj => hn j (.inr (.inr (.inr hj)))), h.ok, h.lob, h.lop, h.loq⟩
theorem Bt.lo {w : World} {H b p q : Nat} {vb : Value} {bs : List UInt8} {over : Bool} (h : Bt w H b p q vb bs over) : ∀ j, BF b p q vb j → H ≤ j := by
  intro j hj
  rcases hj with rfl | rfl | rfl | hj
  · exact h.lob
  · exact h.lop
  · exact h.loq
  · exact (h.ref.2.lt j hj).1
theorem Bt.hi {w : World} {H b p q : Nat} {vb : Value} {bs : List UInt8} {over : Bool} (h : Bt w H b p q vb bs over) : ∀ j, BF b p q vb j → j < w.heap.size := by
  intro j hj
  rcases hj with rfl | rfl | rfl | hj
  · exact (Array.getElem?_eq_some_iff.1 h.cell).1
  · exact (Array.getElem?_eq_some_iff.1 h.prog).1
  · exact (Array.getElem?_eq_some_iff.1 h.ref.1).1
  · exact (h.ref.2.lt j hj).2
theorem Bt.bp {w : World} {H b p q : Nat} {vb : Value} {bs : List UInt8} {over : Bool} (h : Bt w H b p q vb bs over) : b ≠ p ∧ b ≠ q ∧ p ≠ q ∧ ¬ vb.ownBlock = some b ∧ ¬ vb.ownBlock = some p ∧ ¬ vb.ownBlock = some q := by
  have h1 := h.cell
  have h2 : w.heap[p]? = some (.cells (rcells bs over).toArray 57 (0, 0)) := h.prog
  have h3 := h.ref.1
  refine ⟨fun e => ?_, fun e => ?_, fun e => ?_, own_off h.ref.2 h1 (by decide), own_off h.ref.2 h2 (by decide), own_off h.ref.2 h3 (by decide)⟩
  · rw [e, h2] at h1; simp at h1
  · rw [e, h3] at h1; simp at h1
  · rw [e, h3] at h2; simp at h2
theorem RdP.lt {w : World} {p : Nat} {bs : List UInt8} {over : Bool} (h : RdP w p bs over) : p < w.heap.size := by unfold RdP at h; exact (Array.getElem?_eq_some_iff.1 h).1
theorem RdP.only {w w' : World} {p : Nat} {bs : List UInt8} {over : Bool} {F : Nat → Prop} (h : RdP w p bs over) (ho : Only F w w') (hn : ¬ F p) : RdP w' p bs over := ho.blk h hn
def NewB (w : World) (p q : Nat) (vb : Value) (p' q' : Nat) (vb' : Value) : Prop := (p' = p ∨ w.heap.size ≤ p') ∧ (q' = q ∨ w.heap.size ≤ q') ∧ Newer w vb vb'
theorem NewB.refl (w : World) (p q : Nat) (vb : Value) : NewB w p q vb p q vb := ⟨.inl rfl, .inl rfl, fun k h => .inl h⟩
theorem own_front {w : World} {H g cap m : Nat} {xs ys : List UInt8} (h : w.ownsRow H 5 1 (.slice (some ⟨g, 0, none⟩) (xs.length + m) cap) (xs.length + m) ((xs ++ ys).map bv)) : By w (.slice (some ⟨g, 0, none⟩) xs.length cap) xs := by
  obtain ⟨cap', cur, hv, -, hc, hnc, -, hcs, ht⟩ := own_blk h rfl
  simp only [Value.slice.injEq, true_and] at hv
  refine ⟨by simp, .inr ⟨g, 0, cap, rfl, by omega, ?_⟩⟩
  refine Cells.of hc 0 _ fun i u hu => ?_
  have hi := (List.getElem?_eq_some_iff.1 hu).1
  rw [List.length_map] at hi
  have h1 : ((xs ++ ys).map bv)[i]? = some u := by rw [List.map_append, List.getElem?_append_left (by simpa using hi)]; exact hu
  rw [← ht, List.getElem?_take] at h1
  split at h1
  · simpa using h1
  · simp at h1

set_option maxHeartbeats 4000000 in
theorem plays_spec (H b p q : Nat) (vb : Value) (bs : List UInt8) (over : Bool) (kind : Int) (two : Bool) (n : Nat) (hn : n < 18446744073709551616) (vB : Value) (xs : List UInt8) (c : UInt8) (w0 : World) (hb : Bt w0 H b p q vb bs over) (hH : H ≤ w0.heap.size) (hB : By w0 vB xs) (hxl : xs.length ≤ 140737488351232) : Ca Try.prog 11 #[.pointer (some ⟨b, 0, none⟩), .agg #[.int .i64 kind, .bool two, .int .u64 (n : Int), vB, bv c]] w0 (fun v w' => v = .bool true ∧ ∃ p' q' vb' bs' over', Bt w' H b p' q' vb' bs' over' ∧ Only (BF b p q vb) w0 w' ∧ NewB w0 p q vb p' q' vb') := by
  have hn' : n < 2 ^ 64 := hn
  refine Ca.of Try.func11 Try.ntmps11 rfl rfl ?_
  refine W.seq ?_
  refine W.region ?_
  refine WL.c rfl (o_boxB rfl ?_)
  intro w3 hC3 hx hs3
  replace hC3 : w3.heap[w0.heap.size]? = some (.cells #[.int .i64 kind, .bool two, .int .u64 (n : Int), vB, bv c] 34 (0, 0)) := hC3
  replace hb := hb.ext hx
  replace hB := hB.ext hx
  refine WL.c rfl (o_as ?_)
  refine WL.nil ?_
  refine W.seq ?_
  refine W.seq ?_
  refine W.region ?_
  refine WL.c rfl (o_fa 0 TI34 rfl TI3 rfl rfl ?_)
  refine WL.c rfl (o_ld TI3 rfl rfl (cell_of hC3 rfl) ?_)
  refine WL.nil ?_
  refine W.block ?_
  refine W.seq ?_
  refine W.region ?_
  refine WL.c rfl (o_eq rfl rfl ?_)
  refine WL.c rfl (o_as ?_)
  refine WL.nil ?_
  refine W.cond rfl (fun c23 => ?_) (fun c23 => ?_)
  · try simp only [decide_eq_true_eq, decide_eq_false_iff_not, Bool.not_eq_true', Bool.not_eq_false', Bool.and_eq_true, Bool.or_eq_true, Bool.and_eq_false_iff, Bool.or_eq_false_iff] at c23
    refine W.seq ?_
    have hC3d := (Only.drew w3).blk hC3 (fun h => h)
    have hbd := hb.ext (Only.drew w3)
    have hxd := hx.tr (Only.drew w3)
    refine W.draw (Ext) [(0, fun v _ => v = _), (3, fun v _ => v = _)] rfl (by kernel_rfl) (Only.refl No) (fun _ _ _ h k => h.trans k) ⟨Mono.eq, Mono.eq, trivial⟩ ⟨rfl, rfl, trivial⟩ ?_
    refine WD.p rfl (fun e w hR hh => by obtain ⟨h3, -⟩ := hh; exact SG.n (o_fa 2 TI34 rfl TI31 rfl h3 ⟨rfl, Only.refl No _⟩)) ?_
    refine WD.p rfl (fun e w hR hh => by obtain ⟨h25, -⟩ := hh; exact SG.n (o_ld TI31 rfl h25 (cell_of (hR.blk hC3d (fun h => h)) rfl) ⟨rfl, Only.refl No _⟩)) ?_
    refine WD.q (fun u w => By w u (vput n)) (fun _ _ _ hR h => h.ext hR) rfl (fun e w hR hh => by obtain ⟨h26, -⟩ := hh; exact SG.n (o_call Try.call13 (lc h26 ln) ((put_own hn' _).mono (fun v w' h => ⟨h.by, h.2⟩)))) ?_
    refine WD.p rfl (fun e w hR hh => by obtain ⟨h3, -⟩ := hh; exact SG.n (o_fa 2 TI34 rfl TI31 rfl h3 ⟨rfl, Only.refl No _⟩)) ?_
    refine WD.p rfl (fun e w hR hh => by obtain ⟨h28, -⟩ := hh; exact SG.n (o_ld TI31 rfl h28 (cell_of (hR.blk hC3d (fun h => h)) rfl) ⟨rfl, Only.refl No _⟩)) ?_
    refine WD.q (fun u w => By w u (vput n)) (fun _ _ _ hR h => h.ext hR) rfl (fun e w hR hh => by obtain ⟨h29, -⟩ := hh; exact SG.n (o_call Try.call22 (lc h29 ln) ((rput_spec n hn' _).mono (fun v w' h => ⟨h.by, h.2⟩)))) ?_
    refine WD.p rfl (fun e w hR hh => by obtain ⟨h30, h27, -⟩ := hh; exact SG.n (o_call Try.call17 (lc rfl (lc rfl ln)) ((same_spec _ _ _ _ _ h27 h30).mono (fun v w' ⟨h1, h2⟩ => ⟨h1, by rw [h2]; exact Only.refl No _⟩)))) ?_
    refine WD.p rfl (fun e w hR hh => by obtain ⟨h31, -⟩ := hh; exact SG.n (o_mvh h31 ⟨rfl, Only.refl No _⟩)) ?_
    refine WD.p rfl (fun e w hR hh => by obtain ⟨h32, h3, -⟩ := hh; exact SG.g h32 (by simp) (o_fa 2 TI34 rfl TI31 rfl h3 ⟨rfl, Only.refl No _⟩)) ?_
    refine WD.p rfl (fun e w hR hh => by obtain ⟨h33, h32, -⟩ := hh; exact SG.g h32 (by simp) (o_ld TI31 rfl h33 (cell_of (hR.blk hC3d (fun h => h)) rfl) ⟨rfl, Only.refl No _⟩)) ?_
    refine WD.p rfl (fun e w hR hh => by obtain ⟨h34, h32, -⟩ := hh; exact SG.g h32 (by simp) (o_call Try.call14 (lc h34 ln) ((size_spec n hn' _).mono (fun v w' ⟨h1, h2⟩ => ⟨h1, by rw [h2]; exact Only.refl No _⟩)))) ?_
    refine WD.p rfl (fun e w hR hh => by obtain ⟨h32, h3, -⟩ := hh; exact SG.g h32 (by simp) (o_fa 2 TI34 rfl TI31 rfl h3 ⟨rfl, Only.refl No _⟩)) ?_
    refine WD.p rfl (fun e w hR hh => by obtain ⟨h36, h32, -⟩ := hh; exact SG.g h32 (by simp) (o_ld TI31 rfl h36 (cell_of (hR.blk hC3d (fun h => h)) rfl) ⟨rfl, Only.refl No _⟩)) ?_
    refine WD.p rfl (fun e w hR hh => by obtain ⟨h37, h32, -⟩ := hh; exact SG.g h32 (by simp) (o_call Try.call23 (lc h37 ln) ((rsize_spec n hn' _).mono (fun v w' h => h)))) ?_
    refine WD.p rfl (fun e w hR hh => by obtain ⟨h38, h35, h32, -⟩ := hh; exact SG.g h32 (by simp) (o_eq h35 h38 ⟨rfl, Only.refl No _⟩)) ?_
    refine WD.p rfl (fun e w hR hh => by obtain ⟨h39, h32, -⟩ := hh; exact SG.n (o_pickA h32 h39 ⟨rfl, Only.refl No _⟩)) ?_
    refine WD.p rfl (fun e w hR hh => by obtain ⟨h40, -⟩ := hh; exact SG.n (o_ash h40 ⟨rfl, Only.refl No _⟩)) ?_
    rintro e w hR ⟨h4, h40, h39, h38, h37, h36, h35, h34, h33, h32, h31, h30, h29, h28, h27, h26, h25, h0, h3, -⟩
    refine W.ret ?_
    refine ret1v rfl h4 ?_
    exact ⟨congrArg Value.bool (by simp), p, q, vb, bs, over, hbd.ext hR, (hxd.tr hR).mono (fun _ _ h => h.elim), NewB.refl _ _ _ _⟩
  · try simp only [decide_eq_true_eq, decide_eq_false_iff_not, Bool.not_eq_true', Bool.not_eq_false', Bool.and_eq_true, Bool.or_eq_true, Bool.and_eq_false_iff, Bool.or_eq_false_iff] at c23
    refine W.seq ?_
    refine W.region ?_
    refine WL.c rfl (o_eq rfl rfl ?_)
    refine WL.c rfl (o_as ?_)
    refine WL.nil ?_
    refine W.cond rfl (fun c41 => ?_) (fun c41 => ?_)
    · try simp only [decide_eq_true_eq, decide_eq_false_iff_not, Bool.not_eq_true', Bool.not_eq_false', Bool.and_eq_true, Bool.or_eq_true, Bool.and_eq_false_iff, Bool.or_eq_false_iff] at c41
      refine W.seq ?_
      refine W.region ?_
      refine WL.c rfl (o_fa 3 TI34 rfl TI32 rfl rfl ?_)
      refine WL.c rfl (o_ld TI32 rfl rfl (cell_of hC3 rfl) ?_)
      refine WL.c rfl (o_call Try.call24 (lc rfl ln) ((lent_spec xs vB _ hB hxl).mono ?_))
      rintro v45 w45 ⟨g, cap, rfl, hown, hx45⟩
      have hB45 := own_front hown
      refine WL.c rfl (o_as ?_)
      refine WL.nil ?_
      refine W.seq ?_
      refine W.region ?_
      refine WL.c rfl (o_mv ?_)
      refine WL.c rfl (o_call Try.call15 (lc rfl ln) ((get_spec xs _ _ hB45 (by rw [maxLen_eq]; omega)).mono ?_))
      rintro v48 w48 ⟨rfl, rfl⟩
      refine WL.c rfl (o_mv ?_)
      refine WL.c rfl (o_ext rfl rfl ?_)
      refine WL.c rfl (o_ext rfl rfl ?_)
      refine WL.c rfl (o_ext rfl rfl ?_)
      refine WL.c rfl (o_as ?_)
      refine WL.c rfl (o_as ?_)
      refine WL.c rfl (o_as ?_)
      refine WL.nil ?_
      refine W.seq ?_
      refine W.region ?_
      refine WL.c rfl (o_fa 3 TI34 rfl TI32 rfl rfl ?_)
      refine WL.c rfl (o_ld TI32 rfl rfl (cell_of (hx45.blk hC3 (fun h => h)) rfl) ?_)
      refine WL.c rfl (o_call Try.call25 (lc rfl ln) ((rget_spec xs vB _ (hB.ext hx45) (by omega)).mono ?_))
      rintro v55 w55 ⟨rfl, rfl⟩
      refine WL.c rfl (o_mv ?_)
      refine WL.c rfl (o_ext rfl rfl ?_)
      refine WL.c rfl (o_ext rfl rfl ?_)
      refine WL.c rfl (o_ext rfl rfl ?_)
      refine WL.c rfl (o_as ?_)
      refine WL.c rfl (o_as ?_)
      refine WL.c rfl (o_as ?_)
      refine WL.nil ?_
      refine W.seq ?_
      refine W.region ?_
      refine WL.c rfl (o_mv ?_)
      refine WL.c rfl (o_mv ?_)
      refine WL.c rfl (o_eq rfl rfl ?_)
      refine WL.c rfl (o_mv ?_)
      refine WL.g rfl (by simp) rfl (o_mv ?_)
      refine WL.g rfl (by simp) rfl (o_mv ?_)
      refine WL.g rfl (by simp) rfl (o_eq rfl rfl ?_)
      refine WL.c rfl (o_pickA rfl rfl ?_)
      refine WL.c rfl (o_mv ?_)
      refine WL.g rfl (by simp) rfl (o_mv ?_)
      refine WL.g rfl (by simp) rfl (o_call Try.call16 (lc rfl ln) ((num_spec _ _).mono ?_))
      rintro v69 w69 ⟨rfl, rfl⟩
      refine WL.g rfl (by simp) rfl (o_mv ?_)
      refine WL.g rfl (by simp) rfl (o_eq rfl rfl ?_)
      refine WL.c rfl (o_pickA rfl rfl ?_)
      refine WL.c rfl (o_mv ?_)
      refine WL.g rfl (by simp) rfl (o_mv ?_)
      refine WL.g rfl (by simp) rfl (o_fa 3 TI34 rfl TI32 rfl rfl ?_)
      refine WL.g rfl (by simp) rfl (o_ld TI32 rfl rfl (cell_of (hx45.blk hC3 (fun h => h)) rfl) ?_)
      refine WL.g rfl (by simp) rfl (o_call Try.call26 (lc rfl (lc rfl ln)) ((kept_spec _ g cap xs vB _ hown (hB.ext hx45) hxl).mono ?_))
      rintro v77 w77 ⟨rfl, ho77⟩
      have hg77 := (hown.lt g rfl).1
      have hx77 : Ext w3 w77 := hx45.trans' ho77 (fun _ h => h) (fun j hj he => by omega)
      refine WL.c rfl (o_pickA rfl rfl ?_)
      refine WL.c rfl (o_as ?_)
      refine WL.nil ?_
      refine W.ret ?_
      refine ret1v rfl (show _ = Value.bool _ from rfl) ?_
      exact ⟨congrArg Value.bool (by simp), p, q, vb, bs, over, hb.ext hx77, (hx.tr hx77).mono (fun _ _ h => h.elim), NewB.refl _ _ _ _⟩
    · try simp only [decide_eq_true_eq, decide_eq_false_iff_not, Bool.not_eq_true', Bool.not_eq_false', Bool.and_eq_true, Bool.or_eq_true, Bool.and_eq_false_iff, Bool.or_eq_false_iff] at c41
      refine W.seq ?_
      refine W.region ?_
      refine WL.c rfl (o_eq rfl rfl ?_)
      refine WL.c rfl (o_as ?_)
      refine WL.nil ?_
      refine W.cond rfl (fun c79 => ?_) (fun c79 => ?_)
      · try simp only [decide_eq_true_eq, decide_eq_false_iff_not, Bool.not_eq_true', Bool.not_eq_false', Bool.and_eq_true, Bool.or_eq_true, Bool.and_eq_false_iff, Bool.or_eq_false_iff] at c79
        refine W.seq ?_
        refine W.region ?_
        refine WL.c rfl (o_mv ?_)
        refine WL.c rfl (o_call Try.call9 ln ((new_spec _).mono ?_))
        rintro v82 w82 ⟨rfl, hp82, hx82⟩
        have hbw3 := (Array.getElem?_eq_some_iff.1 hb.cell).1
        have hz82 := hx82.size
        have hcell := (hb.ext hx82).cell
        have hpl := (Array.getElem?_eq_some_iff.1 hp82).1
        refine WL.c rfl (o_nil rfl ?_)
        refine WL.c rfl (o_fa 0 TI30 rfl TI25 rfl rfl ?_)
        refine WL.u (o_stB TI25 rfl rfl rfl hcell (show _ < 2 by decide) ?_)
        intro w84 hcell84 ho84 hs84
        have hp84 : RdP w84 w3.heap.size [] false := ho84.blk hp82 (by show ¬ _ = _; omega)
        refine WL.nil ?_
        refine W.seq ?_
        refine W.region ?_
        refine WL.c rfl (o_mv ?_)
        refine WL.c rfl (o_call Try.call10 ln ((rnew_spec _).mono ?_))
        rintro v86 w86 ⟨rfl, hq86, hx86⟩
        replace hcell84 := hx86.blk hcell84 (fun h => h)
        have hp86 := RdP.ext hp84 hx86
        have hql := (Array.getElem?_eq_some_iff.1 hq86.1).1
        refine WL.c rfl (o_nil rfl ?_)
        refine WL.c rfl (o_fa 1 TI30 rfl TI27 rfl rfl ?_)
        refine WL.u (o_stB TI27 rfl rfl rfl hcell84 (show _ < 2 by decide) ?_)
        intro w88 hcell88 ho88 hs88
        have hz84 : w3.heap.size < w84.heap.size := by omega
        have hq88 := hq86.only ho88 (by show ¬ _ = _; omega) (fun j hj => by simp [Value.ownBlock] at hj)
        have hbn : Bt w88 H b w3.heap.size w84.heap.size (.slice none 0 0) [] false := ⟨hcell88, ho88.blk hp86 (by show ¬ _ = _; omega), ⟨hq88.1, own_mono hq88.2 (by omega)⟩, RdOk.new, hb.lob, by omega, by omega⟩
        have ho : Only (fun j => j = b) w0 w88 := ((((hx.tr hx82).mono (fun _ _ h => h.elim)).trans ho84).trans ((hx86.mono (fun _ _ h => h.elim)).trans ho88))
        refine WL.nil ?_
        refine W.seq ?_
        refine W.region ?_
        refine WL.c rfl (o_mv ?_)
        refine WL.c rfl (o_nil rfl ?_)
        refine WL.c rfl (o_fa 0 TI30 rfl TI25 rfl rfl ?_)
        refine WL.c rfl (o_ld TI25 rfl rfl (cell_of hbn.cell rfl) ?_)
        refine WL.c rfl (o_neN (p := some ⟨_, 0, none⟩) TI25 rfl rfl ?_)
        refine WL.c rfl (o_mv ?_)
        refine WL.g rfl (rfl) rfl (o_mv ?_)
        refine WL.g rfl (rfl) rfl (o_call Try.call12 (lc rfl ln) ((tells_spec b _ _ H _ [] false _ hbn.cell hbn.prog hbn.ref RdOk.new).mono ?_))
        rintro v96 w96 ⟨rfl, hx96⟩
        refine WL.c rfl (o_pickA rfl rfl ?_)
        refine WL.c rfl (o_as ?_)
        refine WL.nil ?_
        refine W.ret ?_
        refine ret1v rfl (show _ = Value.bool _ from rfl) ?_
        exact ⟨rfl, _, _, _, _, _, hbn.ext hx96, (ho.mono (fun _ _ h => .inl h)).trans (hx96.mono (fun _ _ h => h.elim)), .inr (by omega), .inr (by omega), fun k h => by simp [Value.ownBlock] at h⟩
      · try simp only [decide_eq_true_eq, decide_eq_false_iff_not, Bool.not_eq_true', Bool.not_eq_false', Bool.and_eq_true, Bool.or_eq_true, Bool.and_eq_false_iff, Bool.or_eq_false_iff] at c79
        refine W.seq ?_
        refine W.region ?_
        refine WL.c rfl (o_eq rfl rfl ?_)
        refine WL.c rfl (o_as ?_)
        refine WL.nil ?_
        refine W.cond rfl (fun c98 => ?_) (fun c98 => ?_)
        · try simp only [decide_eq_true_eq, decide_eq_false_iff_not, Bool.not_eq_true', Bool.not_eq_false', Bool.and_eq_true, Bool.or_eq_true, Bool.and_eq_false_iff, Bool.or_eq_false_iff] at c98
          refine W.seq ?_
          refine W.region ?_
          refine WL.c rfl (o_fa 3 TI34 rfl TI32 rfl rfl ?_)
          refine WL.c rfl (o_ld TI32 rfl rfl (cell_of hC3 rfl) ?_)
          refine WL.c rfl (o_call Try.call24 (lc rfl ln) ((lent_spec xs vB _ hB hxl).mono ?_))
          rintro v102 w102 ⟨g, cap, rfl, hown, hx102⟩
          have hB102 := own_front hown
          have hbw3 := (Array.getElem?_eq_some_iff.1 hb.cell).1
          have hg102 := hown.lt g rfl
          refine WL.c rfl (o_as ?_)
          refine WL.nil ?_
          refine W.seq ?_
          refine W.region ?_
          refine WL.c rfl (o_mv ?_)
          refine WL.c rfl (o_call Try.call18 (lc rfl ln) ((load_spec xs _ _ hB102 (by rw [maxLen_eq]; omega)).mono ?_))
          rintro v105 w105 ⟨rfl, hp105, hx105⟩
          have hz105 := hx105.size
          have hz102 := hx102.size
          refine WL.c rfl (o_mv ?_)
          refine WL.c rfl (o_ext rfl rfl ?_)
          refine WL.c rfl (o_ext rfl rfl ?_)
          refine WL.c rfl (o_as ?_)
          refine WL.c rfl (o_as ?_)
          refine WL.nil ?_
          refine W.seq ?_
          refine W.region ?_
          refine WL.c rfl (o_fa 3 TI34 rfl TI32 rfl rfl ?_)
          refine WL.c rfl (o_ld TI32 rfl rfl (cell_of ((hx102.tr hx105).blk hC3 (fun h => h)) rfl) ?_)
          refine WL.c rfl (o_call Try.call27 (lc rfl ln) ((rload_spec xs vB _ (hB.ext (hx102.tr hx105)) (by omega)).mono ?_))
          rintro v111 w111 ⟨rfl, hq111, hx111⟩
          have hxK := hx102.tr (hx105.tr hx111)
          refine WL.c rfl (o_mv ?_)
          refine WL.c rfl (o_ext rfl rfl ?_)
          refine WL.c rfl (o_ext rfl rfl ?_)
          refine WL.c rfl (o_as ?_)
          refine WL.c rfl (o_as ?_)
          refine WL.nil ?_
          refine W.seq ?_
          refine W.seq ?_
          by_cases he : (rload [] false xs).1 = 0
          · skip
            have hq112 := hq111 he
            clear hq111
            obtain ⟨vbn, hqn⟩ := hq112
            refine W.region ?_
            refine WL.c rfl (o_mv ?_)
            refine WL.c rfl (o_call Try.call16 (lc rfl ln) ((num_spec _ _).mono ?_))
            rintro v115 w115 ⟨rfl, rfl⟩
            refine WL.c rfl (o_mv ?_)
            refine WL.c rfl (o_ne rfl rfl ?_)
            refine WL.c rfl (o_mv ?_)
            refine WL.g rfl (by simp) rfl (o_mv ?_)
            refine WL.g rfl (by simp) rfl (o_neN TI25 (show _ = Value.pointer (pOf _ _) from rfl) rfl ?_)
            refine WL.g rfl (by simp) rfl (o_mv ?_)
            refine WL.g rfl (by simp) rfl (o_neN TI27 (show _ = Value.pointer (pOf _ _) from rfl) rfl ?_)
            refine WL.g rfl (by simp) rfl (o_neB TI4 rfl rfl ?_)
            refine WL.c rfl (o_pickO rfl rfl ?_)
            refine WL.c rfl (o_mv ?_)
            refine WL.g rfl (by simp [pOf, he]) rfl (o_mv ?_)
            refine WL.g rfl (by simp [pOf, he]) rfl (o_fa 3 TI34 rfl TI32 rfl rfl ?_)
            refine WL.g rfl (by simp [pOf, he]) rfl (o_ld TI32 rfl rfl (cell_of (hxK.blk hC3 (fun h => h)) rfl) ?_)
            refine WL.g rfl (by simp [pOf, he]) rfl (o_call Try.call26 (lc rfl (lc rfl ln)) ((kept_spec _ g cap xs vB _ (own_ext hown (hx105.tr hx111)) (hB.ext hxK) hxl).mono ?_))
            rintro v129 w129 ⟨rfl, ho129⟩
            have hxL : Ext w3 w129 := hxK.trans' ho129 (fun _ h => h) (fun j hj he => by omega)
            have hcellL := (hb.ext hxL).cell
            refine WL.g rfl (by simp [pOf, he]) rfl (o_not' rfl ?_)
            refine WL.c rfl (o_pickO rfl rfl ?_)
            refine WL.nil ?_
            refine W.condF' rfl (by simp [pOf, he]) ?_
            refine W.skip ?_
            refine W.seq ?_
            refine W.region ?_
            refine WL.c rfl (o_mv ?_)
            refine WL.c rfl (o_neN TI27 (show _ = Value.pointer (pOf _ _) from rfl) rfl ?_)
            refine WL.nil ?_
            refine W.condT' rfl (by simp [pOf, he]) ?_
            refine W.seq ?_
            refine W.region ?_
            refine WL.c rfl (o_mv ?_)
            refine WL.c rfl (o_mv ?_)
            refine WL.c rfl (o_nil rfl ?_)
            refine WL.c rfl (o_fa 0 TI30 rfl TI25 rfl rfl ?_)
            refine WL.u (o_stB TI25 rfl rfl rfl hcellL (show _ < 2 by decide) ?_)
            intro w137 hcell137 ho137 hs137
            refine WL.nil ?_
            refine W.seq ?_
            refine W.region ?_
            refine WL.c rfl (o_mv ?_)
            refine WL.c rfl (o_mv ?_)
            refine WL.c rfl (o_nil rfl ?_)
            refine WL.c rfl (o_fa 1 TI30 rfl TI27 rfl rfl ?_)
            refine WL.u (o_stB TI27 rfl rfl rfl hcell137 (show _ < 2 by decide) ?_)
            intro w141 hcell141 ho141 hs141
            have hpn := RdP.ext (hp105 he) hx111
            have hpl := (hp105 he).lt
            have hql := hqn.2.lt
            have hoB : Only (fun j => j = b) w129 w141 := ho137.trans ho141
            have hp129 := hpn.only ho129 (by show ¬ _ = _; omega)
            have hq129 := hqn.only ho129 (by show ¬ _ = _; omega) (fun j hj he => by have := (hql j hj).1; omega)
            have hq141 := hq129.only hoB (by show ¬ _ = _; omega) (fun j hj he => by have := (hql j hj).1; omega)
            have hcell2 : w141.heap[b]? = some (.cells #[.pointer (pOf (rload [] false xs).1 w102.heap.size), .pointer (pOf (rload [] false xs).1 w105.heap.size)] 30 (0, 0)) := hcell141
            rw [pOf, if_pos he, pOf, if_pos he] at hcell2
            have hokn := rload_ok xs [] false RdOk.new
            have hbn : Bt w141 H b w102.heap.size w105.heap.size vbn (rload [] false xs).2.1 (rload [] false xs).2.2 := ⟨hcell2, hp129.only hoB (by show ¬ _ = _; omega), ⟨hq141.1, own_mono hq141.2 (by omega)⟩, hokn, hb.lob, by omega, by omega⟩
            have ho : Only (fun j => j = b) w0 w141 := ((hx.tr hxL).mono (fun _ _ h => h.elim)).trans hoB
            refine WL.nil ?_
            refine W.seq ?_
            refine W.region ?_
            refine WL.c rfl (o_mv ?_)
            refine WL.c rfl (o_call Try.call12 (lc rfl ln) ((tells_spec b _ _ H _ _ _ _ hbn.cell hbn.prog hbn.ref hokn).mono ?_))
            rintro v143 w143 ⟨rfl, hx143⟩
            refine WL.c rfl (o_as ?_)
            refine WL.nil ?_
            refine W.ret ?_
            refine ret1v rfl (show _ = Value.bool _ from rfl) ?_
            exact ⟨rfl, _, _, _, _, _, hbn.ext hx143, (ho.mono (fun _ _ h => .inl h)).trans (hx143.mono (fun _ _ h => h.elim)), .inr (by omega), .inr (by omega), fun k h => .inr (by have := (hql k h).1; omega)⟩
          · skip
            refine W.region ?_
            refine WL.c rfl (o_mv ?_)
            refine WL.c rfl (o_call Try.call16 (lc rfl ln) ((num_spec _ _).mono ?_))
            rintro v115 w115 ⟨rfl, rfl⟩
            refine WL.c rfl (o_mv ?_)
            refine WL.c rfl (o_ne rfl rfl ?_)
            refine WL.c rfl (o_mv ?_)
            refine WL.g rfl (by simp) rfl (o_mv ?_)
            refine WL.g rfl (by simp) rfl (o_neN TI25 (show _ = Value.pointer (pOf _ _) from rfl) rfl ?_)
            refine WL.g rfl (by simp) rfl (o_mv ?_)
            refine WL.g rfl (by simp) rfl (o_neN TI27 (show _ = Value.pointer (pOf _ _) from rfl) rfl ?_)
            refine WL.g rfl (by simp) rfl (o_neB TI4 rfl rfl ?_)
            refine WL.c rfl (o_pickO rfl rfl ?_)
            refine WL.c rfl (o_mv ?_)
            refine WL.g rfl (by simp [pOf, he]) rfl (o_mv ?_)
            refine WL.g rfl (by simp [pOf, he]) rfl (o_fa 3 TI34 rfl TI32 rfl rfl ?_)
            refine WL.g rfl (by simp [pOf, he]) rfl (o_ld TI32 rfl rfl (cell_of (hxK.blk hC3 (fun h => h)) rfl) ?_)
            refine WL.g rfl (by simp [pOf, he]) rfl (o_call Try.call26 (lc rfl (lc rfl ln)) ((kept_spec _ g cap xs vB _ (own_ext hown (hx105.tr hx111)) (hB.ext hxK) hxl).mono ?_))
            rintro v129 w129 ⟨rfl, ho129⟩
            have hxL : Ext w3 w129 := hxK.trans' ho129 (fun _ h => h) (fun j hj he => by omega)
            have hcellL := (hb.ext hxL).cell
            refine WL.g rfl (by simp [pOf, he]) rfl (o_not' rfl ?_)
            refine WL.c rfl (o_pickO rfl rfl ?_)
            refine WL.nil ?_
            refine W.condF' rfl (by simp [pOf, he]) ?_
            refine W.skip ?_
            refine W.seq ?_
            refine W.region ?_
            refine WL.c rfl (o_mv ?_)
            refine WL.c rfl (o_neN TI27 (show _ = Value.pointer (pOf _ _) from rfl) rfl ?_)
            refine WL.nil ?_
            refine W.condF' rfl (by simp [pOf, he]) ?_
            refine W.skip ?_
            refine W.seq ?_
            refine W.region ?_
            refine WL.c rfl (o_as ?_)
            refine WL.nil ?_
            refine W.ret ?_
            refine ret1v rfl (show _ = Value.bool _ from rfl) ?_
            first
            | exact ⟨rfl, p, q, vb, bs, over, hb.ext hxL, (hx.tr hxL).mono (fun _ _ h => h.elim), NewB.refl _ _ _ _⟩
            | exact ⟨rfl, p, q, vb, bs, over, hb, hx.mono (fun _ _ h => h.elim), NewB.refl _ _ _ _⟩
        · try simp only [decide_eq_true_eq, decide_eq_false_iff_not, Bool.not_eq_true', Bool.not_eq_false', Bool.and_eq_true, Bool.or_eq_true, Bool.and_eq_false_iff, Bool.or_eq_false_iff] at c98
          refine W.seq ?_
          refine W.region ?_
          refine WL.c rfl (o_eq rfl rfl ?_)
          refine WL.c rfl (o_as ?_)
          refine WL.nil ?_
          refine W.cond rfl (fun c144 => ?_) (fun c144 => ?_)
          · try simp only [decide_eq_true_eq, decide_eq_false_iff_not, Bool.not_eq_true', Bool.not_eq_false', Bool.and_eq_true, Bool.or_eq_true, Bool.and_eq_false_iff, Bool.or_eq_false_iff] at c144
            refine W.seq ?_
            have hC3d := (Only.drew w3).blk hC3 (fun h => h)
            have hbd := hb.ext (Only.drew w3)
            have hxd := hx.tr (Only.drew w3)
            have hbb := hbd.bp
            have hHd : H ≤ w3.drew.heap.size := by have := hxd.size; omega
            refine W.drawM 6 rfl rfl rfl (Ext) [(0, fun v _ => v = _), (3, fun v _ => v = _)] rfl (by kernel_rfl) (Only.refl No) (fun _ _ _ h k => h.trans k) ⟨Mono.eq, Mono.eq, trivial⟩ ⟨rfl, rfl, trivial⟩ ?_
            refine WD.p rfl (fun e w hR hh => by obtain ⟨h0, -⟩ := hh; exact SG.n (o_mvh h0 ⟨rfl, Only.refl No _⟩)) ?_
            refine WD.p rfl (fun e w hR hh => by obtain ⟨h147, -⟩ := hh; exact SG.n (o_nil h147 ⟨rfl, Only.refl No _⟩)) ?_
            refine WD.p rfl (fun e w hR hh => by obtain ⟨h148, -⟩ := hh; exact SG.n (o_fa 0 TI30 rfl TI25 rfl h148 ⟨rfl, Only.refl No _⟩)) ?_
            refine WD.p rfl (fun e w hR hh => by obtain ⟨h149, -⟩ := hh; exact SG.n (o_ld TI25 rfl h149 (cell_of (hbd.ext hR).cell rfl) ⟨rfl, Only.refl No _⟩)) ?_
            refine WD.p rfl (fun e w hR hh => by obtain ⟨h3, -⟩ := hh; exact SG.n (o_fa 4 TI34 rfl TI5 rfl h3 ⟨rfl, Only.refl No _⟩)) ?_
            refine WD.p rfl (fun e w hR hh => by obtain ⟨h151, -⟩ := hh; exact SG.n (o_ld TI5 rfl h151 (cell_of (hR.blk hC3d (fun h => h)) rfl) ⟨rfl, Only.refl No _⟩)) ?_
            rintro e w hR ⟨h152, h151, h150, h149, h148, h147, h0, h3, -⟩
            have hbD := hbd.ext hR
            have hCD := hR.blk hC3d (fun h => h)
            have hxD := hxd.tr hR
            refine SG.n (o_call Try.call21 (lc h150 (lc h152 ln)) ((byte_spec p c bs over _ hbD.prog hbD.ok).mono ?_))
            rintro v153 w153 ⟨rfl, hp153, ho153⟩
            refine Rest.draw (fun a b => b = a) [(0, fun v _ => v = _), (3, fun v _ => v = _), (153, fun v _ => v = _)] (by kernel_rfl) (fun _ => rfl) (fun _ _ _ h k => k.trans h) ⟨Mono.eq, Mono.eq, Mono.eq, trivial⟩ ⟨h0, h3, rfl, trivial⟩ ?_
            refine WD.p rfl (fun e w hR hh => by obtain ⟨h153, -⟩ := hh; exact SG.n (o_mvh h153 ⟨rfl, rfl⟩)) ?_
            refine WD.p rfl (fun e w hR hh => by obtain ⟨h146, -⟩ := hh; exact SG.n (o_ext h146 rfl ⟨rfl, rfl⟩)) ?_
            refine WD.p rfl (fun e w hR hh => by obtain ⟨h146, -⟩ := hh; exact SG.n (o_ext h146 rfl ⟨rfl, rfl⟩)) ?_
            refine WD.p rfl (fun e w hR hh => by obtain ⟨h154, -⟩ := hh; exact SG.n (o_ash h154 ⟨rfl, rfl⟩)) ?_
            refine WD.p rfl (fun e w hR hh => by obtain ⟨h155, -⟩ := hh; exact SG.n (o_ash h155 ⟨rfl, rfl⟩)) ?_
            rintro e w hR ⟨h18, h17, h155, h154, h146, h0, h3, h153, -⟩
            subst hR
            refine W.seq ?_
            rename World => wQ
            have hbb := hbD.bp
            have hne : ¬ w0.heap.size = p := fun e => by have h1 := hbD.prog; unfold RdP at h1; rw [← e, hCD] at h1; simp at h1
            have hcd := (Only.drew wQ).blk (ho153.blk hbD.cell (by show ¬ _ = _; exact hbb.1)) (fun h => h)
            have hCd := (Only.drew wQ).blk (ho153.blk hCD (by show ¬ _ = _; exact hne)) (fun h => h)
            have hQd := (hbD.ref.only ho153 (by show ¬ _ = _; exact fun e => hbb.2.2.1 e.symm) (fun j hj e => hbb.2.2.2.2.1 (by rw [← e]; exact hj))).ext (Only.drew wQ)
            have hpd := RdP.ext hp153 (Only.drew wQ)
            have hHz : H ≤ wQ.drew.heap.size := by have h1 := ho153.size; have h2 := hxD.size; show H ≤ wQ.heap.size; omega
            refine W.drawM 6 rfl rfl rfl (Ext) [(0, fun v _ => v = _), (3, fun v _ => v = _), (17, fun v _ => v = _), (18, fun v _ => v = _)] rfl (by kernel_rfl) (Only.refl No) (fun _ _ _ h k => h.trans k) ⟨Mono.eq, Mono.eq, Mono.eq, Mono.eq, trivial⟩ ⟨h0, h3, h17, h18, trivial⟩ ?_
            refine WD.p rfl (fun e w hR hh => by obtain ⟨h0, -⟩ := hh; exact SG.n (o_mvh h0 ⟨rfl, Only.refl No _⟩)) ?_
            refine WD.p rfl (fun e w hR hh => by obtain ⟨h157, -⟩ := hh; exact SG.n (o_nil h157 ⟨rfl, Only.refl No _⟩)) ?_
            refine WD.p rfl (fun e w hR hh => by obtain ⟨h158, -⟩ := hh; exact SG.n (o_fa 1 TI30 rfl TI27 rfl h158 ⟨rfl, Only.refl No _⟩)) ?_
            refine WD.p rfl (fun e w hR hh => by obtain ⟨h159, -⟩ := hh; exact SG.n (o_ld TI27 rfl h159 (cell_of (hR.blk hcd (fun h => h)) rfl) ⟨rfl, Only.refl No _⟩)) ?_
            refine WD.p rfl (fun e w hR hh => by obtain ⟨h3, -⟩ := hh; exact SG.n (o_fa 4 TI34 rfl TI5 rfl h3 ⟨rfl, Only.refl No _⟩)) ?_
            refine WD.p rfl (fun e w hR hh => by obtain ⟨h161, -⟩ := hh; exact SG.n (o_ld TI5 rfl h161 (cell_of (hR.blk hCd (fun h => h)) rfl) ⟨rfl, Only.refl No _⟩)) ?_
            rintro e w hR ⟨h162, h161, h160, h159, h158, h157, h0, h3, h17, h18, -⟩
            have hcD := hR.blk hcd (fun h => h)
            have hQD := hQd.ext hR
            have hpD := RdP.ext hpd hR
            have hHD := Nat.le_trans hHz hR.size
            have hRR := hR
            refine SG.n (o_call Try.call28 (lc h160 (lc h162 ln)) ((rbyte_spec H q vb c bs over _ hQD hbd.ok hHD).mono ?_))
            rintro v163 w163 ⟨rfl, vb1, hQ1, hoQ, hnw⟩
            refine Rest.draw (fun a b => b = a) [(0, fun v _ => v = _), (3, fun v _ => v = _), (17, fun v _ => v = _), (18, fun v _ => v = _), (163, fun v _ => v = _)] (by kernel_rfl) (fun _ => rfl) (fun _ _ _ h k => k.trans h) ⟨Mono.eq, Mono.eq, Mono.eq, Mono.eq, Mono.eq, trivial⟩ ⟨h0, h3, h17, h18, rfl, trivial⟩ ?_
            refine WD.p rfl (fun e w hR hh => by obtain ⟨h163, -⟩ := hh; exact SG.n (o_mvh h163 ⟨rfl, rfl⟩)) ?_
            refine WD.p rfl (fun e w hR hh => by obtain ⟨h156, -⟩ := hh; exact SG.n (o_ext h156 rfl ⟨rfl, rfl⟩)) ?_
            refine WD.p rfl (fun e w hR hh => by obtain ⟨h156, -⟩ := hh; exact SG.n (o_ext h156 rfl ⟨rfl, rfl⟩)) ?_
            refine WD.p rfl (fun e w hR hh => by obtain ⟨h164, -⟩ := hh; exact SG.n (o_ash h164 ⟨rfl, rfl⟩)) ?_
            refine WD.p rfl (fun e w hR hh => by obtain ⟨h165, -⟩ := hh; exact SG.n (o_ash h165 ⟨rfl, rfl⟩)) ?_
            rintro e w hR ⟨h20, h19, h165, h164, h156, h0, h3, h17, h18, h163, -⟩
            subst hR
            refine W.seq ?_
            refine W.region ?_
            refine WL.c rfl (o_mvh h17 ?_)
            refine WL.c rfl (o_mvh h19 ?_)
            refine WL.c rfl (o_eqB TI4 rfl rfl ?_)
            refine WL.c rfl (o_mv ?_)
            refine WL.g rfl (by simp) rfl (o_mvh h18 ?_)
            refine WL.g rfl (by simp) rfl (o_call Try.call16 (lc rfl ln) ((num_spec _ _).mono ?_))
            rintro v171 w171 ⟨rfl, rfl⟩
            refine WL.g rfl (by simp) rfl (o_mvh h20 ?_)
            refine WL.g rfl (by simp) rfl (o_eq rfl rfl ?_)
            refine WL.c rfl (o_pickA rfl rfl ?_)
            refine WL.c rfl (o_as ?_)
            refine WL.nil ?_
            refine W.ret ?_
            refine ret1v rfl (show _ = Value.bool _ from rfl) ?_
            have hcell' := hoQ.blk hcD (by intro h; rcases h with h | h; exact hbb.2.1 h; exact hbb.2.2.2.1 h)
            have hprog' := hpD.only hoQ (by intro h; rcases h with h | h; exact hbb.2.2.1 h; exact hbb.2.2.2.2.1 h)
            have hsz1 := hxD.size
            have hsz2 := ho153.size
            have hsz3 : wQ.heap.size ≤ _ := hRR.size
            exact ⟨congrArg Value.bool (by simp), p, q, vb1, _, _, ⟨hcell', hprog', hQ1, hbd.ok.next c, hbd.lob, hbd.lop, hbd.loq⟩,
              ((hxD.mono (fun _ _ h => h.elim)).trans (ho153.mono (fun j _ h => .inr (.inl h)))).trans ((((Only.drew wQ).tr hRR).mono (fun _ _ h => h.elim)).trans (hoQ.mono (fun j _ h => h.elim (fun h => .inr (.inr (.inl h))) (fun h => .inr (.inr (.inr h)))))),
              .inl rfl, .inl rfl, fun k hk => (hnw k hk).imp id (fun h => by omega)⟩
          · try simp only [decide_eq_true_eq, decide_eq_false_iff_not, Bool.not_eq_true', Bool.not_eq_false', Bool.and_eq_true, Bool.or_eq_true, Bool.and_eq_false_iff, Bool.or_eq_false_iff] at c144
            refine W.seq ?_
            refine W.region ?_
            refine WL.c rfl (o_eq rfl rfl ?_)
            refine WL.c rfl (o_as ?_)
            refine WL.nil ?_
            refine W.cond rfl (fun c175 => ?_) (fun c175 => ?_)
            · try simp only [decide_eq_true_eq, decide_eq_false_iff_not, Bool.not_eq_true', Bool.not_eq_false', Bool.and_eq_true, Bool.or_eq_true, Bool.and_eq_false_iff, Bool.or_eq_false_iff] at c175
              refine W.seq ?_
              refine W.region ?_
              refine WL.c rfl (o_mv ?_)
              refine WL.c rfl (o_call Try.call12 (lc rfl ln) ((tells_spec b p q H vb bs over _ hb.cell hb.prog hb.ref hb.ok).mono ?_))
              rintro v178 w178 ⟨rfl, hx178⟩
              refine WL.c rfl (o_as ?_)
              refine WL.nil ?_
              refine W.ret ?_
              refine ret1v rfl (show _ = Value.bool _ from rfl) ?_
              exact ⟨rfl, p, q, vb, bs, over, hb.ext hx178, (hx.tr hx178).mono (fun _ _ h => h.elim), NewB.refl _ _ _ _⟩
            · try simp only [decide_eq_true_eq, decide_eq_false_iff_not, Bool.not_eq_true', Bool.not_eq_false', Bool.and_eq_true, Bool.or_eq_true, Bool.and_eq_false_iff, Bool.or_eq_false_iff] at c175
              refine W.skip ?_
              refine W.seq ?_
              refine W.region ?_
              refine WL.c rfl (o_as ?_)
              refine WL.nil ?_
              refine W.ret ?_
              refine ret1v rfl (show _ = Value.bool _ from rfl) ?_
              first
              | exact ⟨rfl, p, q, vb, bs, over, hb.ext hxL, (hx.tr hxL).mono (fun _ _ h => h.elim), NewB.refl _ _ _ _⟩
              | exact ⟨rfl, p, q, vb, bs, over, hb, hx.mono (fun _ _ h => h.elim), NewB.refl _ _ _ _⟩
end Go.Proofs.Ytieldjpbempkcaa
