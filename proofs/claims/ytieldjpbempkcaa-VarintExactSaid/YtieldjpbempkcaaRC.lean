/-
  Walks. Written by program out of specs of mine.
-/
import Derived.Test.YtieldjpbempkcaaRB
set_option linter.unusedSimpArgs false
set_option linter.unusedVariables false
namespace Go.Proofs.Ytieldjpbempkcaa
open Go Go.Vc Go.RowKit Go.Proofs

theorem sliced0 {g h c s : Nat} : sliced (some ⟨g, 0, none⟩) 0 h c s = .slice (some ⟨g, 0, none⟩) h c := by unfold sliced; simp [add_none]
theorem by_pre {w : World} {v : Value} {xs ys : List UInt8} (h : Sl w 1 v (xs.length - 0) ((((xs ++ ys).map bv).drop (0 * 1)).take ((xs.length - 0) * 1))) : By w v xs := by
  simp only [Nat.zero_mul, List.drop_zero, Nat.sub_zero, Nat.mul_one, List.map_append] at h
  have : (xs.map bv ++ ys.map bv).take xs.length = xs.map bv := by rw [List.take_append_of_le_length (by simp), List.take_of_length_le (by simp)]
  rw [this] at h; exact h
theorem marks_one : ∀ a ∈ ([90, 128] : List UInt8).map bv, a.oneCell' = true := one_bv

theorem lent_spec (xs : List UInt8) (v : Value) (w0 : World) (hB : By w0 v xs) (hlen : xs.length ≤ 140737488351232) : Ca Try.prog 24 #[v] w0 (fun r w' => ∃ g cap, r = .slice (some ⟨g, 0, none⟩) xs.length cap ∧ w'.ownsRow w0.heap.size 5 1 (.slice (some ⟨g, 0, none⟩) (xs.length + 2) cap) (xs.length + 2) ((xs ++ [90, 128]).map bv) ∧ Ext w0 w') := by
  refine Ca.of Try.func24 Try.ntmps24 rfl rfl ?_
  refine W.seq ?_
  refine W.region ?_
  refine WL.c rfl (o_as ?_)
  refine WL.nil ?_
  refine W.seq ?_
  refine W.region ?_
  refine WL.c rfl (o_mv ?_)
  refine WL.c rfl (o_apO (w0.heap.size) TI32 TI5 (show _ = Value.slice _ _ _ from rfl) rfl (World.ownsRow_nil _ _ _ _) hB rfl (by decide) one_bv (by rw [maxLen_eq]; omega) (by omega) (Nat.le_refl _) ?_)
  intro v4 w4 hown4 ho4 hb4 hk4
  rw [Nat.zero_add, List.nil_append] at hown4
  have hx4 : Ext w0 w4 := ho4.mono (fun j _ h => by cases h)
  have hl4 := hown4.lt
  refine WL.c rfl (o_bsn (vs := [bv 90, bv 128]) (xs := [(.const (.int .u8 90)), (.const (.int .u8 128))]) TI32 TI5 rfl (lc (show _ = Value.int _ _ from rfl) (lc (show _ = Value.int _ _ from rfl) ln)) rfl rfl (by decide) (by decide) ?_)
  have hbl : (w4.alloc (Obj.cells [bv 90, bv 128].toArray 5)).heap[w4.heap.size]? = some (.cells [bv 90, bv 128].toArray 5 (0, 0)) := heap_alloc_new _ _
  have hxl := Only.alloc w4 (Obj.cells [bv 90, bv 128].toArray 5)
  generalize w4.alloc (Obj.cells [bv 90, bv 128].toArray 5) = w5 at hbl hxl ⊢
  replace hown4 := own_ext hown4 hxl
  have hl5 : w5.ownsRow w4.heap.size 5 1 (.slice (some ⟨w4.heap.size, 0, none⟩) 2 2) 2 (([90, 128] : List UInt8).map bv) := ⟨rfl, .inr ⟨_, _, _, rfl, Nat.le_refl _, hbl, by omega, by rw [maxLen_eq]; omega, rfl, rfl⟩⟩
  have hz5 := (hx4.tr hxl).size
  refine WL.c rfl (o_apO (w0.heap.size) TI32 TI5 (show _ = v4 from rfl) (show _ = Value.slice _ _ _ from rfl) hown4 (Sl.own hl5) rfl (by decide) marks_one (by rw [maxLen_eq]; omega) (by omega) hz5 ?_)
  intro v6 w6 hown6 ho6 hb6 hk6
  have hx6 := Ext.many (hx4.tr hxl) (Nat.le_refl _) ho6 (fun k hk => (hl4 k hk).1)
  obtain ⟨g, cap, hv6, -⟩ := own_some hown6 (by omega)
  subst hv6
  have hB6 := hB.ext hx6
  obtain ⟨cap', cur', hvv, hg0, -, hnc, -, -, -⟩ := own_blk hown6 rfl
  refine WL.c rfl (o_mv ?_)
  refine WL.c rfl (o_lenR TI32 rfl hB6 ?_)
  refine WL.c rfl (o_slv TI32 TI5 rfl Lo.n (Hi.s rfl) (Nat.zero_le _) (by simp only [Value.slice.injEq] at hvv; omega) ?_)
  rw [sliced0]
  refine WL.c rfl (o_as ?_)
  refine WL.nil ?_
  refine W.ret ?_
  refine ret1v rfl rfl ?_
  exact ⟨g, cap, rfl, by rw [List.map_append]; exact hown6, hx6⟩
theorem kept_spec (H g cap : Nat) (xs : List UInt8) (v : Value) (w0 : World) (hown : w0.ownsRow H 5 1 (.slice (some ⟨g, 0, none⟩) (xs.length + 2) cap) (xs.length + 2) ((xs ++ [90, 128]).map bv)) (hB : By w0 v xs) (hlen : xs.length ≤ 140737488351232) : Ca Try.prog 26 #[.slice (some ⟨g, 0, none⟩) xs.length cap, v] w0 (fun r w' => r = .bool true ∧ Only (fun j => j = g) w0 w') := by
  obtain ⟨cap', cur', hvv, hg0, -, hnc, -, -, -⟩ := own_blk hown rfl
  have hcap : xs.length + 2 ≤ cap := by simp only [Value.slice.injEq] at hvv; omega
  refine Ca.of Try.func26 Try.ntmps26 rfl rfl ?_
  refine W.seq ?_
  refine W.region ?_
  refine WL.c rfl (o_as ?_)
  refine WL.nil ?_
  refine W.seq ?_
  refine W.region ?_
  refine WL.c rfl (o_mv ?_)
  refine WL.c rfl (o_mv ?_)
  refine WL.c rfl (o_lenR TI32 rfl hB ?_)
  refine WL.c rfl (o_addi rfl rfl (by omega) ?_)
  refine WL.c rfl (o_slv TI32 TI5 rfl Lo.n (Hi.s rfl) (Nat.zero_le _) (by show xs.length + 2 ≤ cap; exact hcap) ?_)
  rw [sliced0]
  refine WL.c rfl (o_as ?_)
  refine WL.nil ?_
  refine W.seq ?_
  have hall := Sl.own hown
  have hget : ∀ i (h : i < xs.length + 2), ((xs ++ [90, 128]).map bv)[i]? = some (bv ((xs ++ [90, 128])[i]'(by simp; omega))) := fun i h => getbv (by simp; omega)
  refine W.region ?_
  refine WL.cut (fun e1 w1 => e1 6 = .bool true ∧ e1 5 = .slice (some ⟨g, 0, none⟩) (xs.length + 2) cap ∧ w1 = w0) ?_ ?_
  · -- region 2
    refine WL.c rfl (o_mv ?_)
    refine WL.c rfl (o_mv ?_)
    refine WL.c rfl (o_lenR TI32 rfl hB ?_)
    refine WL.c rfl (o_sl TI32 TI5 rfl (show Sl w0 1 _ (xs.length + 2) _ from hall) Lo.n (Hi.s rfl) (Nat.zero_le _) (by omega) ?_)
    intro v16 hb16 hS16
    have hB16 : By w0 v16 xs := by_pre hS16
    refine WL.c rfl (o_mv ?_)
    refine WL.c rfl (o_call Try.call17 (lc rfl (lc rfl ln)) ((same_spec _ _ _ _ _ hB16 hB).mono ?_))
    rintro v18 w18 ⟨rfl, rfl⟩
    refine WL.c rfl (o_mv ?_)
    refine WL.g rfl (by simp) rfl (o_mv ?_)
    refine WL.g rfl (by simp) rfl (o_mv ?_)
    refine WL.g rfl (by simp) rfl (o_lenR TI32 rfl hB ?_)
    refine WL.g rfl (by simp) rfl (o_ix1 TI32 TI5 rfl rfl (show Sl _ 1 _ (xs.length + 2) _ from hall) (by omega) ?_)
    intro b23 o23 hc23 hb23
    refine WL.g rfl (by simp) rfl (o_ld TI5 rfl rfl (hc23.trans (hget _ (by omega))) ?_)
    refine WL.g rfl (by simp) rfl (o_eq rfl rfl ?_)
    refine WL.c rfl (o_pickA rfl rfl ?_)
    refine WL.c rfl (o_mv ?_)
    refine WL.g rfl (by simp [bv]) rfl (o_mv ?_)
    refine WL.g rfl (by simp [bv]) rfl (o_mv ?_)
    refine WL.g rfl (by simp [bv]) rfl (o_lenR TI32 rfl hB ?_)
    refine WL.g rfl (by simp [bv]) rfl (o_addi rfl rfl (by omega) ?_)
    refine WL.g rfl (by simp [bv]) rfl (o_ix1 (i := xs.length + 1) TI32 TI5 rfl rfl (show Sl _ 1 _ (xs.length + 2) _ from hall) (by omega) ?_)
    intro b32 o32 hc32 hb32
    refine WL.g rfl (by simp [bv]) rfl (o_ld TI5 rfl rfl (hc32.trans (hget _ (by omega))) ?_)
    refine WL.g rfl (by simp [bv]) rfl (o_eq rfl rfl ?_)
    refine WL.c rfl (o_pickA rfl rfl ?_)
    refine WL.c rfl (o_as ?_)
    exact WL.nil (⟨congrArg Value.bool (by simp [bv]), rfl, rfl⟩)
  rintro e w ⟨h6, h5, hw⟩
  refine W.seq ?_
  refine W.seq ?_
  refine W.region ?_
  refine WL.c rfl (o_as ?_)
  refine WL.nil ?_
  refine W.block ?_
  refine W.loop (fun e w => ∃ (k : Nat) (ys : List Value), k ≤ xs.length + 2 ∧ e 5 = .slice (some ⟨g, 0, none⟩) (xs.length + 2) cap ∧ e 6 = .bool true ∧ e 7 = .int .i64 (k : Int) ∧ w.ownsRow H 5 1 (.slice (some ⟨g, 0, none⟩) (xs.length + 2) cap) (xs.length + 2) ys ∧ Only (fun j => j = g) w0 w) (fun e w => xs.length + 2 - (intOf (e 7)).toNat) ?_ ?_
  · exact ⟨0, _, Nat.zero_le _, h5, h6, rfl, by rw [hw]; exact hown, by rw [hw]; exact Only.refl _ _⟩
  rintro e w ⟨k, ys, hk, h5, h6, h7, hwn, ho⟩
  have hm7 := h7
  refine W.seq ?_
  refine W.seq ?_
  by_cases hk1 : k < xs.length + 2
  · skip
    refine W.region ?_
    refine WL.c rfl (o_mvh h7 ?_)
    refine WL.c rfl (o_mvh h5 ?_)
    refine WL.c rfl (o_len TI32 rfl ?_)
    refine WL.c rfl (o_lt rfl rfl ?_)
    refine WL.nil ?_
    refine W.condT' rfl (by simp; omega) ?_
    refine W.skip ?_
    refine W.seq ?_
    refine W.block ?_
    refine W.region ?_
    refine WL.c rfl (o_mvh h5 ?_)
    refine WL.c rfl (o_mvh h7 ?_)
    refine WL.c rfl (o_ixB TI32 TI5 rfl rfl (hk1) ?_)
    refine WL.u (o_stR1 (i := k) TI5 rfl (by omega) (show _ = Value.int _ _ from rfl) rfl hwn rfl hk1 ?_)
    intro w44 hwn44 ho44 hs44
    refine WL.nil ?_
    refine W.region ?_
    refine WL.c rfl (o_mvh h7 ?_)
    refine WL.c rfl (o_addi rfl rfl (by omega) ?_)
    refine WL.c rfl (o_as ?_)
    refine WL.nil ?_
    refine ⟨⟨k + 1, _, by omega, h5, h6, rfl, hwn44, ho.trans (ho44.mono (fun j _ h => by simp [Value.ownBlock] at h; omega))⟩, ?_⟩
    show xs.length + 2 - ((k : Int) + 1).toNat < _
    rw [hm7]; simp [intOf]; omega
  · skip
    refine W.region ?_
    refine WL.c rfl (o_mvh h7 ?_)
    refine WL.c rfl (o_mvh h5 ?_)
    refine WL.c rfl (o_len TI32 rfl ?_)
    refine WL.c rfl (o_lt rfl rfl ?_)
    refine WL.nil ?_
    refine W.condF' rfl (by simp; omega) ?_
    refine W.exit ?_
    refine W.seq ?_
    refine W.region ?_
    refine WL.c rfl (o_mvh h6 ?_)
    refine WL.c rfl (o_as ?_)
    refine WL.nil ?_
    refine W.ret ?_
    refine ret1v rfl (show _ = Value.bool _ from rfl) ?_
    exact ⟨rfl, ho⟩
set_option maxHeartbeats 1000000 in
theorem tells_spec (b p q H : Nat) (vb : Value) (bs : List UInt8) (over : Bool) (w0 : World) (hb : w0.heap[b]? = some (.cells #[.pointer (some ⟨p, 0, none⟩), .pointer (some ⟨q, 0, none⟩)] 30 (0, 0))) (hr : RdP w0 p bs over) (hQ : RRd w0 H q vb bs over) (ho : RdOk bs over) : Ca Try.prog 12 #[.pointer (some ⟨b, 0, none⟩)] w0 (fun v w' => v = .bool true ∧ Ext w0 w') := by
  have hl10 := ho.len
  refine Ca.of Try.func12 Try.ntmps12 rfl rfl ?_
  refine W.seq ?_
  refine W.region ?_
  refine WL.c rfl (o_as ?_)
  refine WL.nil ?_
  refine W.seq ?_
  refine W.seq ?_
  refine W.region ?_
  refine WL.c rfl (o_as ?_)
  refine WL.nil ?_
  refine W.block ?_
  refine W.loop (fun e w => ∃ t : Nat, t ≤ 2 ∧ e 0 = .pointer (some ⟨b, 0, none⟩) ∧ e 3 = .int .i64 (t : Int) ∧ Ext w0 w) (fun e w => 2 - (intOf (e 3)).toNat) ?_ ?_
  · exact ⟨0, by omega, rfl, rfl, Only.refl No _⟩
  rintro e w ⟨t, ht, h0, h3, hx⟩
  have hm3 := h3
  refine W.seq ?_
  refine W.seq ?_
  by_cases ht2 : t < 2
  · skip
    refine W.region ?_
    refine WL.c rfl (o_mvh h3 ?_)
    refine WL.c rfl (o_lt rfl rfl ?_)
    refine WL.nil ?_
    refine W.condT' rfl (by simp; omega) ?_
    refine W.skip ?_
    refine W.seq ?_
    refine W.block ?_
    refine W.seq ?_
    refine W.region ?_
    refine WL.c rfl (o_mvh h0 ?_)
    refine WL.c rfl (o_nil rfl ?_)
    refine WL.c rfl (o_fa 0 TI30 rfl TI25 rfl rfl ?_)
    refine WL.c rfl (o_ld TI25 rfl rfl (cell_of (hx.blk hb (fun h => h)) rfl) ?_)
    refine WL.c rfl (o_call Try.call19 (lc rfl ln) ((read_spec p bs over _ (RdP.ext hr hx) ho).mono ?_))
    rintro v14 w14 hf14
    have hxz := hx.size
    have hx14 := hx.tr hf14.2
    refine WL.c rfl (o_as ?_)
    refine WL.nil ?_
    refine W.seq ?_
    refine W.seq ?_
    have hbd := (hx14.tr (Only.drew w14)).blk hb (fun h => h)
    have hrd := RdP.ext hr (hx14.tr (Only.drew w14))
    have hQd := hQ.ext (hx14.tr (Only.drew w14))
    have hX := own_ext hf14.1 (Only.drew w14)
    have hXd := Sl.own hX
    have hxd := hx14.tr (Only.drew w14)
    refine W.draw (Ext) [(0, fun v _ => v = _), (3, fun v _ => v = _), (4, fun v _ => v = _)] rfl (by kernel_rfl) (Only.refl No) (fun _ _ _ h k => h.trans k) ⟨Mono.eq, Mono.eq, Mono.eq, trivial⟩ ⟨h0, h3, rfl, trivial⟩ ?_
    refine WD.p rfl (fun e w hR hh => by obtain ⟨h0, -⟩ := hh; exact SG.n (o_mvh h0 ⟨rfl, Only.refl No _⟩)) ?_
    refine WD.p rfl (fun e w hR hh => by obtain ⟨h15, -⟩ := hh; exact SG.n (o_nil h15 ⟨rfl, Only.refl No _⟩)) ?_
    refine WD.p rfl (fun e w hR hh => by obtain ⟨h16, -⟩ := hh; exact SG.n (o_fa 0 TI30 rfl TI25 rfl h16 ⟨rfl, Only.refl No _⟩)) ?_
    refine WD.p rfl (fun e w hR hh => by obtain ⟨h17, -⟩ := hh; exact SG.n (o_ld TI25 rfl h17 (cell_of (hR.blk hbd (fun h => h)) rfl) ⟨rfl, Only.refl No _⟩)) ?_
    refine WD.p rfl (fun e w hR hh => by obtain ⟨h18, -⟩ := hh; exact SG.n (o_call Try.call20 (lc h18 ln) ((n_spec p bs over _ (RdP.ext hrd hR) ho).mono (fun v w' ⟨h1, m, h2⟩ => ⟨h1, by rw [h2]; exact Only.drewN _ m⟩)))) ?_
    refine WD.p rfl (fun e w hR hh => by obtain ⟨h0, -⟩ := hh; exact SG.n (o_mvh h0 ⟨rfl, Only.refl No _⟩)) ?_
    refine WD.p rfl (fun e w hR hh => by obtain ⟨h20, -⟩ := hh; exact SG.n (o_nil h20 ⟨rfl, Only.refl No _⟩)) ?_
    refine WD.p rfl (fun e w hR hh => by obtain ⟨h21, -⟩ := hh; exact SG.n (o_fa 1 TI30 rfl TI27 rfl h21 ⟨rfl, Only.refl No _⟩)) ?_
    refine WD.p rfl (fun e w hR hh => by obtain ⟨h22, -⟩ := hh; exact SG.n (o_ld TI27 rfl h22 (cell_of (hR.blk hbd (fun h => h)) rfl) ⟨rfl, Only.refl No _⟩)) ?_
    refine WD.p rfl (fun e w hR hh => by obtain ⟨h23, -⟩ := hh; exact SG.n (o_call Try.call29 (lc h23 ln) ((rn_spec H q vb bs over _ (hQd.ext hR) ho).mono (fun v w' ⟨h1, h2⟩ => ⟨h1, by rw [h2]; exact Only.refl No _⟩)))) ?_
    refine WD.p rfl (fun e w hR hh => by obtain ⟨h24, h19, -⟩ := hh; exact SG.n (o_ne h19 h24 ⟨rfl, Only.refl No _⟩)) ?_
    refine WD.p rfl (fun e w hR hh => by obtain ⟨h25, -⟩ := hh; exact SG.n (o_mvh h25 ⟨rfl, Only.refl No _⟩)) ?_
    refine WD.p rfl (fun e w hR hh => by obtain ⟨h26, h4, -⟩ := hh; exact SG.g h26 (by simp) (o_mvh h4 ⟨rfl, Only.refl No _⟩)) ?_
    refine WD.p rfl (fun e w hR hh => by obtain ⟨h26, h0, -⟩ := hh; exact SG.g h26 (by simp) (o_mvh h0 ⟨rfl, Only.refl No _⟩)) ?_
    refine WD.p rfl (fun e w hR hh => by obtain ⟨h28, h26, -⟩ := hh; exact SG.g h26 (by simp) (o_nil h28 ⟨rfl, Only.refl No _⟩)) ?_
    refine WD.p rfl (fun e w hR hh => by obtain ⟨h29, h26, -⟩ := hh; exact SG.g h26 (by simp) (o_fa 1 TI30 rfl TI27 rfl h29 ⟨rfl, Only.refl No _⟩)) ?_
    refine WD.p rfl (fun e w hR hh => by obtain ⟨h30, h26, -⟩ := hh; exact SG.g h26 (by simp) (o_ld TI27 rfl h30 (cell_of (hR.blk hbd (fun h => h)) rfl) ⟨rfl, Only.refl No _⟩)) ?_
    refine WD.q (fun u w => By w u bs) (fun _ _ _ hR h => h.ext hR) rfl (fun e w hR hh => by obtain ⟨h31, h26, -⟩ := hh; exact SG.g h26 (by simp) (o_call Try.call30 (lc h31 ln) ((rread_spec H q vb bs over _ (hQd.ext hR) ho).mono (fun v w' h => ⟨h.by, h.2⟩)))) ?_
    refine WD.p rfl (fun e w hR hh => by obtain ⟨h32, h27, h26, -⟩ := hh; exact SG.g h26 (by simp) (o_call Try.call17 (lc h27 (lc rfl ln)) ((same_spec _ _ _ _ _ (hXd.ext hR) h32).mono (fun v w' ⟨h1, h2⟩ => ⟨h1, by rw [h2]; exact Only.refl No _⟩)))) ?_
    refine WD.p rfl (fun e w hR hh => by obtain ⟨h33, h26, -⟩ := hh; exact SG.g h26 (by simp) (o_not' h33 ⟨rfl, Only.refl No _⟩)) ?_
    refine WD.p rfl (fun e w hR hh => by obtain ⟨h34, h26, -⟩ := hh; exact SG.n (o_pickO h26 h34 ⟨rfl, Only.refl No _⟩)) ?_
    rintro e w hR ⟨h35, h34, h33, h32, h31, h30, h29, h28, h27, h26, h25, h24, h23, h22, h21, h20, h19, h18, h17, h16, h15, h0, h3, h4, -⟩
    have hX5 := own_ext hX hR
    have hx5 := hxd.tr hR
    refine W.condF' h35 (by simp) ?_
    refine W.skip ?_
    refine W.seq ?_
    refine W.seq ?_
    refine W.region ?_
    refine WL.c rfl (o_as ?_)
    refine WL.nil ?_
    refine W.block ?_
    refine W.loop (fun e w => ∃ (i : Nat) (ys : List Value), i ≤ bs.length ∧ e 0 = .pointer (some ⟨b, 0, none⟩) ∧ e 3 = .int .i64 (t : Int) ∧ e 4 = v14 ∧ e 5 = .int .i64 (i : Int) ∧ w.ownsRow w0.heap.size 5 1 v14 bs.length ys ∧ Ext w0 w) (fun e w => bs.length - (intOf (e 5)).toNat) ?_ ?_
    · exact ⟨0, _, Nat.zero_le _, h0, h3, h4, rfl, own_mono hX5 hxz, hx5⟩
    rintro e w ⟨i, ys, hi, h0, h3, h4, h5, hX2, hx2⟩
    have hm5 := h5
    have h4v := h4
    refine W.seq ?_
    refine W.seq ?_
    by_cases hi2 : i < bs.length
    · skip
      refine W.region ?_
      refine WL.c rfl (o_mvh h5 ?_)
      refine WL.c rfl (o_mvh h4 ?_)
      refine WL.c rfl (o_lenR TI32 rfl (Sl.own hX2) ?_)
      refine WL.c rfl (o_lt rfl rfl ?_)
      refine WL.nil ?_
      refine W.condT' rfl (by simp; omega) ?_
      refine W.skip ?_
      refine W.seq ?_
      refine W.block ?_
      obtain ⟨gx, cx, hvx, hbx⟩ := own_some hX2 (by omega)
      rw [hvx] at h4
      refine W.region ?_
      refine WL.c rfl (o_mvh h4 ?_)
      refine WL.c rfl (o_mvh h5 ?_)
      refine WL.c rfl (o_ixB TI32 TI5 rfl rfl (hi2) ?_)
      refine WL.u (o_stR1 (i := i) TI5 rfl (by omega) (show _ = Value.int _ _ from rfl) rfl hX2 hbx hi2 ?_)
      intro w44 hX44 ho44 hs44
      refine WL.nil ?_
      refine W.region ?_
      refine WL.c rfl (o_mvh h5 ?_)
      refine WL.c rfl (o_addi rfl rfl (by omega) ?_)
      refine WL.c rfl (o_as ?_)
      refine WL.nil ?_
      refine ⟨⟨i + 1, _, by omega, h0, h3, h4v, rfl, hX44, Ext.many hx2 (Nat.le_refl _) ho44 (fun k hk => (hX2.lt k hk).1)⟩, ?_⟩
      show bs.length - ((i : Int) + 1).toNat < _
      rw [hm5]; simp [intOf]; omega
    · skip
      refine W.region ?_
      refine WL.c rfl (o_mvh h5 ?_)
      refine WL.c rfl (o_mvh h4 ?_)
      refine WL.c rfl (o_lenR TI32 rfl (Sl.own hX2) ?_)
      refine WL.c rfl (o_lt rfl rfl ?_)
      refine WL.nil ?_
      refine W.condF' rfl (by simp; omega) ?_
      refine W.exit ?_
      refine W.region ?_
      refine WL.c rfl (o_mvh h4 ?_)
      refine WL.apO (w0.heap.size) rfl rfl TI32 TI5 (show _ = Value.int _ _ from rfl) (show _ = v14 from rfl) hX2 (by decide) (by decide) rfl (one1 rfl) rfl (by rw [maxLen_eq]; omega) (by omega) hx2.size ?_
      intro v47 w47 hX47 ho47 hb47 hk47
      have hx47 := Ext.many hx2 (Nat.le_refl _) ho47 (fun k hk => (hX2.lt k hk).1)
      refine WL.c rfl (o_as ?_)
      refine WL.nil ?_
      refine W.region ?_
      refine WL.c rfl (o_mvh h3 ?_)
      refine WL.c rfl (o_addi rfl rfl (by omega) ?_)
      refine WL.c rfl (o_as ?_)
      refine WL.nil ?_
      refine ⟨⟨t + 1, by omega, h0, rfl, hx47⟩, ?_⟩
      show 2 - ((t : Int) + 1).toNat < _
      rw [hm3]; simp [intOf]; omega
  · skip
    refine W.region ?_
    refine WL.c rfl (o_mvh h3 ?_)
    refine WL.c rfl (o_lt rfl rfl ?_)
    refine WL.nil ?_
    refine W.condF' rfl (by simp; omega) ?_
    refine W.exit ?_
    refine W.seq ?_
    refine W.region ?_
    refine WL.c rfl (o_as ?_)
    refine WL.nil ?_
    refine W.ret ?_
    refine ret1v rfl (show _ = Value.bool _ from rfl) ?_
    exact ⟨rfl, hx⟩
end Go.Proofs.Ytieldjpbempkcaa
