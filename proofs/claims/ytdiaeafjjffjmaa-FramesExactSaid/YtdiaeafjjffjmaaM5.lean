/-
  Walks. Written by program out of specs of mine.
-/
import Derived.Test.YtdiaeafjjffjmaaM4
import Derived.Test.YtdiaeafjjffjmaaM3
set_option linter.unusedSimpArgs false
set_option linter.unusedVariables false
set_option maxRecDepth 100000
namespace Go.Proofs.Ytdiaeafjjffjmaa
open Go Go.Vc Go.RowKit Go.Proofs
set_option maxHeartbeats 1000000 in
theorem rsave_spec (H p most high : Nat) (L : List Fr) (lv : Value) (V : Nat → Value) (w0 : World) (h : RStk w0 H p most high L lv V) (hw : ∀ f ∈ L, fwhole f = true) (hh : high ≤ 1048576) (sv : List UInt8) (hsv : sv = saved most high L) : Ca Try.prog 67 #[.pointer (some ⟨p, 0, none⟩)] w0 (fun v w' => w'.ownsRow w0.heap.size 5 1 v sv.length (sv.map bv) ∧ Ext w0 w') := by
  have hmb := h.mb
  have hlen := h.len
  have hplt := (h.lt p (.inl rfl)).2
  have hrk00 : ∀ k (hk : k < L.length), w0.ownsRow H 3 1 (V k) L[k].tab.length (ints L[k].tab) := fun k hk => by have := h.rows.tabs.row k hk; simp only [tabl, List.getD_eq_getElem?_getD, List.getElem?_eq_getElem hk, Option.getD_some] at this; exact this
  refine Ca.of Try.func67 Try.ntmps67 rfl rfl ?_
  refine W.seq ?_
  refine W.region ?_
  refine WL.c rfl (o_ash (by first | exact (show _ = Value.slice _ _ _ from rfl) | exact rfl) ?_)
  refine WL.nil ?_
  refine W.seq ?_
  refine W.region ?_
  refine WL.c rfl (o_bs1 TI23 TI5 (show _ = Value.int _ _ from rfl) (by decide) (by decide) rfl ?_)
  have hr7 : (w0.alloc (.cells (Value.int .u8 102).cells 5)).ownsRow w0.heap.size 5 1 (.slice (some ⟨w0.heap.size, 0, none⟩) 1 1) [(102 : UInt8)].length ([(102 : UInt8)].map bv) := own_new1 rfl
  have hx7 : Ext w0 (w0.alloc (.cells (Value.int .u8 102).cells 5)) := Only.alloc w0 _
  have hs7 : (w0.alloc (.cells (Value.int .u8 102).cells 5)).heap.size = w0.heap.size + 1 := by simp
  generalize w0.alloc (.cells (Value.int .u8 102).cells 5) = w7 at *
  obtain ⟨X0, hX0⟩ : ∃ x, x = [(102 : UInt8)] := ⟨_, rfl⟩
  obtain ⟨X1, hX1⟩ : ∃ x, x = X0 ++ vI (most : Int) := ⟨_, rfl⟩
  obtain ⟨X2, hX2⟩ : ∃ x, x = X1 ++ vI (L.length : Int) := ⟨_, rfl⟩
  obtain ⟨X3, hX3⟩ : ∃ x, x = X2 ++ vI (high : Int) := ⟨_, rfl⟩
  rw [← hX0] at hr7
  have hl0 : X0.length = 1 := by rw [hX0]; rfl
  have hl1 : X1.length ≤ 11 ∧ X0.length ≤ X1.length := by rw [hX1, List.length_append]; have := vI_len (n := (most : Int)) (by unfold numOk; omega); omega
  have hl2 : X2.length ≤ 21 ∧ X1.length ≤ X2.length := by rw [hX2, List.length_append]; have := vI_len (n := (L.length : Int)) (by unfold numOk; omega); omega
  have hl3 : X3.length ≤ 31 ∧ X2.length ≤ X3.length := by rw [hX3, List.length_append]; have := vI_len (n := (high : Int)) (by unfold numOk; omega); omega
  refine WL.c rfl (o_ash (by first | exact (show _ = Value.slice _ _ _ from rfl) | exact rfl) ?_)
  refine WL.nil ?_
  refine W.seq ?_
  obtain ⟨wd, hwd⟩ : ∃ wd, wd = w7.drew := ⟨_, rfl⟩
  have hxd : Ext w7 wd := hwd ▸ Only.drew w7
  have hrow2 := own_ext hr7 hxd
  have hxd0 := hx7.tr hxd
  have hcell := (h.ext hxd0).cell
  have hB2 : w0.heap.size ≤ wd.heap.size := hxd0.size
  have hps : ¬ w0.heap.size ≤ p := by omega
  refine W.drawC 17 [5, 11, 16] (RsL (fun k => w0.heap.size ≤ k) w0.heap.size [X0.length, X1.length, X2.length, X3.length]) (fun _ _ => True) [(0, fun v _ => v = _), (3, fun v _ => v = _)] rfl (by kernel_rfl) (by kernel_rfl) RsL.e (RsL.a (by intro s; rcases s with _ | _ | _ | _ | _ <;> simp [nth] <;> omega)) RsL.t (fun _ _ _ _ _ => trivial) trivial ⟨Mono.eq, Mono.eq, trivial⟩ ⟨rfl, rfl, trivial⟩ ?_
  refine WDS.p rfl (by decide) (fun e w hR hh => by obtain ⟨h3, -⟩ := hh; exact SG.n (o_mvh h3 ⟨rfl, Only.refl No _⟩)) ?_
  refine WDS.p rfl (by decide) (fun e w hR hh => by obtain ⟨h0, -⟩ := hh; exact SG.n (o_mvh h0 ⟨rfl, Only.refl No _⟩)) ?_
  refine WDS.p rfl (by decide) (fun e w hR hh => by obtain ⟨h9, -⟩ := hh; exact SG.n (o_nil h9 ⟨rfl, Only.refl No _⟩)) ?_
  refine WDS.p rfl (by decide) (fun e w hR hh => by obtain ⟨h10, -⟩ := hh; exact SG.n (o_fa 1 TI95 rfl TI3 rfl h10 ⟨rfl, Only.refl No _⟩)) ?_
  refine WDS.p rfl (by decide) (fun e w hR hh => by obtain ⟨h11, -⟩ := hh; rw [← hwd] at hR; have hc := hR.1.blk hcell hps; exact SG.n (o_ld TI3 rfl h11 (cell_of hc rfl) ⟨rfl, Only.refl No _⟩)) ?_
  refine WDS.m 0 1 (fun v w => w.ownsRow w0.heap.size 5 1 v X1.length (X1.map bv)) (RsL.mono rfl) (by kernel_rfl) rfl rfl (fun e w hR hW hh => by obtain ⟨h12, h8, -⟩ := hh; rw [← hwd] at hR; exact SGX.n (OP.x (o_call Try.call73 (lc h8 (lc h12 ln)) ((leb_spec w0.heap.size X0 (Value.slice (some ⟨w0.heap.size, 0, none⟩) 1 1) (most : Int) w (by unfold numOk; omega) (RsL.row hR rfl hrow2) (Nat.le_trans hB2 hR.1.size) (by omega)).mono (fun v w' hh => by obtain ⟨h1, h2, -, h4⟩ := hh; rw [← hX1] at h1; exact ⟨h1, RsL.step h2 (fun k hk => (World.ownsRow.lt ((RsL.row hR rfl hrow2)) k hk).1) h4 rfl, trivial⟩))))) ?_
  refine WDS.p rfl (by decide) (fun e w hR hh => by obtain ⟨h0, -⟩ := hh; exact SG.n (o_mvh h0 ⟨rfl, Only.refl No _⟩)) ?_
  refine WDS.p rfl (by decide) (fun e w hR hh => by obtain ⟨h14, -⟩ := hh; exact SG.n (o_nil h14 ⟨rfl, Only.refl No _⟩)) ?_
  refine WDS.p rfl (by decide) (fun e w hR hh => by obtain ⟨h15, -⟩ := hh; exact SG.n (o_fa 0 TI95 rfl TI22 rfl h15 ⟨rfl, Only.refl No _⟩)) ?_
  refine WDS.p rfl (by decide) (fun e w hR hh => by obtain ⟨h16, -⟩ := hh; rw [← hwd] at hR; have hc := hR.1.blk hcell hps; exact SG.n (o_ld TI22 rfl h16 (cell_of hc rfl) ⟨rfl, Only.refl No _⟩)) ?_
  refine WDS.p rfl (by decide) (fun e w hR hh => by obtain ⟨h17, -⟩ := hh; rw [← hwd] at hR; exact SG.n (o_lenR TI22 h17 (Sl.own (h.rows.only ((hxd0.mono (G := fun k => w0.heap.size ≤ k) (fun _ _ h => h.elim)).trans hR.1) (fun k hk hF => by have := (h.rows.lt k hk).2; omega)).row) ⟨rfl, Only.refl No _⟩)) ?_
  refine WDS.m 1 2 (fun v w => w.ownsRow w0.heap.size 5 1 v X2.length (X2.map bv)) (RsL.mono rfl) (by kernel_rfl) rfl rfl (fun e w hR hW hh => by obtain ⟨h18, h13, -⟩ := hh; rw [← hwd] at hR; exact SGX.n (OP.x (o_call Try.call73 (lc rfl (lc h18 ln)) ((leb_spec w0.heap.size X1 (e 13) (L.length : Int) w (by unfold numOk; omega) h13 (Nat.le_trans hB2 hR.1.size) (by omega)).mono (fun v w' hh => by obtain ⟨h1, h2, -, h4⟩ := hh; rw [← hX2] at h1; exact ⟨h1, RsL.step h2 (fun k hk => (World.ownsRow.lt (h13) k hk).1) h4 rfl, trivial⟩))))) ?_
  refine WDS.p rfl (by decide) (fun e w hR hh => by obtain ⟨h0, -⟩ := hh; exact SG.n (o_mvh h0 ⟨rfl, Only.refl No _⟩)) ?_
  refine WDS.p rfl (by decide) (fun e w hR hh => by obtain ⟨h20, -⟩ := hh; exact SG.n (o_nil h20 ⟨rfl, Only.refl No _⟩)) ?_
  refine WDS.p rfl (by decide) (fun e w hR hh => by obtain ⟨h21, -⟩ := hh; exact SG.n (o_fa 2 TI95 rfl TI3 rfl h21 ⟨rfl, Only.refl No _⟩)) ?_
  refine WDS.p rfl (by decide) (fun e w hR hh => by obtain ⟨h22, -⟩ := hh; rw [← hwd] at hR; have hc := hR.1.blk hcell hps; exact SG.n (o_ld TI3 rfl h22 (cell_of hc rfl) ⟨rfl, Only.refl No _⟩)) ?_
  refine WDS.m 2 3 (fun v w => w.ownsRow w0.heap.size 5 1 v X3.length (X3.map bv)) (RsL.mono rfl) (by kernel_rfl) rfl rfl (fun e w hR hW hh => by obtain ⟨h23, h19, -⟩ := hh; rw [← hwd] at hR; exact SGX.n (OP.x (o_call Try.call73 (lc rfl (lc h23 ln)) ((leb_spec w0.heap.size X2 (e 19) (high : Int) w (by unfold numOk; omega) h19 (Nat.le_trans hB2 hR.1.size) (by omega)).mono (fun v w' hh => by obtain ⟨h1, h2, -, h4⟩ := hh; rw [← hX3] at h1; exact ⟨h1, RsL.step h2 (fun k hk => (World.ownsRow.lt (h19) k hk).1) h4 rfl, trivial⟩))))) ?_
  rintro e w hR - ⟨h24, h23, h22, h21, h20, h19, h18, h17, h16, h15, h14, h13, h12, h11, h10, h9, h8, h0, h3, -⟩
  rw [← hwd] at hR
  refine WL.c rfl (o_as ?_)
  refine WL.nil ?_
  have hx24 : Ext w0 w := hxd0.trans' hR.1 (fun _ h => h) (fun k hk hF => by omega)
  obtain ⟨u24, hu24⟩ : ∃ x, x = e 24 := ⟨_, rfl⟩
  rw [← hu24] at h24
  rw [show ev e (Operand.tmp 24) = u24 from hu24.symm]
  refine W.seq ?_
  refine W.seq ?_
  refine W.region ?_
  refine WL.c rfl (o_ash (show _ = Value.int _ _ from rfl) ?_)
  refine WL.nil ?_
  refine W.block ?_
  refine W.loop (fun e w => ∃ (k : Nat) (u : Value), k ≤ L.length ∧ e 0 = .pointer (some ⟨p, 0, none⟩) ∧ e 3 = u ∧ e 4 = .int .i64 (k : Int) ∧ w.ownsRow w0.heap.size 5 1 u (X3 ++ (L.take k).flatMap fbytes).length ((X3 ++ (L.take k).flatMap fbytes).map bv) ∧ Ext w0 w) (fun e w => L.length - (intOf (e 4)).toNat) ?_ ?_
  · exact ⟨0, u24, Nat.zero_le _, h0, rfl, rfl, by simpa using h24, hx24⟩
  rintro e w ⟨k, u, hk, h0, h3, h4, hrow, hxw⟩
  have hm4 := h4
  have h5 := h.ext hxw
  refine W.seq ?_
  refine W.seq ?_
  refine W.region ?_
  refine WL.c rfl (o_mvh h4 ?_)
  refine WL.c rfl (o_mvh h0 ?_)
  refine WL.c rfl (o_nil rfl ?_)
  refine WL.c rfl (o_fa 0 TI95 rfl TI22 rfl rfl ?_)
  refine WL.c rfl (o_ld TI22 rfl rfl (cell_of h5.cell rfl) ?_)
  refine WL.c rfl (o_lenR TI22 rfl (Sl.own h5.rows.row) ?_)
  refine WL.c rfl (o_lt rfl rfl ?_)
  refine WL.nil ?_
  refine W.cond rfl (fun c31 => ?_) (fun c31 => ?_)
  · try simp only [decide_eq_true_eq, decide_eq_false_iff_not, Bool.not_eq_true', Bool.not_eq_false', Bool.and_eq_true, Bool.or_eq_true, Bool.and_eq_false_iff, Bool.or_eq_false_iff] at c31
    refine W.skip ?_
    refine W.seq ?_
    refine W.block ?_
    refine W.seq ?_
    have hk1 : k < L.length := by omega
    have hfw := hw L[k] (List.getElem_mem hk1)
    have hft := fwhole_tab hfw
    have hflen := fbytes_len hfw
    have hLl : ((L.take k).flatMap fbytes).length ≤ 10485830 * k := by
      have := frames_len (L := L.take k) (fun f hf => hw f (List.mem_of_mem_take hf))
      rw [List.length_take, Nat.min_eq_left hk] at this; exact this
    obtain ⟨Y0, hY0⟩ : ∃ x, x = X3 ++ (L.take k).flatMap fbytes := ⟨_, rfl⟩
    rw [← hY0] at hrow
    have hol : Y0.length ≤ 31 + 10485830 * k := by rw [hY0, List.length_append]; omega
    obtain ⟨Y1, hY1⟩ : ∃ x, x = Y0 ++ vI L[k].rt := ⟨_, rfl⟩
    obtain ⟨Y2, hY2⟩ : ∃ x, x = Y1 ++ vI L[k].pl := ⟨_, rfl⟩
    obtain ⟨Y3, hY3⟩ : ∃ x, x = Y2 ++ vI L[k].bs := ⟨_, rfl⟩
    obtain ⟨Y4, hY4⟩ : ∃ x, x = Y3 ++ vI (L[k].en + 1) := ⟨_, rfl⟩
    obtain ⟨Y5, hY5⟩ : ∃ x, x = Y4 ++ vI (L[k].nd + 1) := ⟨_, rfl⟩
    obtain ⟨Y6, hY6⟩ : ∃ x, x = Y5 ++ vI L[k].nx := ⟨_, rfl⟩
    obtain ⟨Y7, hY7⟩ : ∃ x, x = Y6 ++ vI (L[k].tab.length : Int) := ⟨_, rfl⟩
    have hY7e : Y7 = Y0 ++ (fnums L[k]).flatMap vI := by rw [hY7, hY6, hY5, hY4, hY3, hY2, hY1]; simp [fnums]
    have hy1 : Y0.length ≤ Y1.length ∧ Y1.length ≤ Y2.length ∧ Y2.length ≤ Y3.length ∧ Y3.length ≤ Y4.length ∧ Y4.length ≤ Y5.length ∧ Y5.length ≤ Y6.length ∧ Y6.length ≤ Y7.length := by
      refine ⟨?_, ?_, ?_, ?_, ?_, ?_, ?_⟩
      · rw [hY1, List.length_append]; omega
      · rw [hY2, List.length_append]; omega
      · rw [hY3, List.length_append]; omega
      · rw [hY4, List.length_append]; omega
      · rw [hY5, List.length_append]; omega
      · rw [hY6, List.length_append]; omega
      · rw [hY7, List.length_append]; omega
    have hyl : Y7.length ≤ 31 + 10485830 * k + 70 := by
      have := vIs_len (fnums_ok hfw)
      have : (fnums L[k]).length = 7 := rfl
      rw [hY7e, List.length_append]; omega
    obtain ⟨hy01, hy12, hy23, hy34, hy45, hy56, hy67⟩ := hy1
    have hrk : w.ownsRow H 3 1 (V k) L[k].tab.length (ints L[k].tab) := by
      have := h5.rows.tabs.row k hk1
      simp only [tabl, List.getD_eq_getElem?_getD, List.getElem?_eq_getElem hk1, Option.getD_some] at this
      exact this
    have hfo := hfw
    simp only [fwhole, fright, Bool.and_eq_true, inb_iff, Huge] at hfo
    refine W.region ?_
    refine WL.c rfl (o_mvh h0 ?_)
    refine WL.c rfl (o_nil rfl ?_)
    refine WL.c rfl (o_fa 0 TI95 rfl TI22 rfl rfl ?_)
    refine WL.c rfl (o_ld TI22 rfl rfl (cell_of h5.cell rfl) ?_)
    refine WL.c rfl (o_mvh h4 ?_)
    refine WL.c rfl (o_ix TI22 TI39 rfl rfl (Sl.own h5.rows.row) (by omega) ?_)
    intro b32 o32 c32 hl32 hc32
    rw [frows_at hk1, List.getD_eq_getElem?_getD, List.getElem?_eq_getElem hk1, Option.getD_some] at hc32
    refine WL.c rfl (o_ldA TI39 rfl rfl hc32 rfl ?_)
    refine WL.c rfl (o_alB TI39 ?_)
    intro w6 hC6 hx6 hs6
    replace hrow := own_ext hrow hx6
    replace hrk := own_ext hrk hx6
    refine WL.u (o_stA TI39 rfl (show _ = Value.agg (fcells L[k] (V k)).toArray from rfl) rfl (fcells_one (own_one hrk)) hC6 rfl ?_)
    intro w8 hB6 ho6 hs8
    replace hrow := own_only hrow ho6 (fun j hj he => by subst he; exact own_off hrow hC6 (by decide) hj)
    replace hrk := own_only hrk ho6 (fun j hj he => by subst he; exact own_off hrk hC6 (by decide) hj)
    have hxs := hxw.size
    replace hxw := (hxw.tr hx6).trans' ho6 (fun _ h => h) (fun j hj he => by omega)
    obtain ⟨c5, hc5⟩ : ∃ c, c = w.heap.size := ⟨_, rfl⟩
    rw [← hc5] at hB6 ⊢
    have hC5 := hB6
    have hrlt : ∀ j, (V k).ownBlock = some j → j < w0.heap.size := fun j hj => (h.rows.tabs.lt hk1 hj).2
    refine WL.nil ?_
    refine W.seq ?_
    obtain ⟨wd7, hwd⟩ : ∃ wd, wd = w8.drew := ⟨_, rfl⟩
    have hxd : Ext w8 wd7 := hwd ▸ Only.drew w8
    have hrow7 := own_ext hrow hxd
    replace hC5 := hxd.blk hC5 (fun h => h)
    replace hrk := own_ext hrk hxd
    replace hxw := hxw.tr hxd
    have hB7 : w0.heap.size ≤ wd7.heap.size := hxw.size
    refine W.drawC 10 [3, 6, 9] (RsL (fun k => w0.heap.size ≤ k ∧ k ≠ c5) w0.heap.size [Y0.length, Y1.length, Y2.length, Y3.length]) (fun _ _ => True) [(0, fun v _ => v = _), (3, fun v _ => v = _), (4, fun v _ => v = _), (5, fun v _ => v = _)] rfl (by kernel_rfl) (by kernel_rfl) RsL.e (RsL.a (by intro s; rcases s with _ | _ | _ | _ | _ <;> simp [nth] <;> omega)) RsL.t (fun _ _ _ _ _ => trivial) trivial ⟨Mono.eq, Mono.eq, Mono.eq, Mono.eq, trivial⟩ ⟨h0, h3, h4, rfl, trivial⟩ ?_
    refine WDS.p rfl (by decide) (fun e w hR hh => by obtain ⟨h3, -⟩ := hh; exact SG.n (o_mvh h3 ⟨rfl, Only.refl No _⟩)) ?_
    refine WDS.p rfl (by decide) (fun e w hR hh => by obtain ⟨h5, -⟩ := hh; exact SG.n (o_fa 0 TI39 rfl TI3 rfl h5 ⟨rfl, Only.refl No _⟩)) ?_
    refine WDS.p rfl (by decide) (fun e w hR hh => by obtain ⟨h42, -⟩ := hh; rw [← hwd] at hR; have hc := hR.1.blk hC5 (fun hF => hF.2 rfl); exact SG.n (o_ld TI3 rfl h42 (cell_of hc rfl) ⟨rfl, Only.refl No _⟩)) ?_
    refine WDS.m 0 1 (fun v w => w.ownsRow w0.heap.size 5 1 v Y1.length (Y1.map bv)) (RsL.mono rfl) (by kernel_rfl) rfl rfl (fun e w hR hW hh => by obtain ⟨h43, h41, -⟩ := hh; rw [← hwd] at hR; exact SGX.n (OP.x (o_call Try.call73 (lc h41 (lc h43 ln)) ((leb_spec w0.heap.size Y0 u L[k].rt w (fnums_ok hfw _ (by simp [fnums])) (RsL.row hR rfl hrow7) (Nat.le_trans hB7 hR.1.size) (by omega)).mono (fun v w' hh => by obtain ⟨h1, h2, -, h4⟩ := hh; rw [← hY1] at h1; exact ⟨h1, RsL.step h2 (fun k hk => ⟨(World.ownsRow.lt ((RsL.row hR rfl hrow7)) k hk).1, fun he => own_off ((RsL.row hR rfl hrow7)) (hR.1.blk hC5 (fun hF => hF.2 rfl)) (by decide) (he ▸ hk)⟩) h4 rfl, trivial⟩))))) ?_
    refine WDS.p rfl (by decide) (fun e w hR hh => by obtain ⟨h5, -⟩ := hh; exact SG.n (o_fa 1 TI39 rfl TI3 rfl h5 ⟨rfl, Only.refl No _⟩)) ?_
    refine WDS.p rfl (by decide) (fun e w hR hh => by obtain ⟨h45, -⟩ := hh; rw [← hwd] at hR; have hc := hR.1.blk hC5 (fun hF => hF.2 rfl); exact SG.n (o_ld TI3 rfl h45 (cell_of hc rfl) ⟨rfl, Only.refl No _⟩)) ?_
    refine WDS.m 1 2 (fun v w => w.ownsRow w0.heap.size 5 1 v Y2.length (Y2.map bv)) (RsL.mono rfl) (by kernel_rfl) rfl rfl (fun e w hR hW hh => by obtain ⟨h46, h44, -⟩ := hh; rw [← hwd] at hR; exact SGX.n (OP.x (o_call Try.call73 (lc rfl (lc h46 ln)) ((leb_spec w0.heap.size Y1 (e 44) L[k].pl w (fnums_ok hfw _ (by simp [fnums])) h44 (Nat.le_trans hB7 hR.1.size) (by omega)).mono (fun v w' hh => by obtain ⟨h1, h2, -, h4⟩ := hh; rw [← hY2] at h1; exact ⟨h1, RsL.step h2 (fun k hk => ⟨(World.ownsRow.lt (h44) k hk).1, fun he => own_off (h44) (hR.1.blk hC5 (fun hF => hF.2 rfl)) (by decide) (he ▸ hk)⟩) h4 rfl, trivial⟩))))) ?_
    refine WDS.p rfl (by decide) (fun e w hR hh => by obtain ⟨h5, -⟩ := hh; exact SG.n (o_fa 2 TI39 rfl TI3 rfl h5 ⟨rfl, Only.refl No _⟩)) ?_
    refine WDS.p rfl (by decide) (fun e w hR hh => by obtain ⟨h48, -⟩ := hh; rw [← hwd] at hR; have hc := hR.1.blk hC5 (fun hF => hF.2 rfl); exact SG.n (o_ld TI3 rfl h48 (cell_of hc rfl) ⟨rfl, Only.refl No _⟩)) ?_
    refine WDS.m 2 3 (fun v w => w.ownsRow w0.heap.size 5 1 v Y3.length (Y3.map bv)) (RsL.mono rfl) (by kernel_rfl) rfl rfl (fun e w hR hW hh => by obtain ⟨h49, h47, -⟩ := hh; rw [← hwd] at hR; exact SGX.n (OP.x (o_call Try.call73 (lc rfl (lc h49 ln)) ((leb_spec w0.heap.size Y2 (e 47) L[k].bs w (fnums_ok hfw _ (by simp [fnums])) h47 (Nat.le_trans hB7 hR.1.size) (by omega)).mono (fun v w' hh => by obtain ⟨h1, h2, -, h4⟩ := hh; rw [← hY3] at h1; exact ⟨h1, RsL.step h2 (fun k hk => ⟨(World.ownsRow.lt (h47) k hk).1, fun he => own_off (h47) (hR.1.blk hC5 (fun hF => hF.2 rfl)) (by decide) (he ▸ hk)⟩) h4 rfl, trivial⟩))))) ?_
    rintro e w hR - ⟨h50, h49, h48, h47, h46, h45, h44, h43, h42, h41, h0, h3, h4, h5, -⟩
    refine WL.c rfl (o_as ?_)
    refine WL.nil ?_
    rw [← hwd] at hR
    replace hC5 := hR.1.blk hC5 (fun hF => hF.2 rfl)
    replace hrk := own_only hrk hR.1 (fun j hj hF => by have := hrlt j hj; omega)
    replace hxw := hxw.trans' hR.1 (fun _ h => h) (fun j hj hF => by omega)
    clear hR hrow
    obtain ⟨u, hu⟩ : ∃ x, x = e 50 := ⟨_, rfl⟩
    rw [← hu] at h50
    rw [show ev e (Operand.tmp 50) = u from hu.symm]
    refine W.seq ?_
    obtain ⟨wd8, hwd⟩ : ∃ wd, wd = w.drew := ⟨_, rfl⟩
    have hxd : Ext w wd8 := hwd ▸ Only.drew w
    have hrow8 := own_ext h50 hxd
    replace hC5 := hxd.blk hC5 (fun h => h)
    replace hrk := own_ext hrk hxd
    replace hxw := hxw.tr hxd
    have hB8 : w0.heap.size ≤ wd8.heap.size := hxw.size
    refine W.drawC 16 [4, 8, 11, 15] (RsL (fun k => w0.heap.size ≤ k ∧ k ≠ c5) w0.heap.size [Y3.length, Y4.length, Y5.length, Y6.length, Y7.length]) (fun _ _ => True) [(0, fun v _ => v = _), (3, fun v _ => v = _), (4, fun v _ => v = _), (5, fun v _ => v = _)] rfl (by kernel_rfl) (by kernel_rfl) RsL.e (RsL.a (by intro s; rcases s with _ | _ | _ | _ | _ | _ <;> simp [nth] <;> omega)) RsL.t (fun _ _ _ _ _ => trivial) trivial ⟨Mono.eq, Mono.eq, Mono.eq, Mono.eq, trivial⟩ ⟨h0, rfl, h4, h5, trivial⟩ ?_
    refine WDS.p rfl (by decide) (fun e w hR hh => by obtain ⟨h3, -⟩ := hh; exact SG.n (o_mvh h3 ⟨rfl, Only.refl No _⟩)) ?_
    refine WDS.p rfl (by decide) (fun e w hR hh => by obtain ⟨h5, -⟩ := hh; exact SG.n (o_fa 3 TI39 rfl TI3 rfl h5 ⟨rfl, Only.refl No _⟩)) ?_
    refine WDS.p rfl (by decide) (fun e w hR hh => by obtain ⟨h52, -⟩ := hh; rw [← hwd] at hR; have hc := hR.1.blk hC5 (fun hF => hF.2 rfl); exact SG.n (o_ld TI3 rfl h52 (cell_of hc rfl) ⟨rfl, Only.refl No _⟩)) ?_
    refine WDS.p rfl (by decide) (fun e w hR hh => by obtain ⟨h53, -⟩ := hh; exact SG.n (o_addi h53 rfl (by omega) ⟨rfl, Only.refl No _⟩)) ?_
    refine WDS.m 0 1 (fun v w => w.ownsRow w0.heap.size 5 1 v Y4.length (Y4.map bv)) (RsL.mono rfl) (by kernel_rfl) rfl rfl (fun e w hR hW hh => by obtain ⟨h54, h51, -⟩ := hh; rw [← hwd] at hR; exact SGX.n (OP.x (o_call Try.call73 (lc h51 (lc h54 ln)) ((leb_spec w0.heap.size Y3 u (L[k].en + 1) w (fnums_ok hfw _ (by simp [fnums])) (RsL.row hR rfl hrow8) (Nat.le_trans hB8 hR.1.size) (by omega)).mono (fun v w' hh => by obtain ⟨h1, h2, -, h4⟩ := hh; rw [← hY4] at h1; exact ⟨h1, RsL.step h2 (fun k hk => ⟨(World.ownsRow.lt ((RsL.row hR rfl hrow8)) k hk).1, fun he => own_off ((RsL.row hR rfl hrow8)) (hR.1.blk hC5 (fun hF => hF.2 rfl)) (by decide) (he ▸ hk)⟩) h4 rfl, trivial⟩))))) ?_
    refine WDS.p rfl (by decide) (fun e w hR hh => by obtain ⟨h5, -⟩ := hh; exact SG.n (o_fa 4 TI39 rfl TI3 rfl h5 ⟨rfl, Only.refl No _⟩)) ?_
    refine WDS.p rfl (by decide) (fun e w hR hh => by obtain ⟨h56, -⟩ := hh; rw [← hwd] at hR; have hc := hR.1.blk hC5 (fun hF => hF.2 rfl); exact SG.n (o_ld TI3 rfl h56 (cell_of hc rfl) ⟨rfl, Only.refl No _⟩)) ?_
    refine WDS.p rfl (by decide) (fun e w hR hh => by obtain ⟨h57, -⟩ := hh; exact SG.n (o_addi h57 rfl (by omega) ⟨rfl, Only.refl No _⟩)) ?_
    refine WDS.m 1 2 (fun v w => w.ownsRow w0.heap.size 5 1 v Y5.length (Y5.map bv)) (RsL.mono rfl) (by kernel_rfl) rfl rfl (fun e w hR hW hh => by obtain ⟨h58, h55, -⟩ := hh; rw [← hwd] at hR; exact SGX.n (OP.x (o_call Try.call73 (lc rfl (lc h58 ln)) ((leb_spec w0.heap.size Y4 (e 55) (L[k].nd + 1) w (fnums_ok hfw _ (by simp [fnums])) h55 (Nat.le_trans hB8 hR.1.size) (by omega)).mono (fun v w' hh => by obtain ⟨h1, h2, -, h4⟩ := hh; rw [← hY5] at h1; exact ⟨h1, RsL.step h2 (fun k hk => ⟨(World.ownsRow.lt (h55) k hk).1, fun he => own_off (h55) (hR.1.blk hC5 (fun hF => hF.2 rfl)) (by decide) (he ▸ hk)⟩) h4 rfl, trivial⟩))))) ?_
    refine WDS.p rfl (by decide) (fun e w hR hh => by obtain ⟨h5, -⟩ := hh; exact SG.n (o_fa 5 TI39 rfl TI3 rfl h5 ⟨rfl, Only.refl No _⟩)) ?_
    refine WDS.p rfl (by decide) (fun e w hR hh => by obtain ⟨h60, -⟩ := hh; rw [← hwd] at hR; have hc := hR.1.blk hC5 (fun hF => hF.2 rfl); exact SG.n (o_ld TI3 rfl h60 (cell_of hc rfl) ⟨rfl, Only.refl No _⟩)) ?_
    refine WDS.m 2 3 (fun v w => w.ownsRow w0.heap.size 5 1 v Y6.length (Y6.map bv)) (RsL.mono rfl) (by kernel_rfl) rfl rfl (fun e w hR hW hh => by obtain ⟨h61, h59, -⟩ := hh; rw [← hwd] at hR; exact SGX.n (OP.x (o_call Try.call73 (lc rfl (lc h61 ln)) ((leb_spec w0.heap.size Y5 (e 59) L[k].nx w (fnums_ok hfw _ (by simp [fnums])) h59 (Nat.le_trans hB8 hR.1.size) (by omega)).mono (fun v w' hh => by obtain ⟨h1, h2, -, h4⟩ := hh; rw [← hY6] at h1; exact ⟨h1, RsL.step h2 (fun k hk => ⟨(World.ownsRow.lt (h59) k hk).1, fun he => own_off (h59) (hR.1.blk hC5 (fun hF => hF.2 rfl)) (by decide) (he ▸ hk)⟩) h4 rfl, trivial⟩))))) ?_
    refine WDS.p rfl (by decide) (fun e w hR hh => by obtain ⟨h5, -⟩ := hh; exact SG.n (o_fa 6 TI39 rfl TI37 rfl h5 ⟨rfl, Only.refl No _⟩)) ?_
    refine WDS.p rfl (by decide) (fun e w hR hh => by obtain ⟨h63, -⟩ := hh; rw [← hwd] at hR; have hc := hR.1.blk hC5 (fun hF => hF.2 rfl); exact SG.n (o_ld TI37 rfl h63 (cell_of hc rfl) ⟨rfl, Only.refl No _⟩)) ?_
    refine WDS.p rfl (by decide) (fun e w hR hh => by obtain ⟨h64, -⟩ := hh; rw [← hwd] at hR; exact SG.n (o_lenR TI37 h64 (Sl.own (own_only hrk hR.1 (fun j hj hF => by have := hrlt j hj; omega))) ⟨rfl, Only.refl No _⟩)) ?_
    refine WDS.m 3 4 (fun v w => w.ownsRow w0.heap.size 5 1 v Y7.length (Y7.map bv)) (RsL.mono rfl) (by kernel_rfl) rfl rfl (fun e w hR hW hh => by obtain ⟨h65, h62, -⟩ := hh; rw [← hwd] at hR; exact SGX.n (OP.x (o_call Try.call73 (lc rfl (lc h65 ln)) ((leb_spec w0.heap.size Y6 (e 62) (L[k].tab.length : Int) w (fnums_ok hfw _ (by simp [fnums])) h62 (Nat.le_trans hB8 hR.1.size) (by omega)).mono (fun v w' hh => by obtain ⟨h1, h2, -, h4⟩ := hh; rw [← hY7] at h1; exact ⟨h1, RsL.step h2 (fun k hk => ⟨(World.ownsRow.lt (h62) k hk).1, fun he => own_off (h62) (hR.1.blk hC5 (fun hF => hF.2 rfl)) (by decide) (he ▸ hk)⟩) h4 rfl, trivial⟩))))) ?_
    rintro e w hR - ⟨h66, h65, h64, h63, h62, h61, h60, h59, h58, h57, h56, h55, h54, h53, h52, h51, h0, h3, h4, h5, -⟩
    refine WL.c rfl (o_as ?_)
    refine WL.nil ?_
    rw [← hwd] at hR
    replace hC5 := hR.1.blk hC5 (fun hF => hF.2 rfl)
    replace hrk := own_only hrk hR.1 (fun j hj hF => by have := hrlt j hj; omega)
    replace hxw := hxw.trans' hR.1 (fun _ h => h) (fun j hj hF => by omega)
    clear hR
    obtain ⟨u, hu⟩ : ∃ x, x = e 66 := ⟨_, rfl⟩
    rw [← hu] at h66
    rw [show ev e (Operand.tmp 66) = u from hu.symm]
    refine W.seq ?_
    refine W.region ?_
    refine WL.c rfl (o_ash (show _ = Value.int _ _ from rfl) ?_)
    refine WL.nil ?_
    refine W.block ?_
    refine W.loop (fun e w => ∃ (j : Nat) (u2 : Value), j ≤ L[k].tab.length ∧ e 0 = .pointer (some ⟨p, 0, none⟩) ∧ e 3 = u2 ∧ e 4 = .int .i64 (k : Int) ∧ e 5 = .pointer (some ⟨c5, 0, none⟩) ∧ e 6 = .int .i64 (j : Int) ∧ w.heap[c5]? = some (.cells (fcells L[k] (V k)).toArray 39 (0, 0)) ∧ w.ownsRow w0.heap.size 5 1 u2 (Y7 ++ (L[k].tab.take j).flatMap vI).length ((Y7 ++ (L[k].tab.take j).flatMap vI).map bv) ∧ Ext w0 w) (fun e w => L[k].tab.length - (intOf (e 6)).toNat) ?_ ?_
    · exact ⟨0, u, Nat.zero_le _, h0, rfl, h4, h5, rfl, hC5, by simpa using h66, hxw⟩
    rintro e w ⟨j, u2, hj, h0, h3, h4, h5p, h6, hC5, hrow, hxw⟩
    have hm6 := h6
    have h5 := h5p
    have hrk2 : w.ownsRow H 3 1 (V k) L[k].tab.length (ints L[k].tab) := own_ext (hrk00 k hk1) hxw
    refine W.seq ?_
    refine W.seq ?_
    refine W.region ?_
    refine WL.c rfl (o_mvh h6 ?_)
    refine WL.c rfl (o_fa 6 TI39 rfl TI37 rfl h5 ?_)
    refine WL.c rfl (o_ld TI37 rfl rfl (cell_of hC5 rfl) ?_)
    refine WL.c rfl (o_lenR TI37 rfl (Sl.own hrk2) ?_)
    refine WL.c rfl (o_lt rfl rfl ?_)
    refine WL.nil ?_
    refine W.cond rfl (fun c71 => ?_) (fun c71 => ?_)
    · try simp only [decide_eq_true_eq, decide_eq_false_iff_not, Bool.not_eq_true', Bool.not_eq_false', Bool.and_eq_true, Bool.or_eq_true, Bool.and_eq_false_iff, Bool.or_eq_false_iff] at c71
      refine W.skip ?_
      refine W.seq ?_
      refine W.block ?_
      have hj1 : j < L[k].tab.length := by omega
      have hjl : (Y7 ++ (L[k].tab.take j).flatMap vI).length ≤ 31 + 10485830 * k + 70 + 10 * j := by
        have := vIs_len (l := L[k].tab.take j) (fun n hn => ftab_ok hfw n (List.mem_of_mem_take hn))
        rw [List.length_append]; rw [List.length_take] at this; omega
      refine W.region ?_
      refine WL.c rfl (o_mvh h3 ?_)
      refine WL.c rfl (o_fa 6 TI39 rfl TI37 rfl h5 ?_)
      refine WL.c rfl (o_ld TI37 rfl rfl (cell_of hC5 rfl) ?_)
      refine WL.c rfl (o_mvh h6 ?_)
      refine WL.c rfl (o_ix1 TI37 TI3 rfl rfl (Sl.own hrk2) (by omega) ?_)
      intro b9 o9 hc9 hb9
      refine WL.c rfl (o_ld TI3 rfl rfl (hc9.trans (getint hj1)) ?_)
      refine WL.c rfl (o_call Try.call73 (lc rfl (lc rfl ln)) ((leb_spec w0.heap.size (Y7 ++ (L[k].tab.take j).flatMap vI) u2 L[k].tab[j] _ (ftab_ok hfw _ (List.getElem_mem hj1)) hrow hxw.size (by omega)).mono ?_))
      rintro v80 w80 ⟨h80, ho80, -, -⟩
      have hC5' := ho80.blk hC5 (own_off hrow hC5 (by decide))
      have hx80 := hxw.trans' ho80 (fun _ h => h) (fun i hi hF => by have := (hrow.lt i hF).1; omega)
      refine WL.c rfl (o_ash (by first | exact (show _ = Value.slice _ _ _ from rfl) | exact rfl) ?_)
      refine WL.nil ?_
      refine W.region ?_
      refine WL.c rfl (o_mvh h6 ?_)
      refine WL.c rfl (o_addi rfl rfl (by omega) ?_)
      refine WL.c rfl (o_ash (show _ = Value.int _ _ from rfl) ?_)
      refine WL.nil ?_
      refine ⟨⟨j + 1, v80, by omega, h0, rfl, h4, h5, rfl, hC5', ?_, hx80⟩, ?_⟩
      · rw [take_flat hj1, ← List.append_assoc]; exact h80
      · show L[k].tab.length - ((j : Int) + 1).toNat < _
        rw [hm6]; simp only [intOf]; omega
    · try simp only [decide_eq_true_eq, decide_eq_false_iff_not, Bool.not_eq_true', Bool.not_eq_false', Bool.and_eq_true, Bool.or_eq_true, Bool.and_eq_false_iff, Bool.or_eq_false_iff] at c71
      refine W.exit ?_
      refine W.region ?_
      refine WL.c rfl (o_mvh h4 ?_)
      refine WL.c rfl (o_addi rfl rfl (by omega) ?_)
      refine WL.c rfl (o_ash (show _ = Value.int _ _ from rfl) ?_)
      refine WL.nil ?_
      have hjl : j = L[k].tab.length := by omega
      subst hjl
      rw [List.take_length] at hrow
      refine ⟨⟨k + 1, u2, by omega, h0, h3, rfl, ?_, hxw⟩, ?_⟩
      · rw [take_flat hk1, ← List.append_assoc, ← hY0, fbytes, ← List.append_assoc, ← hY7e]; exact hrow
      · show L.length - ((k : Int) + 1).toNat < _
        rw [hm4]; simp only [intOf]; omega
  · try simp only [decide_eq_true_eq, decide_eq_false_iff_not, Bool.not_eq_true', Bool.not_eq_false', Bool.and_eq_true, Bool.or_eq_true, Bool.and_eq_false_iff, Bool.or_eq_false_iff] at c31
    refine W.exit ?_
    refine W.seq ?_
    refine W.region ?_
    refine WL.c rfl (o_mvh h3 ?_)
    refine WL.c rfl (o_ash (by first | exact (show _ = Value.slice _ _ _ from rfl) | exact rfl) ?_)
    refine WL.nil ?_
    refine W.ret ?_
    refine ret1v rfl rfl ?_
    have hkl : k = L.length := by omega
    subst hkl
    rw [List.take_length] at hrow
    have : sv = X3 ++ L.flatMap fbytes := by rw [hsv, hX3, hX2, hX1, hX0]; simp [saved]
    rw [this]
    exact ⟨hrow, hxw⟩

/-- the document's reader: where it is, its first fault, the place of that -/
structure RSt where
  pos : Nat
  err : Nat
  bad : Nat
structure RRd (w : World) (B0 q : Nat) (bv : Value) (xs : List UInt8) (s : RSt) : Prop where
  cell : w.heap[q]? = some (.cells #[bv, .int .i64 (s.pos : Int), .int .i64 (s.err : Int), .int .i64 (s.bad : Int)] 112 (0, 0))
  by_ : By w bv xs
  off : ∀ b, bv.ownBlock = some b → B0 ≤ b → xs = []
  hq : B0 ≤ q
  le : s.pos ≤ xs.length
  small : xs.length ≤ 1000000000000000000
theorem RRd.keep {w w' : World} {B0 q : Nat} {s : RSt} {bv : Value} {xs : List UInt8} {F : Nat → Prop} (h : RRd w B0 q bv xs s) (ho : Only F w w') (hF : ∀ k, F k → B0 ≤ k) (hq : ¬ F q) : RRd w' B0 q bv xs s :=
  ⟨ho.blk h.cell hq, Sl.keep h.by_ ho (fun b hb hFb => by rw [h.off b hb (hF b hFb)]; rfl), h.off, h.hq, h.le, h.small⟩
theorem RRd.ext {w w' : World} {B0 q : Nat} {s : RSt} {bv : Value} {xs : List UInt8} (h : RRd w B0 q bv xs s) (ho : Ext w w') : RRd w' B0 q bv xs s := h.keep ho (fun _ h => h.elim) (fun h => h)
theorem RRd.put {w w' : World} {B0 q : Nat} {s s' : RSt} {bv : Value} {xs : List UInt8} (h : RRd w B0 q bv xs s) (ho : Only (fun k => k = q) w w') (hc : w'.heap[q]? = some (.cells #[bv, .int .i64 (s'.pos : Int), .int .i64 (s'.err : Int), .int .i64 (s'.bad : Int)] 112 (0, 0))) (hl : s'.pos ≤ xs.length) : RRd w' B0 q bv xs s' :=
  ⟨hc, Sl.keep h.by_ ho (fun b hb he => by subst he; rw [h.off _ hb h.hq]; rfl), h.off, h.hq, hl, h.small⟩
def rnum (xs : List UInt8) (s : RSt) (lo hi : Int) : Nat × RSt :=
  if s.err = 0 then match rdN xs s.pos lo hi with
    | .ok n a => (n, ⟨a, 0, s.bad⟩)
    | .bad e a => (0, ⟨s.pos + (vget 0 0 (xs.drop s.pos)).2.1, e, a⟩)
  else (0, s)
theorem By.at {w : World} {v : Value} {l : List UInt8} (h : By w v l) (h0 : 0 < l.length) : ∃ b o c, v = .slice (some ⟨b, o, none⟩) l.length c ∧ l.length ≤ c ∧ Cells w b o (l.map bv) := by
  rcases h.val with ⟨h1, _⟩ | ⟨b, o, c, hv, hnc, hc⟩
  · omega
  · exact ⟨b, o, c, hv, hnc, hc⟩
theorem shl_eq (a k : Nat) : a * 2 ^ (7 * k) = a * 128 ^ k := by rw [Nat.pow_mul]

theorem rfails_spec (B0 q : Nat) (bv : Value) (xs : List UInt8) (s : RSt) (e1 a1 : Nat) (w0 : World) (h : RRd w0 B0 q bv xs s) (he : s.err = 0) : Ca Try.prog 75 #[.pointer (some ⟨q, 0, none⟩), .int .i64 (e1 : Int), .int .i64 (a1 : Int)] w0 (fun v w' => v = .int .i64 0 ∧ RRd w' B0 q bv xs ⟨s.pos, e1, a1⟩ ∧ Only (fun k => k = q) w0 w') := by
  have hcell := h.cell
  refine Ca.of Try.func75 Try.ntmps75 rfl rfl ?_
  refine W.seq ?_
  refine W.region ?_
  refine WL.c rfl (o_ash (show _ = Value.int _ _ from rfl) ?_)
  refine WL.nil ?_
  refine W.seq ?_
  refine W.seq ?_
  refine W.region ?_
  refine WL.c rfl (o_mvh (by first | exact (show _ = Value.pointer _ from rfl) | exact rfl) ?_)
  refine WL.c rfl (o_nil rfl ?_)
  refine WL.c rfl (o_fa 2 TI112 rfl TI3 rfl rfl ?_)
  refine WL.c rfl (o_ld TI3 rfl rfl (cell_of hcell rfl) ?_)
  refine WL.c rfl (o_eq rfl rfl ?_)
  refine WL.nil ?_
  refine W.condT' rfl (by simp [he]) ?_
  refine W.seq ?_
  refine W.region ?_
  refine WL.c rfl (o_mvh (by first | exact (show _ = Value.pointer _ from rfl) | exact rfl) ?_)
  refine WL.c rfl (o_mvh (show _ = Value.int _ _ from rfl) ?_)
  refine WL.c rfl (o_nil rfl ?_)
  refine WL.c rfl (o_fa 2 TI112 rfl TI3 rfl rfl ?_)
  refine WL.u (o_stB TI3 rfl (show _ = Value.int _ _ from rfl) rfl hcell (show 2 < 4 by decide) ?_)
  intro w1 hB1 ho1 hs1
  refine WL.nil ?_
  refine W.region ?_
  refine WL.c rfl (o_mvh (by first | exact (show _ = Value.pointer _ from rfl) | exact rfl) ?_)
  refine WL.c rfl (o_mvh (show _ = Value.int _ _ from rfl) ?_)
  refine WL.c rfl (o_nil rfl ?_)
  refine WL.c rfl (o_fa 3 TI112 rfl TI3 rfl rfl ?_)
  refine WL.u (o_stB TI3 rfl (show _ = Value.int _ _ from rfl) rfl hB1 (show 3 < 4 by decide) ?_)
  intro w2 hB2 ho2 hs2
  refine WL.nil ?_
  refine W.seq ?_
  refine W.region ?_
  refine WL.c rfl (o_ash (show _ = Value.int _ _ from rfl) ?_)
  refine WL.nil ?_
  refine W.ret ?_
  refine ret1v rfl (show _ = Value.int _ _ from rfl) ?_
  exact ⟨rfl, RRd.put h (ho1.trans ho2) hB2 h.le, ho1.trans ho2⟩
set_option maxHeartbeats 1000000 in
theorem rnumber_spec (B0 q : Nat) (lo hi : Int) (bv : Value) (xs : List UInt8) (s : RSt) (w0 : World) (h : RRd w0 B0 q bv xs s) (hlo : 0 ≤ lo) (hhi : 0 ≤ hi) (hhi2 : hi ≤ 4611686018427387905) : Ca Try.prog 74 #[.pointer (some ⟨q, 0, none⟩), .int .i64 lo, .int .i64 hi] w0 (fun v w' => v = .int .i64 ((rnum xs s lo hi).1 : Int) ∧ RRd w' B0 q bv xs (rnum xs s lo hi).2 ∧ Only (fun k => k = q) w0 w') := by
  have hcell := h.cell
  have hle := h.le
  have hsm := h.small
  refine Ca.of Try.func74 Try.ntmps74 rfl rfl ?_
  refine W.seq ?_
  refine W.region ?_
  refine WL.c rfl (o_ash (show _ = Value.int _ _ from rfl) ?_)
  refine WL.nil ?_
  refine W.seq ?_
  refine W.seq ?_
  refine W.region ?_
  refine WL.c rfl (o_mvh (by first | exact (show _ = Value.pointer _ from rfl) | exact rfl) ?_)
  refine WL.c rfl (o_nil rfl ?_)
  refine WL.c rfl (o_fa 2 TI112 rfl TI3 rfl rfl ?_)
  refine WL.c rfl (o_ld TI3 rfl rfl (cell_of hcell rfl) ?_)
  refine WL.c rfl (o_ne rfl rfl ?_)
  refine WL.nil ?_
  refine W.cond rfl (fun c15 => ?_) (fun c15 => ?_)
  · try simp only [decide_eq_true_eq, decide_eq_false_iff_not, Bool.not_eq_true', Bool.not_eq_false', Bool.and_eq_true, Bool.or_eq_true, Bool.and_eq_false_iff, Bool.or_eq_false_iff] at c15
    have he : s.err ≠ 0 := by omega
    refine W.seq ?_
    refine W.region ?_
    refine WL.c rfl (o_ash (show _ = Value.int _ _ from rfl) ?_)
    refine WL.nil ?_
    refine W.ret ?_
    refine ret1v rfl (show _ = Value.int _ _ from rfl) ?_
    rw [rnum, if_neg he]
    exact ⟨rfl, h, Only.refl _ _⟩
  · try simp only [decide_eq_true_eq, decide_eq_false_iff_not, Bool.not_eq_true', Bool.not_eq_false', Bool.and_eq_true, Bool.or_eq_true, Bool.and_eq_false_iff, Bool.or_eq_false_iff] at c15
    have he : s.err = 0 := by omega
    refine W.skip ?_
    refine W.seq ?_
    refine W.region ?_
    refine WL.c rfl (o_ash (show _ = Value.int _ _ from rfl) ?_)
    refine WL.nil ?_
    refine W.seq ?_
    refine W.region ?_
    refine WL.c rfl (o_mvh (by first | exact (show _ = Value.pointer _ from rfl) | exact rfl) ?_)
    refine WL.c rfl (o_nil rfl ?_)
    refine WL.c rfl (o_fa 1 TI112 rfl TI3 rfl rfl ?_)
    refine WL.c rfl (o_ld TI3 rfl rfl (cell_of hcell rfl) ?_)
    refine WL.c rfl (o_ash (show _ = Value.int _ _ from rfl) ?_)
    refine WL.nil ?_
    refine W.seq ?_
    refine W.seq ?_
    refine W.region ?_
    refine WL.c rfl (o_ash (show _ = Value.int _ _ from rfl) ?_)
    refine WL.nil ?_
    refine W.block ?_
    refine W.loop (fun e w => ∃ (k m : Nat), e 0 = .pointer (some ⟨q, 0, none⟩) ∧ e 1 = .int .i64 lo ∧ e 2 = .int .i64 hi ∧ e 7 = .int .u64 (m : Int) ∧ e 8 = .int .i64 (s.pos : Int) ∧ e 9 = .int .i64 (k : Int) ∧ k ≤ 9 ∧ m < 128 ^ k ∧ s.pos + k ≤ xs.length ∧ vget 0 0 (xs.drop s.pos) = vget k m (xs.drop (s.pos + k)) ∧ RRd w B0 q bv xs ⟨s.pos + k, s.err, s.bad⟩ ∧ Only (fun k => k = q) w0 w) (fun e w => xs.length - (intOf (e 9)).toNat) ?_ ?_
    · exact ⟨0, 0, rfl, rfl, rfl, rfl, rfl, rfl, Nat.zero_le _, by decide, by omega, rfl, h, Only.refl _ _⟩
    rintro e w ⟨k, m, h0, h1, h2, h7, h8, h9, hk9, hm, hkl, hg, hr, ho⟩
    have hm9 := h9
    have hcell := hr.cell
    obtain ⟨ba, bc, hbv⟩ := hr.by_.isSlice
    refine W.seq ?_
    refine W.block ?_
    refine W.seq ?_
    refine W.seq ?_
    refine W.quiet rfl (by kernel_rfl) ?_
    refine WQ.c rfl ((QO.o rfl fun _ => o_mvh h0 ⟨rfl, rfl⟩)) ?_
    refine WQ.c rfl ((QO.r fun _ => r_nil rfl)) ?_
    refine WQ.c rfl ((QO.o rfl fun _ => o_fa 1 TI112 rfl TI3 rfl rfl ⟨rfl, rfl⟩)) ?_
    refine WQ.c rfl ((QO.o rfl fun _ => o_ld TI3 rfl rfl (cell_of hcell rfl) ⟨rfl, rfl⟩)) ?_
    refine WQ.c rfl ((QO.o rfl fun _ => o_mvh h0 ⟨rfl, rfl⟩)) ?_
    refine WQ.c rfl ((QO.r fun _ => r_nil rfl)) ?_
    refine WQ.c rfl ((QO.o rfl fun _ => o_fa 0 TI112 rfl TI23 rfl rfl ⟨rfl, rfl⟩)) ?_
    refine WQ.c rfl ((QO.o rfl fun _ => o_ld TI23 rfl rfl (cell_of hcell rfl) ⟨rfl, rfl⟩)) ?_
    refine WQ.c rfl ((QO.r fun _ => r_lenR TI23 rfl hr.by_)) ?_
    refine WQ.c rfl ((QO.o rfl fun _ => o_ge rfl rfl ⟨rfl, rfl⟩)) ?_
    refine WQ.nil ?_
    intro nq
    have hxq := Only.drewN w nq
    replace hr := hr.ext hxq
    replace ho := ho.ext hxq
    replace hcell := hr.cell
    generalize w.drewN nq = w7 at *
    refine W.cond rfl (fun c31 => ?_) (fun c31 => ?_)
    · try simp only [decide_eq_true_eq, decide_eq_false_iff_not, Bool.not_eq_true', Bool.not_eq_false', Bool.and_eq_true, Bool.or_eq_true, Bool.and_eq_false_iff, Bool.or_eq_false_iff] at c31
      refine W.seq ?_
      refine W.region ?_
      refine WL.c rfl (o_mvh h0 ?_)
      refine WL.c rfl (o_mvh h0 ?_)
      refine WL.c rfl (o_nil rfl ?_)
      refine WL.c rfl (o_fa 1 TI112 rfl TI3 rfl rfl ?_)
      refine WL.c rfl (o_ld TI3 rfl rfl (cell_of hcell rfl) ?_)
      refine WL.c rfl (o_call Try.call75 (lc rfl (lc rfl (lc rfl ln))) ((rfails_spec B0 q bv xs ⟨s.pos + k, s.err, s.bad⟩ 20 (s.pos + k) _ hr he).mono ?_))
      rintro v37 w37 ⟨rfl, hr37, ho37⟩
      refine WL.c rfl (o_ash (show _ = Value.int _ _ from rfl) ?_)
      refine WL.nil ?_
      refine W.ret ?_
      refine ret1v rfl (show _ = Value.int _ _ from rfl) ?_
      have hv : vget 0 0 (xs.drop s.pos) = (0, k, 20) := by rw [hg, List.drop_eq_nil_of_le (by omega)]; rfl
      have hrn : rnum xs s lo hi = (0, ⟨s.pos + k, 20, s.pos + k⟩) := by simp [rnum, he, rdN, hv]
      rw [hrn]
      exact ⟨rfl, hr37, ho.trans ho37⟩
    · try simp only [decide_eq_true_eq, decide_eq_false_iff_not, Bool.not_eq_true', Bool.not_eq_false', Bool.and_eq_true, Bool.or_eq_true, Bool.and_eq_false_iff, Bool.or_eq_false_iff] at c31
      have hk1 : s.pos + k < xs.length := by omega
      refine W.skip ?_
      refine W.seq ?_
      obtain ⟨tb, to_, tc, hbv2, htc, hct⟩ := By.at hr.by_ (by omega)
      refine W.quiet rfl (by kernel_rfl) ?_
      refine WQ.c rfl ((QO.o rfl fun _ => o_mvh h0 ⟨rfl, rfl⟩)) ?_
      refine WQ.c rfl ((QO.r fun _ => r_nil rfl)) ?_
      refine WQ.c rfl ((QO.o rfl fun _ => o_fa 0 TI112 rfl TI23 rfl rfl ⟨rfl, rfl⟩)) ?_
      refine WQ.c rfl ((QO.o rfl fun _ => o_ld TI23 rfl rfl (cell_of hcell rfl) ⟨rfl, rfl⟩)) ?_
      refine WQ.c rfl ((QO.o rfl fun _ => o_mvh h0 ⟨rfl, rfl⟩)) ?_
      refine WQ.c rfl ((QO.r fun _ => r_nil rfl)) ?_
      refine WQ.c rfl ((QO.o rfl fun _ => o_fa 1 TI112 rfl TI3 rfl rfl ⟨rfl, rfl⟩)) ?_
      refine WQ.c rfl ((QO.o rfl fun _ => o_ld TI3 rfl rfl (cell_of hcell rfl) ⟨rfl, rfl⟩)) ?_
      refine WQ.c rfl ((QO.o rfl fun _ => o_ixB (i := s.pos + k) TI23 TI5 (show _ = Value.slice (some ⟨tb, to_, none⟩) xs.length tc from hbv2) rfl (by omega) ⟨rfl, rfl⟩)) ?_
      refine WQ.c rfl ((QO.o rfl fun _ => o_ld TI5 rfl rfl (show _ = some (Value.int .u8 (xs[s.pos + k].toNat : Int)) by rw [Nat.mul_one]; exact hct _ _ (getbv hk1)) ⟨rfl, rfl⟩)) ?_
      refine WQ.c rfl ((QO.o rfl fun _ => o_ash (show _ = Value.int _ _ from rfl) ⟨rfl, rfl⟩)) ?_
      refine WQ.nil ?_
      intro nq
      have hxq := Only.drewN w7 nq
      replace hr := hr.ext hxq
      replace ho := ho.ext hxq
      replace hcell := hr.cell
      generalize w7.drewN nq = wz at *
      refine W.seq ?_
      refine W.seq ?_
      refine W.region ?_
      refine WL.cut (fun e1 w1 => e1 61 = .bool (vfault xs[s.pos + k] k) ∧ e1 0 = .pointer (some ⟨q, 0, none⟩) ∧ e1 1 = .int .i64 lo ∧ e1 2 = .int .i64 hi ∧ e1 7 = .int .u64 (m : Int) ∧ e1 8 = .int .i64 (s.pos : Int) ∧ e1 9 = .int .i64 (k : Int) ∧ e1 10 = .int .u8 ((xs[s.pos + k]).toNat : Int) ∧ w1 = wz) ?_ ?_
      · -- region 10
        refine WL.c rfl (o_mvh h9 ?_)
        refine WL.c rfl (o_eq rfl rfl ?_)
        refine WL.c rfl (o_mvh (show _ = Value.bool _ from rfl) ?_)
        refine WL.sp 2 rfl (fun g50 => ?_) (fun g50 => ?_)
        · skip
          refine WL.g rfl (g50) rfl (o_mvh (show _ = Value.int _ _ from rfl) ?_)
          refine WL.g rfl (g50) rfl (o_gt rfl rfl ?_)
          refine WL.c rfl (o_pickA rfl rfl ?_)
          refine WL.c rfl (o_mvh (show _ = Value.bool _ from rfl) ?_)
          refine WL.sp 6 rfl (fun g54 => ?_) (fun g54 => ?_)
          · skip
            refine WL.s rfl (g54) rfl ?_
            refine WL.s rfl (g54) rfl ?_
            refine WL.s rfl (g54) rfl ?_
            refine WL.z rfl rfl ?_
            refine WL.z rfl rfl ?_
            refine WL.s rfl (g54) rfl ?_
            refine WL.c rfl (o_pickT rfl (g54) ?_)
            exact WL.nil (⟨congrArg Value.bool (by rw [Bool.eq_iff_iff]; simp_all [vfault] <;> omega), h0, h1, h2, h7, h8, h9, rfl, rfl⟩)
          · skip
            refine WL.g rfl (g54) rfl (o_mvh h9 ?_)
            refine WL.g rfl (g54) rfl (o_gt rfl rfl ?_)
            refine WL.g rfl (g54) rfl (o_mvh (show _ = Value.bool _ from rfl) ?_)
            refine WL.sp 9 rfl (fun g57 => ?_) (fun g57 => ?_)
            · skip
              refine WL.g rfl (g57) rfl (o_mvh (show _ = Value.int _ _ from rfl) ?_)
              refine WL.g rfl (g57) rfl (o_eq rfl rfl ?_)
              refine WL.g rfl (g54) rfl (o_pickA rfl rfl ?_)
              refine WL.c rfl (o_pickO rfl rfl ?_)
              exact WL.nil (⟨congrArg Value.bool (by rw [Bool.eq_iff_iff]; simp_all [vfault] <;> omega), h0, h1, h2, h7, h8, h9, rfl, rfl⟩)
            · skip
              refine WL.s rfl (g57) rfl ?_
              refine WL.s rfl (g57) rfl ?_
              refine WL.g rfl (g54) rfl (o_pickF rfl (g57) ?_)
              refine WL.c rfl (o_pickO rfl rfl ?_)
              exact WL.nil (⟨congrArg Value.bool (by rw [Bool.eq_iff_iff]; simp_all [vfault] <;> omega), h0, h1, h2, h7, h8, h9, rfl, rfl⟩)
        · skip
          refine WL.s rfl (g50) rfl ?_
          refine WL.s rfl (g50) rfl ?_
          refine WL.c rfl (o_pickF rfl (g50) ?_)
          refine WL.c rfl (o_mvh (show _ = Value.bool _ from rfl) ?_)
          refine WL.g rfl (rfl) rfl (o_mvh h9 ?_)
          refine WL.g rfl (rfl) rfl (o_gt rfl rfl ?_)
          refine WL.g rfl (rfl) rfl (o_mvh (show _ = Value.bool _ from rfl) ?_)
          refine WL.sp 9 rfl (fun g57 => ?_) (fun g57 => ?_)
          · skip
            refine WL.g rfl (g57) rfl (o_mvh (show _ = Value.int _ _ from rfl) ?_)
            refine WL.g rfl (g57) rfl (o_eq rfl rfl ?_)
            refine WL.g rfl (rfl) rfl (o_pickA rfl rfl ?_)
            refine WL.c rfl (o_pickO rfl rfl ?_)
            exact WL.nil (⟨congrArg Value.bool (by rw [Bool.eq_iff_iff]; simp_all [vfault] <;> omega), h0, h1, h2, h7, h8, h9, rfl, rfl⟩)
          · skip
            refine WL.s rfl (g57) rfl ?_
            refine WL.s rfl (g57) rfl ?_
            refine WL.g rfl (rfl) rfl (o_pickF rfl (g57) ?_)
            refine WL.c rfl (o_pickO rfl rfl ?_)
            exact WL.nil (⟨congrArg Value.bool (by rw [Bool.eq_iff_iff]; simp_all [vfault] <;> omega), h0, h1, h2, h7, h8, h9, rfl, rfl⟩)
      rintro e w ⟨h61, h0, h1, h2, h7, h8, h9, h10, hw1⟩
      subst hw1
      refine W.cond h61 (fun c61 => ?_) (fun c61 => ?_)
      · try simp only [decide_eq_true_eq, decide_eq_false_iff_not, Bool.not_eq_true', Bool.not_eq_false', Bool.and_eq_true, Bool.or_eq_true, Bool.and_eq_false_iff, Bool.or_eq_false_iff] at c61
        have hf : vfault xs[s.pos + k] k = true := c61
        refine W.seq ?_
        refine W.region ?_
        refine WL.c rfl (o_mvh h0 ?_)
        refine WL.c rfl (o_mvh h0 ?_)
        refine WL.c rfl (o_nil rfl ?_)
        refine WL.c rfl (o_fa 1 TI112 rfl TI3 rfl rfl ?_)
        refine WL.c rfl (o_ld TI3 rfl rfl (cell_of hcell rfl) ?_)
        refine WL.c rfl (o_call Try.call75 (lc rfl (lc rfl (lc rfl ln))) ((rfails_spec B0 q bv xs ⟨s.pos + k, s.err, s.bad⟩ 21 (s.pos + k) _ hr he).mono ?_))
        rintro v67 w67 ⟨rfl, hr67, ho67⟩
        refine WL.c rfl (o_ash (show _ = Value.int _ _ from rfl) ?_)
        refine WL.nil ?_
        refine W.ret ?_
        refine ret1v rfl (show _ = Value.int _ _ from rfl) ?_
        have hv : vget 0 0 (xs.drop s.pos) = (0, k, 21) := by
          rw [hg, show xs.drop (s.pos + k) = xs[s.pos + k] :: xs.drop (s.pos + k + 1) by rw [List.getElem_cons_drop], vget, if_pos hf]
        have hrn : rnum xs s lo hi = (0, ⟨s.pos + k, 21, s.pos + k⟩) := by simp [rnum, he, rdN, hv]
        rw [hrn]
        exact ⟨rfl, hr67, ho.trans ho67⟩
      · try simp only [decide_eq_true_eq, decide_eq_false_iff_not, Bool.not_eq_true', Bool.not_eq_false', Bool.and_eq_true, Bool.or_eq_true, Bool.and_eq_false_iff, Bool.or_eq_false_iff] at c61
        have hf : vfault xs[s.pos + k] k = false := c61
        have hc8 : (xs[s.pos + k]).toNat < 256 := UInt8.toNat_lt _
        have hgr := grp (c := (xs[s.pos + k]).toNat) hk9 hm hc8 (vfault9 hf).1
        have hm64 : m < 18446744073709551616 := by have := pow_lt9 hk9; omega
        replace hcell : w.heap[q]? = some (.cells #[bv, .int .i64 ((s.pos + k : Nat) : Int), .int .i64 (s.err : Int), .int .i64 (s.bad : Int)] 112 (0, 0)) := hcell
        refine W.skip ?_
        refine W.seq ?_
        refine W.region ?_
        refine WL.c rfl (o_mvh h7 ?_)
        refine WL.c rfl (o_mvh h10 ?_)
        refine WL.c rfl (n_rem (b := 128) rfl rfl (by decide) ?_)
        refine WL.c rfl (n_cvI 18446744073709551616 rfl TI5 TI68 (by decide) rfl ?_)
        refine WL.c rfl (o_mvh h9 ?_)
        refine WL.c rfl (o_muli rfl rfl (by omega) ?_)
        refine WL.c rfl (n_shl (b := 7 * k) 18446744073709551616 rfl (by decide) rfl (by show Value.int _ (7 * (k : Int)) = _; rfl) ?_)
        refine WL.c rfl (n_add 18446744073709551616 rfl (by decide) rfl rfl ?_)
        have hval : (m + (xs[s.pos + k].toNat % 128 % 18446744073709551616) * 2 ^ (7 * k) % 18446744073709551616) % 18446744073709551616 = m + xs[s.pos + k].toNat % 128 * 128 ^ k := by
          rw [shl_eq, Nat.mod_eq_of_lt (show xs[s.pos + k].toNat % 128 < 18446744073709551616 by omega), Nat.mod_eq_of_lt (show xs[s.pos + k].toNat % 128 * 128 ^ k < 18446744073709551616 by have := hgr.2.1; omega), Nat.mod_eq_of_lt (by have := hgr.2.1; omega)]
        rw [hval]
        refine WL.c rfl (o_ash (show _ = Value.int _ _ from rfl) ?_)
        refine WL.nil ?_
        refine W.seq ?_
        refine W.region ?_
        refine WL.c rfl (o_mvh h0 ?_)
        refine WL.c rfl (o_nil rfl ?_)
        refine WL.c rfl (o_fa 1 TI112 rfl TI3 rfl rfl ?_)
        refine WL.c rfl (o_ld TI3 rfl rfl (cell_of hcell rfl) ?_)
        refine WL.c rfl (o_addi rfl rfl (by omega) ?_)
        refine WL.c rfl (o_nil rfl ?_)
        refine WL.c rfl (o_fa 1 TI112 rfl TI3 rfl rfl ?_)
        refine WL.u (o_stB TI3 rfl (show _ = Value.int _ _ from rfl) rfl hcell (show 1 < 4 by decide) ?_)
        intro w82 hB82 ho82 hs82
        have hr2 : RRd w82 B0 q bv xs ⟨s.pos + (k + 1), s.err, s.bad⟩ := RRd.put hr ho82 hB82 (by show s.pos + (k + 1) ≤ _; omega)
        have ho2 := ho.trans ho82
        refine WL.nil ?_
        refine W.seq ?_
        refine W.region ?_
        refine WL.c rfl (o_mvh h10 ?_)
        refine WL.c rfl (o_lt rfl rfl ?_)
        refine WL.nil ?_
        refine W.cond rfl (fun c84 => ?_) (fun c84 => ?_)
        · try simp only [decide_eq_true_eq, decide_eq_false_iff_not, Bool.not_eq_true', Bool.not_eq_false', Bool.and_eq_true, Bool.or_eq_true, Bool.and_eq_false_iff, Bool.or_eq_false_iff] at c84
          obtain ⟨n, hn⟩ : ∃ n, n = m + xs[s.pos + k].toNat % 128 * 128 ^ k := ⟨_, rfl⟩
          have hv : vget 0 0 (xs.drop s.pos) = (n, k + 1, 0) := by
            rw [hg, show xs.drop (s.pos + k) = xs[s.pos + k] :: xs.drop (s.pos + k + 1) by rw [List.getElem_cons_drop], vget, if_neg (by simp [hf]), if_pos (by omega), hn]
          rw [← hn]
          have hn64 : n < 18446744073709551616 := by rw [hn]; exact hgr.2.1
          refine W.exit ?_
          refine W.seq ?_
          refine W.seq ?_
          by_cases hgt : hi < (n : Int)
          · skip
            skip
            refine W.region ?_
            refine WL.c rfl (o_mvh (show _ = Value.int _ _ from rfl) ?_)
            refine WL.c rfl (o_mvh h2 ?_)
            refine WL.c rfl (o_cvN TI3 TI68 rfl hhi (by omega) ?_)
            refine WL.c rfl (o_gt rfl rfl ?_)
            refine WL.c rfl (o_mvh (show _ = Value.bool _ from rfl) ?_)
            refine WL.s rfl (decide_eq_true (by omega)) rfl ?_
            refine WL.s rfl (decide_eq_true (by omega)) rfl ?_
            refine WL.s rfl (decide_eq_true (by omega)) rfl ?_
            refine WL.s rfl (decide_eq_true (by omega)) rfl ?_
            refine WL.c rfl (o_pickT rfl (decide_eq_true (by omega)) ?_)
            refine WL.nil ?_
            refine W.condT' rfl (rfl) ?_
            refine W.seq ?_
            refine W.region ?_
            refine WL.c rfl (o_mvh h0 ?_)
            refine WL.c rfl (o_mvh h8 ?_)
            refine WL.c rfl (o_call Try.call75 (lc rfl (lc rfl (lc rfl ln))) ((rfails_spec B0 q bv xs ⟨s.pos + (k + 1), s.err, s.bad⟩ 221 s.pos _ hr2 he).mono ?_))
            rintro v97 w97 ⟨rfl, hr97, ho97⟩
            refine WL.c rfl (o_ash (show _ = Value.int _ _ from rfl) ?_)
            refine WL.nil ?_
            refine W.ret ?_
            refine ret1v rfl (show _ = Value.int _ _ from rfl) ?_
            have hrn : rnum xs s lo hi = (0, ⟨s.pos + (k + 1), 221, s.pos⟩) := by simp [rnum, he, rdN, hv, hgt]
            rw [hrn]
            exact ⟨rfl, hr97, ho2.trans ho97⟩
          · skip
            skip
            refine W.region ?_
            refine WL.c rfl (o_mvh (show _ = Value.int _ _ from rfl) ?_)
            refine WL.c rfl (o_mvh h2 ?_)
            refine WL.c rfl (o_cvN TI3 TI68 rfl hhi (by omega) ?_)
            refine WL.c rfl (o_gt rfl rfl ?_)
            refine WL.c rfl (o_mvh (show _ = Value.bool _ from rfl) ?_)
            refine WL.g rfl (decide_eq_false (by omega)) rfl (o_mvh (show _ = Value.int _ _ from rfl) ?_)
            refine WL.g rfl (decide_eq_false (by omega)) rfl (o_cvM TI68 TI3 rfl (by omega) ?_)
            refine WL.g rfl (decide_eq_false (by omega)) rfl (o_mvh h1 ?_)
            refine WL.g rfl (decide_eq_false (by omega)) rfl (o_lt rfl rfl ?_)
            refine WL.c rfl (o_pickO rfl rfl ?_)
            refine WL.nil ?_
            refine W.cond rfl (fun c94 => ?_) (fun c94 => ?_)
            · try simp only [decide_eq_true_eq, decide_eq_false_iff_not, Bool.not_eq_true', Bool.not_eq_false', Bool.and_eq_true, Bool.or_eq_true, Bool.and_eq_false_iff, Bool.or_eq_false_iff] at c94
              refine W.seq ?_
              refine W.region ?_
              refine WL.c rfl (o_mvh h0 ?_)
              refine WL.c rfl (o_mvh h8 ?_)
              refine WL.c rfl (o_call Try.call75 (lc rfl (lc rfl (lc rfl ln))) ((rfails_spec B0 q bv xs ⟨s.pos + (k + 1), s.err, s.bad⟩ 221 s.pos _ hr2 he).mono ?_))
              rintro v97 w97 ⟨rfl, hr97, ho97⟩
              refine WL.c rfl (o_ash (show _ = Value.int _ _ from rfl) ?_)
              refine WL.nil ?_
              refine W.ret ?_
              refine ret1v rfl (show _ = Value.int _ _ from rfl) ?_
              have hrn : rnum xs s lo hi = (0, ⟨s.pos + (k + 1), 221, s.pos⟩) := by
                have : hi < (n : Int) ∨ (n : Int) < lo := by omega
                simp [rnum, he, rdN, hv, this]
              rw [hrn]
              exact ⟨rfl, hr97, ho2.trans ho97⟩
            · try simp only [decide_eq_true_eq, decide_eq_false_iff_not, Bool.not_eq_true', Bool.not_eq_false', Bool.and_eq_true, Bool.or_eq_true, Bool.and_eq_false_iff, Bool.or_eq_false_iff] at c94
              refine W.skip ?_
              refine W.seq ?_
              refine W.region ?_
              refine WL.c rfl (o_mvh (show _ = Value.int _ _ from rfl) ?_)
              refine WL.c rfl (o_cvM TI68 TI3 rfl (by omega) ?_)
              refine WL.c rfl (o_ash (show _ = Value.int _ _ from rfl) ?_)
              refine WL.nil ?_
              refine W.ret ?_
              refine ret1v rfl (show _ = Value.int _ _ from rfl) ?_
              have hrn : rnum xs s lo hi = (n, ⟨s.pos + (k + 1), 0, s.bad⟩) := by
                have : ¬ (hi < (n : Int) ∨ (n : Int) < lo) := by omega
                simp [rnum, he, rdN, hv, this]
              rw [hrn]
              rw [he] at hr2
              exact ⟨rfl, hr2, ho2⟩
        · try simp only [decide_eq_true_eq, decide_eq_false_iff_not, Bool.not_eq_true', Bool.not_eq_false', Bool.and_eq_true, Bool.or_eq_true, Bool.and_eq_false_iff, Bool.or_eq_false_iff] at c84
          refine W.skip ?_
          refine W.region ?_
          refine WL.c rfl (o_mvh h9 ?_)
          refine WL.c rfl (o_addi rfl rfl (by omega) ?_)
          refine WL.c rfl (o_ash (show _ = Value.int _ _ from rfl) ?_)
          refine WL.nil ?_
          have hcons : xs.drop (s.pos + k) = xs[s.pos + k] :: xs.drop (s.pos + (k + 1)) := by rw [show s.pos + (k + 1) = s.pos + k + 1 by omega, List.getElem_cons_drop]
          rw [hcons, vget, if_neg (by simp [hf]), if_neg (by omega)] at hg
          have hk8 : k < 9 := by have := vfault9 hf; omega
          refine ⟨⟨k + 1, _, h0, h1, h2, rfl, h8, rfl, by omega, hgr.2.2 hk8, by omega, hg, hr2, ho2⟩, ?_⟩
          show xs.length - ((k : Int) + 1).toNat < _
          rw [hm9]; simp only [intOf]; omega

def rtab (xs : List UInt8) : Nat → RSt → List Int → List Int × RSt
  | 0, s, acc => (acc, s)
  | m + 1, s, acc => if s.err = 0 then rtab xs m (rnum xs s 0 Huge).2 (acc ++ [((rnum xs s 0 Huge).1 : Int)]) else (acc, s)
structure R7 where
  s1 : RSt
  s2 : RSt
  s3 : RSt
  s4 : RSt
  s5 : RSt
  s6 : RSt
  s7 : RSt
def r7 (xs : List UInt8) (s : RSt) : R7 :=
  let s1 := (rnum xs s 0 Huge).2
  let s2 := (rnum xs s1 0 Huge).2
  let s3 := (rnum xs s2 0 Huge).2
  let s4 := (rnum xs s3 0 4611686018427387905).2
  let s5 := (rnum xs s4 0 4611686018427387905).2
  let s6 := (rnum xs s5 0 Huge).2
  ⟨s1, s2, s3, s4, s5, s6, (rnum xs s6 0 1048576).2⟩
def rframe (xs : List UInt8) (s : RSt) : Fr × RSt :=
  (⟨(rnum xs s 0 Huge).1, (rnum xs (r7 xs s).s1 0 Huge).1, (rnum xs (r7 xs s).s2 0 Huge).1, ((rnum xs (r7 xs s).s3 0 4611686018427387905).1 : Int) - 1, ((rnum xs (r7 xs s).s4 0 4611686018427387905).1 : Int) - 1, (rnum xs (r7 xs s).s5 0 Huge).1, (rtab xs (rnum xs (r7 xs s).s6 0 1048576).1 (r7 xs s).s7 []).1⟩, (rtab xs (rnum xs (r7 xs s).s6 0 1048576).1 (r7 xs s).s7 []).2)
def rlist (xs : List UInt8) : Nat → RSt → List Fr → List Fr × RSt
  | 0, s, acc => (acc, s)
  | m + 1, s, acc => if s.err = 0 then rlist xs m (rframe xs s).2 (acc ++ [(rframe xs s).1]) else (acc, s)
/-- a reading by faults that are kept, beside one that ends at the first -/
def Agree {α : Type} (r : Rd α) (x : α × RSt) (b : Nat) : Prop := match r with
  | .ok v a => x = (v, ⟨a, 0, b⟩)
  | .bad e a => e ≠ 0 ∧ x.2.err = e ∧ x.2.bad = a
theorem rnum_skip {xs : List UInt8} {s : RSt} {lo hi : Int} (h : s.err ≠ 0) : rnum xs s lo hi = (0, s) := by rw [rnum, if_neg h]
theorem rdN_ne {xs : List UInt8} {p e a : Nat} {lo hi : Int} (h : rdN xs p lo hi = .bad e a) : e ≠ 0 := by
  unfold rdN at h
  split at h
  · split at h
    · simp only [Rd.bad.injEq] at h; omega
    · cases h
  · rename_i h0; simp only [Rd.bad.injEq] at h; rw [← h.1]; exact h0
theorem rnum_ok {xs : List UInt8} {p b n a : Nat} {lo hi : Int} (h : rdN xs p lo hi = .ok n a) : rnum xs ⟨p, 0, b⟩ lo hi = (n, ⟨a, 0, b⟩) := by rw [rnum, if_pos rfl, h]
theorem rnum_bad {xs : List UInt8} {p b e a : Nat} {lo hi : Int} (h : rdN xs p lo hi = .bad e a) : ∃ q, rnum xs ⟨p, 0, b⟩ lo hi = (0, ⟨q, e, a⟩) := by rw [rnum, if_pos rfl, h]; exact ⟨_, rfl⟩
theorem rtab_skip {xs : List UInt8} {s : RSt} (h : s.err ≠ 0) : ∀ (m : Nat) (acc : List Int), rtab xs m s acc = (acc, s)
  | 0, _ => rfl
  | m + 1, acc => by rw [rtab, if_neg h]
theorem rtab_agree {xs : List UInt8} : ∀ (m p b : Nat) (acc : List Int), Agree (rdMany xs m p acc) (rtab xs m ⟨p, 0, b⟩ acc) b
  | 0, p, b, acc => rfl
  | m + 1, p, b, acc => by
    rw [rdMany, rtab, if_pos rfl]
    cases h : rdN xs p 0 Huge with
    | ok n a => rw [rnum_ok h]; exact rtab_agree m a b _
    | bad e a =>
      obtain ⟨q, hq⟩ := rnum_bad (b := b) h
      have hne := rdN_ne h
      rw [hq, rtab_skip (s := ⟨q, e, a⟩) hne]
      exact ⟨hne, rfl, rfl⟩
theorem rframe_skip {xs : List UInt8} {s : RSt} (h : s.err ≠ 0) : (rframe xs s).2 = s := by
  have e1 : (r7 xs s) = ⟨s, s, s, s, s, s, s⟩ := by simp [r7, rnum_skip h]
  simp only [rframe, e1]
  rw [rtab_skip h]
theorem rframe_agree {xs : List UInt8} (p b : Nat) : Agree (rdF xs p) (rframe xs ⟨p, 0, b⟩) b := by
  rw [rdF]
  have bad : ∀ {s : RSt} {e a : Nat}, s.err = e → s.bad = a → e ≠ 0 → ∀ {α : Type} (x : α), (Rd.bad e a : Rd α) = .bad e a := fun _ _ _ _ _ => rfl
  cases h1 : rdN xs p 0 Huge with
  | bad e a =>
    obtain ⟨q, hq⟩ := rnum_bad (b := b) h1
    have hne := rdN_ne h1
    simp only [Rd.bind, Agree, rframe, r7, hq, rnum_skip (s := ⟨q, e, a⟩) hne, rtab_skip (s := ⟨q, e, a⟩) hne]
    exact ⟨hne, by first | trivial | exact ⟨rfl, rfl⟩⟩
  | ok n1 a1 =>
  simp only [Rd.bind]
  cases h2 : rdN xs a1 0 Huge with
  | bad e a =>
    obtain ⟨q, hq⟩ := rnum_bad (b := b) h2
    have hne := rdN_ne h2
    simp only [Agree, rframe, r7, rnum_ok (b := b) h1, hq, rnum_skip (s := ⟨q, e, a⟩) hne, rtab_skip (s := ⟨q, e, a⟩) hne]
    exact ⟨hne, by first | trivial | exact ⟨rfl, rfl⟩⟩
  | ok n2 a2 =>
  simp only [Rd.bind]
  cases h3 : rdN xs a2 0 Huge with
  | bad e a =>
    obtain ⟨q, hq⟩ := rnum_bad (b := b) h3
    have hne := rdN_ne h3
    simp only [Agree, rframe, r7, rnum_ok (b := b) h1, rnum_ok (b := b) h2, hq, rnum_skip (s := ⟨q, e, a⟩) hne, rtab_skip (s := ⟨q, e, a⟩) hne]
    exact ⟨hne, by first | trivial | exact ⟨rfl, rfl⟩⟩
  | ok n3 a3 =>
  simp only [Rd.bind]
  cases h4 : rdN xs a3 0 4611686018427387905 with
  | bad e a =>
    obtain ⟨q, hq⟩ := rnum_bad (b := b) h4
    have hne := rdN_ne h4
    simp only [Agree, rframe, r7, rnum_ok (b := b) h1, rnum_ok (b := b) h2, rnum_ok (b := b) h3, hq, rnum_skip (s := ⟨q, e, a⟩) hne, rtab_skip (s := ⟨q, e, a⟩) hne]
    exact ⟨hne, by first | trivial | exact ⟨rfl, rfl⟩⟩
  | ok n4 a4 =>
  simp only [Rd.bind]
  cases h5 : rdN xs a4 0 4611686018427387905 with
  | bad e a =>
    obtain ⟨q, hq⟩ := rnum_bad (b := b) h5
    have hne := rdN_ne h5
    simp only [Agree, rframe, r7, rnum_ok (b := b) h1, rnum_ok (b := b) h2, rnum_ok (b := b) h3, rnum_ok (b := b) h4, hq, rnum_skip (s := ⟨q, e, a⟩) hne, rtab_skip (s := ⟨q, e, a⟩) hne]
    exact ⟨hne, by first | trivial | exact ⟨rfl, rfl⟩⟩
  | ok n5 a5 =>
  simp only [Rd.bind]
  cases h6 : rdN xs a5 0 Huge with
  | bad e a =>
    obtain ⟨q, hq⟩ := rnum_bad (b := b) h6
    have hne := rdN_ne h6
    simp only [Agree, rframe, r7, rnum_ok (b := b) h1, rnum_ok (b := b) h2, rnum_ok (b := b) h3, rnum_ok (b := b) h4, rnum_ok (b := b) h5, hq, rnum_skip (s := ⟨q, e, a⟩) hne, rtab_skip (s := ⟨q, e, a⟩) hne]
    exact ⟨hne, by first | trivial | exact ⟨rfl, rfl⟩⟩
  | ok n6 a6 =>
  simp only [Rd.bind]
  cases h7 : rdN xs a6 0 1048576 with
  | bad e a =>
    obtain ⟨q, hq⟩ := rnum_bad (b := b) h7
    have hne := rdN_ne h7
    simp only [Agree, rframe, r7, rnum_ok (b := b) h1, rnum_ok (b := b) h2, rnum_ok (b := b) h3, rnum_ok (b := b) h4, rnum_ok (b := b) h5, rnum_ok (b := b) h6, hq, rtab_skip (s := ⟨q, e, a⟩) hne]
    exact ⟨hne, by first | trivial | exact ⟨rfl, rfl⟩⟩
  | ok m a7 =>
  simp only [Rd.bind]
  have ht := rtab_agree (xs := xs) m a7 b []
  have e2 : r7 xs ⟨p, 0, b⟩ = ⟨⟨a1, 0, b⟩, ⟨a2, 0, b⟩, ⟨a3, 0, b⟩, ⟨a4, 0, b⟩, ⟨a5, 0, b⟩, ⟨a6, 0, b⟩, ⟨a7, 0, b⟩⟩ := by
    simp only [r7, rnum_ok (b := b) h1, rnum_ok (b := b) h2, rnum_ok (b := b) h3, rnum_ok (b := b) h4, rnum_ok (b := b) h5, rnum_ok (b := b) h6, rnum_ok (b := b) h7]
  simp only [rframe, e2, rnum_ok (b := b) h1, rnum_ok (b := b) h2, rnum_ok (b := b) h3, rnum_ok (b := b) h4, rnum_ok (b := b) h5, rnum_ok (b := b) h6, rnum_ok (b := b) h7]
  cases h8 : rdMany xs m a7 [] with
  | bad e a =>
    rw [h8] at ht
    exact ht
  | ok t a8 =>
    rw [h8] at ht
    simp only [Agree] at ht ⊢
    rw [ht]
theorem rlist_skip {xs : List UInt8} {s : RSt} (h : s.err ≠ 0) : ∀ (m : Nat) (acc : List Fr), rlist xs m s acc = (acc, s)
  | 0, _ => rfl
  | m + 1, acc => by rw [rlist, if_neg h]
theorem rlist_agree {xs : List UInt8} : ∀ (m p b : Nat) (acc : List Fr), Agree (rdL xs m p acc) (rlist xs m ⟨p, 0, b⟩ acc) b
  | 0, p, b, acc => rfl
  | m + 1, p, b, acc => by
    rw [rdL, rlist, if_pos rfl]
    have hf := rframe_agree (xs := xs) p b
    cases h : rdF xs p with
    | ok f a =>
      rw [h] at hf
      simp only [Agree] at hf
      rw [hf]
      show Agree (rdL xs m a (acc ++ [f])) (rlist xs m ⟨a, 0, b⟩ (acc ++ [f])) b
      exact rlist_agree m a b (acc ++ [f])
    | bad e a =>
      rw [h] at hf
      simp only [Agree] at hf
      have hs := rlist_skip (xs := xs) (s := (rframe xs ⟨p, 0, b⟩).2) (by rw [hf.2.1]; exact hf.1) m (acc ++ [(rframe xs ⟨p, 0, b⟩).1])
      rw [hs]
      simp only [Rd.bind, Agree]
      exact hf
theorem rtab_len {xs : List UInt8} : ∀ (m : Nat) (s : RSt) (acc : List Int), (rtab xs m s acc).1.length ≤ acc.length + m
  | 0, s, acc => Nat.le_refl _
  | m + 1, s, acc => by
    rw [rtab]
    split
    · have := rtab_len (xs := xs) m (rnum xs s 0 Huge).2 (acc ++ [((rnum xs s 0 Huge).1 : Int)])
      rw [List.length_append, List.length_singleton] at this; omega
    · simp only []; omega
theorem rnum_le {xs : List UInt8} {s : RSt} {lo hi : Int} (hh : 0 ≤ hi) : ((rnum xs s lo hi).1 : Int) ≤ hi := by
  rw [rnum]
  split
  · split
    · rename_i h; exact (rdN_ok h).2
    · simp; exact hh
  · simp; exact hh


theorem RStk.mono {w : World} {H H' p most high : Nat} {L : List Fr} {lv : Value} {V : Nat → Value} (h : RStk w H p most high L lv V) (hH : H' ≤ H) : RStk w H' p most high L lv V := ⟨h.cell, h.rows.mono hH, Nat.le_trans hH h.lo, h.mb, h.len, h.tl⟩


theorem rload_final {xs : List UInt8} {n1 n2 n3 : Nat} {s1 s2 s3 s : RSt} {acc : List Fr} (h1 : n1 = (rnum xs ⟨1, 0, 0⟩ 1 1048576).1) (g1 : s1 = (rnum xs ⟨1, 0, 0⟩ 1 1048576).2) (h2 : n2 = (rnum xs s1 0 n1).1) (g2 : s2 = (rnum xs s1 0 n1).2) (h3 : n3 = (rnum xs s2 n2 n1).1) (g3 : s3 = (rnum xs s2 n2 n1).2) (hL : rlist xs n2 s3 [] = (acc, s)) :
    (s.err = 0 → rdS1 xs = if s.pos < xs.length then .bad 124 s.pos else .ok ⟨n1, n3, acc⟩ s.pos) ∧ (s.err ≠ 0 → rdS1 xs = .bad s.err s.bad) := by
  have done : ∀ {e a q : Nat}, e ≠ 0 → s = ⟨q, e, a⟩ → rdS1 xs = .bad e a → (s.err = 0 → rdS1 xs = if s.pos < xs.length then .bad 124 s.pos else .ok ⟨n1, n3, acc⟩ s.pos) ∧ (s.err ≠ 0 → rdS1 xs = .bad s.err s.bad) := by
    intro e a q hne hs hr
    subst hs
    exact ⟨fun h => absurd h hne, fun _ => hr⟩
  cases c1 : rdN xs 1 1 1048576 with
  | bad e a =>
    obtain ⟨q, hq⟩ := rnum_bad (b := 0) c1
    have hne := rdN_ne c1
    have e0 : s1 = ⟨q, e, a⟩ := by rw [g1, hq]
    have e1 : s2 = ⟨q, e, a⟩ := by rw [g2, e0, rnum_skip (s := ⟨q, e, a⟩) hne]
    have e2 : s3 = ⟨q, e, a⟩ := by rw [g3, e1, rnum_skip (s := ⟨q, e, a⟩) hne]
    rw [e2, rlist_skip (s := ⟨q, e, a⟩) hne] at hL
    exact done hne (Prod.mk.inj hL).2.symm (by rw [rdS1, c1]; rfl)
  | ok m1 a1 =>
  have e1 : n1 = m1 ∧ s1 = ⟨a1, 0, 0⟩ := by rw [h1, g1, rnum_ok c1]; exact ⟨rfl, rfl⟩
  obtain ⟨rfl, rfl⟩ := e1
  cases c2 : rdN xs a1 0 n1 with
  | bad e a =>
    obtain ⟨q, hq⟩ := rnum_bad (b := 0) c2
    have hne := rdN_ne c2
    have e1 : s2 = ⟨q, e, a⟩ := by rw [g2, hq]
    have e2 : s3 = ⟨q, e, a⟩ := by rw [g3, e1, rnum_skip (s := ⟨q, e, a⟩) hne]
    rw [e2, rlist_skip (s := ⟨q, e, a⟩) hne] at hL
    exact done hne (Prod.mk.inj hL).2.symm (by rw [rdS1, c1]; simp only [Rd.bind, c2])
  | ok m2 a2 =>
  have e1 : n2 = m2 ∧ s2 = ⟨a2, 0, 0⟩ := by rw [h2, g2, rnum_ok c2]; exact ⟨rfl, rfl⟩
  obtain ⟨rfl, rfl⟩ := e1
  cases c3 : rdN xs a2 n2 n1 with
  | bad e a =>
    obtain ⟨q, hq⟩ := rnum_bad (b := 0) c3
    have hne := rdN_ne c3
    have e2 : s3 = ⟨q, e, a⟩ := by rw [g3, hq]
    rw [e2, rlist_skip (s := ⟨q, e, a⟩) hne] at hL
    exact done hne (Prod.mk.inj hL).2.symm (by rw [rdS1, c1]; simp only [Rd.bind, c2, c3])
  | ok m3 a3 =>
  have e1 : n3 = m3 ∧ s3 = ⟨a3, 0, 0⟩ := by rw [h3, g3, rnum_ok c3]; exact ⟨rfl, rfl⟩
  obtain ⟨rfl, rfl⟩ := e1
  have hag := rlist_agree (xs := xs) n2 a3 0 []
  rw [hL] at hag
  cases c4 : rdL xs n2 a3 [] with
  | bad e a =>
    rw [c4] at hag
    simp only [Agree] at hag
    refine ⟨fun h => absurd (hag.2.1.symm.trans h) hag.1, fun _ => ?_⟩
    rw [rdS1, c1]
    simp only [Rd.bind, c2, c3, c4]
    rw [hag.2.1, hag.2.2]
  | ok L a =>
    rw [c4] at hag
    simp only [Agree, Prod.mk.injEq] at hag
    obtain ⟨rfl, rfl⟩ := hag
    refine ⟨fun _ => ?_, fun h => absurd rfl h⟩
    rw [rdS1, c1]
    simp only [Rd.bind, c2, c3, c4]
theorem tl_snoc' {L : List Fr} {f : Fr} (h : ∀ k, k < L.length → (tabl L k).length ≤ 1048576) (hf : f.tab.length ≤ 1048576) : ∀ k, k < (L ++ [f]).length → (tabl (L ++ [f]) k).length ≤ 1048576 := fun k hk => by
  rw [List.length_append, List.length_singleton] at hk
  by_cases e : k < L.length
  · have := h k e
    simp only [tabl, List.getD_eq_getElem?_getD] at this ⊢
    rw [List.getElem?_append_left e]; exact this
  · have e2 : k = L.length := by omega
    subst e2
    simp [tabl]; exact hf

set_option maxHeartbeats 2000000 in
theorem rload_spec (bw : Value) (xs : List UInt8) (w0 : World) (hB : By w0 bw xs) (hsm : xs.length ≤ 1000000000000000000) : Ca Try.prog 69 #[bw] w0 (fun v w' => (∀ s a, rdS xs = .ok s a → ∃ p lv V, v = .tuple #[.pointer (some ⟨p, 0, none⟩), .int .i64 0, .int .i64 0] ∧ RStk w' w0.heap.size p s.most s.high s.L lv V ∧ Ext w0 w') ∧ (∀ e a, rdS xs = .bad e a → v = .tuple #[.pointer none, .int .i64 (e : Int), .int .i64 (a : Int)] ∧ Ext w0 w')) := by
  obtain ⟨ba, bc, rfl⟩ := hB.isSlice
  refine Ca.of Try.func69 Try.ntmps69 rfl rfl ?_
  refine W.seq ?_
  refine W.region ?_
  refine WL.c rfl (o_ash (by first | exact (show _ = Value.pointer _ from rfl) | exact rfl) ?_)
  refine WL.c rfl (o_ash (show _ = Value.int _ _ from rfl) ?_)
  refine WL.c rfl (o_ash (show _ = Value.int _ _ from rfl) ?_)
  refine WL.nil ?_
  refine W.seq ?_
  refine W.region ?_
  refine WL.c rfl (o_mvh (by first | exact (show _ = Value.slice _ _ _ from rfl) | exact rfl) ?_)
  refine WL.c rfl (o_bldC (cs := [_, (.int .i64 1), (.int .i64 0), (.int .i64 0)]) TI112 (Sizes.cons TI23 (Sizes.cons TI3 (Sizes.cons TI3 (Sizes.cons TI3 Sizes.nil)))) rfl (lcp (show _ = Value.slice ba xs.length bc from rfl) (lcp (show _ = Value.int _ _ from rfl) lnp)) rfl rfl ?_)
  refine WL.c rfl (o_boxB rfl ?_)
  intro w14 hC14 hx14 hs14
  replace hC14 : w14.heap[w0.heap.size]? = some (.cells #[Value.slice ba xs.length bc, .int .i64 1, .int .i64 0, .int .i64 0] 112 (0, 0)) := hC14
  have hB1 := Sl.ext hB hx14
  refine WL.c rfl (o_ash (by first | exact (show _ = Value.pointer _ from rfl) | exact rfl) ?_)
  refine WL.nil ?_
  refine W.seq ?_
  refine W.seq ?_
  refine W.region ?_
  refine WL.c rfl (o_mvh (by first | exact (show _ = Value.slice _ _ _ from rfl) | exact rfl) ?_)
  refine WL.c rfl (o_lenR TI23 rfl hB1 ?_)
  refine WL.c rfl (o_eq rfl rfl ?_)
  refine WL.nil ?_
  refine W.cond rfl (fun c17 => ?_) (fun c17 => ?_)
  · try simp only [decide_eq_true_eq, decide_eq_false_iff_not, Bool.not_eq_true', Bool.not_eq_false', Bool.and_eq_true, Bool.or_eq_true, Bool.and_eq_false_iff, Bool.or_eq_false_iff] at c17
    refine W.seq ?_
    refine W.region ?_
    refine WL.c rfl (o_ash (by first | exact (show _ = Value.pointer _ from rfl) | exact rfl) ?_)
    refine WL.c rfl (o_ash (show _ = Value.int _ _ from rfl) ?_)
    refine WL.c rfl (o_ash (show _ = Value.int _ _ from rfl) ?_)
    refine WL.nil ?_
    refine W.ret ?_
    refine ret3v rfl (show _ = Value.pointer _ from rfl) (show _ = Value.int _ _ from rfl) (show _ = Value.int _ _ from rfl) ?_
    have hbd : rdS xs = .bad 20 0 := by rw [rdS, if_pos (by omega)]
    refine ⟨fun s a h => (by rw [hbd] at h; cases h), fun e a h => ?_⟩
    rw [hbd] at h
    cases h
    exact ⟨rfl, hx14⟩
  · try simp only [decide_eq_true_eq, decide_eq_false_iff_not, Bool.not_eq_true', Bool.not_eq_false', Bool.and_eq_true, Bool.or_eq_true, Bool.and_eq_false_iff, Bool.or_eq_false_iff] at c17
    have hpos : 0 < xs.length := by omega
    refine W.skip ?_
    refine W.seq ?_
    refine W.seq ?_
    refine W.region ?_
    refine WL.c rfl (o_mvh (by first | exact (show _ = Value.slice _ _ _ from rfl) | exact rfl) ?_)
    refine WL.c rfl (o_ix1 (i := 0) TI23 TI5 rfl rfl hB1 (by omega) ?_)
    intro b17 o17 hc17 hb17
    refine WL.c rfl (o_ld TI5 rfl rfl (hc17.trans (getbv hpos)) ?_)
    refine WL.c rfl (o_ne rfl rfl ?_)
    refine WL.nil ?_
    refine W.cond rfl (fun c21 => ?_) (fun c21 => ?_)
    · try simp only [decide_eq_true_eq, decide_eq_false_iff_not, Bool.not_eq_true', Bool.not_eq_false', Bool.and_eq_true, Bool.or_eq_true, Bool.and_eq_false_iff, Bool.or_eq_false_iff] at c21
      refine W.seq ?_
      refine W.region ?_
      refine WL.c rfl (o_ash (by first | exact (show _ = Value.pointer _ from rfl) | exact rfl) ?_)
      refine WL.c rfl (o_ash (show _ = Value.int _ _ from rfl) ?_)
      refine WL.c rfl (o_ash (show _ = Value.int _ _ from rfl) ?_)
      refine WL.nil ?_
      refine W.ret ?_
      refine ret3v rfl (show _ = Value.pointer _ from rfl) (show _ = Value.int _ _ from rfl) (show _ = Value.int _ _ from rfl) ?_
      have hbd : rdS xs = .bad 221 0 := by rw [rdS, if_neg (by omega), head_get hpos, if_neg (by intro he; simp only [Option.some.injEq] at he; rw [he] at c21; exact absurd rfl c21)]
      refine ⟨fun s a h => (by rw [hbd] at h; cases h), fun e a h => ?_⟩
      rw [hbd] at h
      cases h
      exact ⟨rfl, hx14⟩
    · try simp only [decide_eq_true_eq, decide_eq_false_iff_not, Bool.not_eq_true', Bool.not_eq_false', Bool.and_eq_true, Bool.or_eq_true, Bool.and_eq_false_iff, Bool.or_eq_false_iff] at c21
      have hS0 : rdS xs = rdS1 xs := by rw [rdS, if_neg (by omega), head_get hpos, if_pos (congrArg some (bv_eq (d := 102) (by simpa using c21)))]
      have hr : RRd w14 w0.heap.size w0.heap.size (Value.slice ba xs.length bc) xs ⟨1, 0, 0⟩ := ⟨hC14, hB1, fun b hb hge => by have := Sl.low hB b hb hge; rwa [List.map_eq_nil_iff] at this, Nat.le_refl _, hpos, hsm⟩
      have hx := hx14
      clear hC14
      refine W.skip ?_
      refine W.seq ?_
      refine W.region ?_
      refine WL.c rfl (o_mvh (by first | exact (show _ = Value.pointer _ from rfl) | exact rfl) ?_)
      refine WL.c rfl (o_call Try.call74 (lc rfl (lc rfl (lc rfl ln))) ((rnumber_spec w0.heap.size w0.heap.size 1 1048576 _ xs (⟨1, 0, 0⟩ : RSt) _ hr (by decide) (by decide) (by decide)).mono ?_))
      rintro v23 w23 ⟨rfl, hr', ho23⟩
      replace hr := hr'
      clear hr'
      obtain ⟨n1, hn1⟩ : ∃ n, n = (rnum xs (⟨1, 0, 0⟩ : RSt) 1 1048576).1 := ⟨_, rfl⟩
      obtain ⟨s1, hs1⟩ : ∃ t, t = (rnum xs (⟨1, 0, 0⟩ : RSt) 1 1048576).2 := ⟨_, rfl⟩
      rw [← hs1] at hr
      rw [← hn1]
      replace hx := hx.trans' ho23 (fun _ h => h) (fun k hk he => by omega)
      have hn1l : (n1 : Int) ≤ 1048576 := by rw [hn1]; exact rnum_le (by decide)
      have hq0 : w0.heap.size < w23.heap.size := (Array.getElem?_eq_some_iff.1 hr.cell).1
      refine WL.c rfl (o_bldC (cs := [(.slice none 0 0), _, (.int .i64 0)]) TI95 (Sizes.cons TI22 (Sizes.cons TI3 (Sizes.cons TI3 Sizes.nil))) rfl (lcp (show _ = Value.int _ _ from rfl) lnp) rfl rfl ?_)
      refine WL.c rfl (o_boxB rfl ?_)
      intro w25 hCs hx25 hs25
      obtain ⟨cs, hcs⟩ : ∃ c, c = w23.heap.size := ⟨_, rfl⟩
      rw [← hcs] at hCs ⊢
      replace hCs : w25.heap[cs]? = some (.cells #[.slice none 0 0, .int .i64 (n1 : Int), .int .i64 0] 95 (0, 0)) := hCs
      replace hr := hr.ext hx25
      replace hx := hx.tr hx25
      have hcs0 : w0.heap.size < cs := by omega
      refine WL.c rfl (o_ash (by first | exact (show _ = Value.pointer _ from rfl) | exact rfl) ?_)
      refine WL.nil ?_
      refine W.seq ?_
      refine W.region ?_
      refine WL.c rfl (o_mvh (by first | exact (show _ = Value.pointer _ from rfl) | exact rfl) ?_)
      refine WL.c rfl (o_mvh (by first | exact (show _ = Value.pointer _ from rfl) | exact rfl) ?_)
      refine WL.c rfl (o_nil rfl ?_)
      refine WL.c rfl (o_fa 1 TI95 rfl TI3 rfl rfl ?_)
      refine WL.c rfl (o_ld TI3 rfl rfl (cell_of hCs rfl) ?_)
      refine WL.c rfl (o_call Try.call74 (lc rfl (lc rfl (lc rfl ln))) ((rnumber_spec w0.heap.size w0.heap.size 0 n1 _ xs s1 _ hr (by decide) (by omega) (by omega)).mono ?_))
      rintro v31 w31 ⟨rfl, hr', ho31⟩
      replace hr := hr'
      clear hr'
      obtain ⟨n2, hn2⟩ : ∃ n, n = (rnum xs s1 0 n1).1 := ⟨_, rfl⟩
      obtain ⟨s2, hs2⟩ : ∃ t, t = (rnum xs s1 0 n1).2 := ⟨_, rfl⟩
      rw [← hs2] at hr
      rw [← hn2]
      replace hx := hx.trans' ho31 (fun _ h => h) (fun k hk he => by omega)
      replace hCs := ho31.blk hCs (show ¬ _ = w0.heap.size by omega)
      have hn2l : (n2 : Int) ≤ n1 := by rw [hn2]; exact rnum_le (by omega)
      refine WL.c rfl (o_ash (show _ = Value.int _ _ from rfl) ?_)
      refine WL.nil ?_
      refine W.seq ?_
      refine W.region ?_
      refine WL.c rfl (o_mvh (by first | exact (show _ = Value.pointer _ from rfl) | exact rfl) ?_)
      refine WL.c rfl (o_mvh (by first | exact (show _ = Value.pointer _ from rfl) | exact rfl) ?_)
      refine WL.c rfl (o_mvh (show _ = Value.int _ _ from rfl) ?_)
      refine WL.c rfl (o_mvh (by first | exact (show _ = Value.pointer _ from rfl) | exact rfl) ?_)
      refine WL.c rfl (o_nil rfl ?_)
      refine WL.c rfl (o_fa 1 TI95 rfl TI3 rfl rfl ?_)
      refine WL.c rfl (o_ld TI3 rfl rfl (cell_of hCs rfl) ?_)
      refine WL.c rfl (o_call Try.call74 (lc rfl (lc rfl (lc rfl ln))) ((rnumber_spec w0.heap.size w0.heap.size n2 n1 _ xs s2 _ hr (by omega) (by omega) (by omega)).mono ?_))
      rintro v39 w39 ⟨rfl, hr', ho39⟩
      replace hr := hr'
      clear hr'
      obtain ⟨n3, hn3⟩ : ∃ n, n = (rnum xs s2 n2 n1).1 := ⟨_, rfl⟩
      obtain ⟨s3, hs3⟩ : ∃ t, t = (rnum xs s2 n2 n1).2 := ⟨_, rfl⟩
      rw [← hs3] at hr
      rw [← hn3]
      replace hx := hx.trans' ho39 (fun _ h => h) (fun k hk he => by omega)
      replace hCs := ho39.blk hCs (show ¬ _ = w0.heap.size by omega)
      refine WL.c rfl (o_nil rfl ?_)
      refine WL.c rfl (o_fa 2 TI95 rfl TI3 rfl rfl ?_)
      refine WL.u (o_stB TI3 rfl (show _ = Value.int _ _ from rfl) rfl hCs (show 2 < 3 by decide) ?_)
      intro w41 hB41 ho41 hs41
      clear hCs
      have hCs : w41.heap[cs]? = some (.cells #[.slice none 0 0, .int .i64 (n1 : Int), .int .i64 (n3 : Int)] 95 (0, 0)) := hB41
      replace hr := hr.keep ho41 (fun k he => by omega) (show ¬ w0.heap.size = cs by omega)
      replace hx := hx.trans' ho41 (fun _ h => h) (fun k hk he => by omega)
      refine WL.nil ?_
      refine W.seq ?_
      refine W.seq ?_
      refine W.region ?_
      refine WL.c rfl (o_ash (show _ = Value.int _ _ from rfl) ?_)
      refine WL.nil ?_
      refine W.block ?_
      refine W.loop (fun e w => ∃ (k : Nat) (acc : List Fr) (lv : Value) (V : Nat → Value) (s : RSt), k ≤ n2 ∧ e 0 = Value.slice ba xs.length bc ∧ e 5 = .pointer (some ⟨w0.heap.size, 0, none⟩) ∧ e 6 = .pointer (some ⟨cs, 0, none⟩) ∧ e 7 = .int .i64 (n2 : Int) ∧ e 8 = .int .i64 (k : Int) ∧ RStk w (w0.heap.size + 1) cs n1 n3 acc lv V ∧ RRd w w0.heap.size w0.heap.size (Value.slice ba xs.length bc) xs s ∧ Ext w0 w ∧ rlist xs n2 s3 [] = rlist xs (n2 - k) s acc ∧ acc.length = k) (fun e w => n2 - (intOf (e 8)).toNat) ?_ ?_
      · exact ⟨0, [], .slice none 0 0, fun _ => undef, s3, Nat.zero_le _, rfl, rfl, rfl, rfl, rfl, ⟨hCs, Rows.nil _ _ _, by omega, by omega, by simp, by simp⟩, hr, hx, rfl, rfl⟩
      rintro e w ⟨k, acc, lv, V, s, hk, h0, h5, h6, h7, h8, hstk, hr, hx, hmany, hacc⟩
      have hm8 := h8
      have hrc := hr.cell
      refine W.seq ?_
      refine W.seq ?_
      refine W.region ?_
      refine WL.cut (fun e1 w1 => e1 51 = .bool (decide (k < n2) && decide (s.err = 0)) ∧ e1 0 = Value.slice ba xs.length bc ∧ e1 5 = .pointer (some ⟨w0.heap.size, 0, none⟩) ∧ e1 6 = .pointer (some ⟨cs, 0, none⟩) ∧ e1 7 = .int .i64 (n2 : Int) ∧ e1 8 = .int .i64 (k : Int) ∧ w1 = w) ?_ ?_
      · -- region 10
        refine WL.c rfl (o_mvh h8 ?_)
        refine WL.c rfl (o_mvh h7 ?_)
        refine WL.c rfl (o_lt rfl rfl ?_)
        refine WL.c rfl (o_mvh (show _ = Value.bool _ from rfl) ?_)
        refine WL.sp 3 rfl (fun g45 => ?_) (fun g45 => ?_)
        · skip
          refine WL.g rfl (g45) rfl (o_mvh h5 ?_)
          refine WL.g rfl (g45) rfl (o_nil rfl ?_)
          refine WL.g rfl (g45) rfl (o_fa 2 TI112 rfl TI3 rfl rfl ?_)
          refine WL.g rfl (g45) rfl (o_ld TI3 rfl rfl (cell_of hrc rfl) ?_)
          refine WL.g rfl (g45) rfl (o_eq rfl rfl ?_)
          refine WL.c rfl (o_pickA rfl rfl ?_)
          exact WL.nil (⟨congrArg Value.bool (by rw [Bool.eq_iff_iff]; simp_all <;> omega), h0, h5, h6, h7, h8, rfl⟩)
        · skip
          refine WL.s rfl (g45) rfl ?_
          refine WL.s rfl (g45) rfl ?_
          refine WL.s rfl (g45) rfl ?_
          refine WL.s rfl (g45) rfl ?_
          refine WL.s rfl (g45) rfl ?_
          refine WL.c rfl (o_pickF rfl (g45) ?_)
          exact WL.nil (⟨congrArg Value.bool (by rw [Bool.eq_iff_iff]; simp_all <;> omega), h0, h5, h6, h7, h8, rfl⟩)
      rintro e w ⟨h51, h0, h5, h6, h7, h8, hw1⟩
      replace hw1 := hw1.symm
      subst hw1
      refine W.cond h51 (fun c51 => ?_) (fun c51 => ?_)
      · try simp only [decide_eq_true_eq, decide_eq_false_iff_not, Bool.not_eq_true', Bool.not_eq_false', Bool.and_eq_true, Bool.or_eq_true, Bool.and_eq_false_iff, Bool.or_eq_false_iff] at c51
        refine W.skip ?_
        refine W.seq ?_
        refine W.block ?_
        refine W.seq ?_
        refine W.region ?_
        refine WL.c rfl (o_alB TI39 ?_)
        intro w9 hC9 hx9 hs9
        have hk1 : k < n2 := by omega
        have hse : s.err = 0 := by omega
        obtain ⟨c9, hc9⟩ : ∃ c, c = w.heap.size := ⟨_, rfl⟩
        rw [← hc9] at hC9 ⊢
        replace hC9 : w9.heap[c9]? = some (.cells (fcells Fr.nil (.slice none 0 0)).toArray 39 (0, 0)) := hC9
        have hlt9 : ∀ j, SF cs lv V acc.length j → j < c9 := fun j hj => by rw [hc9]; exact (hstk.lt j hj).2
        have hq9 : w0.heap.size < c9 := by rw [hc9]; exact (Array.getElem?_eq_some_iff.1 hr.cell).1
        replace hstk := hstk.ext hx9
        replace hr := hr.ext hx9
        replace hx := hx.tr hx9
        refine WL.nil ?_
        refine W.seq ?_
        refine W.region ?_
        refine WL.c rfl (o_mvh h5 ?_)
        refine WL.c rfl (o_call Try.call74 (lc rfl (lc rfl (lc rfl ln))) ((rnumber_spec w0.heap.size w0.heap.size 0 4611686018427387904 _ xs s _ hr (by decide) (by decide) (by decide)).mono ?_))
        rintro v55 w55 ⟨rfl, hr', ho55⟩
        replace hr := hr'
        clear hr'
        obtain ⟨m1, hm1⟩ : ∃ n, n = (rnum xs s 0 4611686018427387904).1 := ⟨_, rfl⟩
        obtain ⟨t1, ht1⟩ : ∃ t, t = (rnum xs s 0 4611686018427387904).2 := ⟨_, rfl⟩
        rw [← ht1] at hr
        rw [← hm1]
        replace hx := hx.trans' ho55 (fun _ h => h) (fun k hk he => by omega)
        replace hC9 := ho55.blk hC9 (show ¬ _ = w0.heap.size by omega)
        replace hstk := hstk.only ho55 (fun k hk he => by have := (hstk.lt k hk).1; omega)
        refine WL.c rfl (o_fa 0 TI39 rfl TI3 rfl rfl ?_)
        refine WL.u (o_stB TI3 rfl (show _ = Value.int _ _ from rfl) rfl hC9 (show 0 < 7 by decide) ?_)
        intro w56x hB9 hoz hsz
        clear hC9
        have hC9 : w56x.heap[c9]? = some (.cells (fcells ⟨m1, 0, 0, 0, 0, 0, []⟩ (.slice none 0 0)).toArray 39 (0, 0)) := hB9
        replace hstk := hstk.only hoz (fun k hk he => by have := hlt9 k hk; omega)
        replace hr := hr.keep hoz (fun k he => by omega) (show ¬ w0.heap.size = c9 by omega)
        replace hx := hx.trans' hoz (fun _ h => h) (fun k hk he => by omega)
        refine WL.nil ?_
        refine W.seq ?_
        refine W.region ?_
        refine WL.c rfl (o_mvh h5 ?_)
        refine WL.c rfl (o_call Try.call74 (lc rfl (lc rfl (lc rfl ln))) ((rnumber_spec w0.heap.size w0.heap.size 0 4611686018427387904 _ xs t1 _ hr (by decide) (by decide) (by decide)).mono ?_))
        rintro v58 w58 ⟨rfl, hr', ho58⟩
        replace hr := hr'
        clear hr'
        obtain ⟨m2, hm2⟩ : ∃ n, n = (rnum xs t1 0 4611686018427387904).1 := ⟨_, rfl⟩
        obtain ⟨t2, ht2⟩ : ∃ t, t = (rnum xs t1 0 4611686018427387904).2 := ⟨_, rfl⟩
        rw [← ht2] at hr
        rw [← hm2]
        replace hx := hx.trans' ho58 (fun _ h => h) (fun k hk he => by omega)
        replace hC9 := ho58.blk hC9 (show ¬ _ = w0.heap.size by omega)
        replace hstk := hstk.only ho58 (fun k hk he => by have := (hstk.lt k hk).1; omega)
        refine WL.c rfl (o_fa 1 TI39 rfl TI3 rfl rfl ?_)
        refine WL.u (o_stB TI3 rfl (show _ = Value.int _ _ from rfl) rfl hC9 (show 1 < 7 by decide) ?_)
        intro w59x hB9 hoz hsz
        clear hC9
        have hC9 : w59x.heap[c9]? = some (.cells (fcells ⟨m1, m2, 0, 0, 0, 0, []⟩ (.slice none 0 0)).toArray 39 (0, 0)) := hB9
        replace hstk := hstk.only hoz (fun k hk he => by have := hlt9 k hk; omega)
        replace hr := hr.keep hoz (fun k he => by omega) (show ¬ w0.heap.size = c9 by omega)
        replace hx := hx.trans' hoz (fun _ h => h) (fun k hk he => by omega)
        refine WL.nil ?_
        refine W.seq ?_
        refine W.region ?_
        refine WL.c rfl (o_mvh h5 ?_)
        refine WL.c rfl (o_call Try.call74 (lc rfl (lc rfl (lc rfl ln))) ((rnumber_spec w0.heap.size w0.heap.size 0 4611686018427387904 _ xs t2 _ hr (by decide) (by decide) (by decide)).mono ?_))
        rintro v61 w61 ⟨rfl, hr', ho61⟩
        replace hr := hr'
        clear hr'
        obtain ⟨m3, hm3⟩ : ∃ n, n = (rnum xs t2 0 4611686018427387904).1 := ⟨_, rfl⟩
        obtain ⟨t3, ht3⟩ : ∃ t, t = (rnum xs t2 0 4611686018427387904).2 := ⟨_, rfl⟩
        rw [← ht3] at hr
        rw [← hm3]
        replace hx := hx.trans' ho61 (fun _ h => h) (fun k hk he => by omega)
        replace hC9 := ho61.blk hC9 (show ¬ _ = w0.heap.size by omega)
        replace hstk := hstk.only ho61 (fun k hk he => by have := (hstk.lt k hk).1; omega)
        refine WL.c rfl (o_fa 2 TI39 rfl TI3 rfl rfl ?_)
        refine WL.u (o_stB TI3 rfl (show _ = Value.int _ _ from rfl) rfl hC9 (show 2 < 7 by decide) ?_)
        intro w62x hB9 hoz hsz
        clear hC9
        have hC9 : w62x.heap[c9]? = some (.cells (fcells ⟨m1, m2, m3, 0, 0, 0, []⟩ (.slice none 0 0)).toArray 39 (0, 0)) := hB9
        replace hstk := hstk.only hoz (fun k hk he => by have := hlt9 k hk; omega)
        replace hr := hr.keep hoz (fun k he => by omega) (show ¬ w0.heap.size = c9 by omega)
        replace hx := hx.trans' hoz (fun _ h => h) (fun k hk he => by omega)
        refine WL.nil ?_
        refine W.seq ?_
        refine W.region ?_
        refine WL.c rfl (o_mvh h5 ?_)
        refine WL.c rfl (o_call Try.call74 (lc rfl (lc rfl (lc rfl ln))) ((rnumber_spec w0.heap.size w0.heap.size 0 4611686018427387905 _ xs t3 _ hr (by decide) (by decide) (by decide)).mono ?_))
        rintro v64 w64 ⟨rfl, hr', ho64⟩
        replace hr := hr'
        clear hr'
        obtain ⟨m4, hm4⟩ : ∃ n, n = (rnum xs t3 0 4611686018427387905).1 := ⟨_, rfl⟩
        obtain ⟨t4, ht4⟩ : ∃ t, t = (rnum xs t3 0 4611686018427387905).2 := ⟨_, rfl⟩
        rw [← ht4] at hr
        rw [← hm4]
        replace hx := hx.trans' ho64 (fun _ h => h) (fun k hk he => by omega)
        replace hC9 := ho64.blk hC9 (show ¬ _ = w0.heap.size by omega)
        replace hstk := hstk.only ho64 (fun k hk he => by have := (hstk.lt k hk).1; omega)
        have hm4e := hm4
        have hm4 : (m4 : Int) ≤ 4611686018427387905 := by rw [hm4]; exact rnum_le (by decide)
        refine WL.c rfl (o_subi rfl rfl (by omega) ?_)
        refine WL.c rfl (o_fa 3 TI39 rfl TI3 rfl rfl ?_)
        refine WL.u (o_stB TI3 rfl (show _ = Value.int _ _ from rfl) rfl hC9 (show 3 < 7 by decide) ?_)
        intro w66x hB9 hoz hsz
        clear hC9
        have hC9 : w66x.heap[c9]? = some (.cells (fcells ⟨m1, m2, m3, (m4 : Int) - 1, 0, 0, []⟩ (.slice none 0 0)).toArray 39 (0, 0)) := hB9
        replace hstk := hstk.only hoz (fun k hk he => by have := hlt9 k hk; omega)
        replace hr := hr.keep hoz (fun k he => by omega) (show ¬ w0.heap.size = c9 by omega)
        replace hx := hx.trans' hoz (fun _ h => h) (fun k hk he => by omega)
        refine WL.nil ?_
        refine W.seq ?_
        refine W.region ?_
        refine WL.c rfl (o_mvh h5 ?_)
        refine WL.c rfl (o_call Try.call74 (lc rfl (lc rfl (lc rfl ln))) ((rnumber_spec w0.heap.size w0.heap.size 0 4611686018427387905 _ xs t4 _ hr (by decide) (by decide) (by decide)).mono ?_))
        rintro v68 w68 ⟨rfl, hr', ho68⟩
        replace hr := hr'
        clear hr'
        obtain ⟨m5, hm5⟩ : ∃ n, n = (rnum xs t4 0 4611686018427387905).1 := ⟨_, rfl⟩
        obtain ⟨t5, ht5⟩ : ∃ t, t = (rnum xs t4 0 4611686018427387905).2 := ⟨_, rfl⟩
        rw [← ht5] at hr
        rw [← hm5]
        replace hx := hx.trans' ho68 (fun _ h => h) (fun k hk he => by omega)
        replace hC9 := ho68.blk hC9 (show ¬ _ = w0.heap.size by omega)
        replace hstk := hstk.only ho68 (fun k hk he => by have := (hstk.lt k hk).1; omega)
        have hm5e := hm5
        have hm5 : (m5 : Int) ≤ 4611686018427387905 := by rw [hm5]; exact rnum_le (by decide)
        refine WL.c rfl (o_subi rfl rfl (by omega) ?_)
        refine WL.c rfl (o_fa 4 TI39 rfl TI3 rfl rfl ?_)
        refine WL.u (o_stB TI3 rfl (show _ = Value.int _ _ from rfl) rfl hC9 (show 4 < 7 by decide) ?_)
        intro w70x hB9 hoz hsz
        clear hC9
        have hC9 : w70x.heap[c9]? = some (.cells (fcells ⟨m1, m2, m3, (m4 : Int) - 1, (m5 : Int) - 1, 0, []⟩ (.slice none 0 0)).toArray 39 (0, 0)) := hB9
        replace hstk := hstk.only hoz (fun k hk he => by have := hlt9 k hk; omega)
        replace hr := hr.keep hoz (fun k he => by omega) (show ¬ w0.heap.size = c9 by omega)
        replace hx := hx.trans' hoz (fun _ h => h) (fun k hk he => by omega)
        refine WL.nil ?_
        refine W.seq ?_
        refine W.region ?_
        refine WL.c rfl (o_mvh h5 ?_)
        refine WL.c rfl (o_call Try.call74 (lc rfl (lc rfl (lc rfl ln))) ((rnumber_spec w0.heap.size w0.heap.size 0 4611686018427387904 _ xs t5 _ hr (by decide) (by decide) (by decide)).mono ?_))
        rintro v72 w72 ⟨rfl, hr', ho72⟩
        replace hr := hr'
        clear hr'
        obtain ⟨m6, hm6⟩ : ∃ n, n = (rnum xs t5 0 4611686018427387904).1 := ⟨_, rfl⟩
        obtain ⟨t6, ht6⟩ : ∃ t, t = (rnum xs t5 0 4611686018427387904).2 := ⟨_, rfl⟩
        rw [← ht6] at hr
        rw [← hm6]
        replace hx := hx.trans' ho72 (fun _ h => h) (fun k hk he => by omega)
        replace hC9 := ho72.blk hC9 (show ¬ _ = w0.heap.size by omega)
        replace hstk := hstk.only ho72 (fun k hk he => by have := (hstk.lt k hk).1; omega)
        refine WL.c rfl (o_fa 5 TI39 rfl TI3 rfl rfl ?_)
        refine WL.u (o_stB TI3 rfl (show _ = Value.int _ _ from rfl) rfl hC9 (show 5 < 7 by decide) ?_)
        intro w73x hB9 hoz hsz
        clear hC9
        have hC9 : w73x.heap[c9]? = some (.cells (fcells ⟨m1, m2, m3, (m4 : Int) - 1, (m5 : Int) - 1, m6, []⟩ (.slice none 0 0)).toArray 39 (0, 0)) := hB9
        replace hstk := hstk.only hoz (fun k hk he => by have := hlt9 k hk; omega)
        replace hr := hr.keep hoz (fun k he => by omega) (show ¬ w0.heap.size = c9 by omega)
        replace hx := hx.trans' hoz (fun _ h => h) (fun k hk he => by omega)
        refine WL.nil ?_
        refine W.seq ?_
        refine W.region ?_
        refine WL.c rfl (o_mvh h5 ?_)
        refine WL.c rfl (o_call Try.call74 (lc rfl (lc rfl (lc rfl ln))) ((rnumber_spec w0.heap.size w0.heap.size 0 1048576 _ xs t6 _ hr (by decide) (by decide) (by decide)).mono ?_))
        rintro v75 w75 ⟨rfl, hr', ho75⟩
        replace hr := hr'
        clear hr'
        obtain ⟨m7, hm7⟩ : ∃ n, n = (rnum xs t6 0 1048576).1 := ⟨_, rfl⟩
        obtain ⟨t7, ht7⟩ : ∃ t, t = (rnum xs t6 0 1048576).2 := ⟨_, rfl⟩
        rw [← ht7] at hr
        rw [← hm7]
        replace hx := hx.trans' ho75 (fun _ h => h) (fun k hk he => by omega)
        replace hC9 := ho75.blk hC9 (show ¬ _ = w0.heap.size by omega)
        replace hstk := hstk.only ho75 (fun k hk he => by have := (hstk.lt k hk).1; omega)
        have hm7l : (m7 : Int) ≤ 1048576 := by rw [hm7]; exact rnum_le (by decide)
        refine WL.c rfl (o_ash (show _ = Value.int _ _ from rfl) ?_)
        refine WL.nil ?_
        refine W.seq ?_
        refine W.seq ?_
        refine W.region ?_
        refine WL.c rfl (o_ash (show _ = Value.int _ _ from rfl) ?_)
        refine WL.nil ?_
        refine W.block ?_
        refine W.loop (fun e w => ∃ (j : Nat) (tab : List Int) (tv : Value) (s' : RSt), j ≤ m7 ∧ e 0 = Value.slice ba xs.length bc ∧ e 5 = .pointer (some ⟨w0.heap.size, 0, none⟩) ∧ e 6 = .pointer (some ⟨cs, 0, none⟩) ∧ e 7 = .int .i64 (n2 : Int) ∧ e 8 = .int .i64 (k : Int) ∧ e 9 = .pointer (some ⟨c9, 0, none⟩) ∧ e 10 = .int .i64 (m7 : Int) ∧ e 11 = .int .i64 (j : Int) ∧ w.heap[c9]? = some (.cells (fcells ⟨m1, m2, m3, (m4 : Int) - 1, (m5 : Int) - 1, m6, []⟩ tv).toArray 39 (0, 0)) ∧ w.ownsRow c9 3 1 tv tab.length (ints tab) ∧ RStk w (w0.heap.size + 1) cs n1 n3 acc lv V ∧ RRd w w0.heap.size w0.heap.size (Value.slice ba xs.length bc) xs s' ∧ Ext w0 w ∧ rtab xs m7 t7 [] = rtab xs (m7 - j) s' tab ∧ tab.length = j) (fun e w => m7 - (intOf (e 11)).toNat) ?_ ?_
        · exact ⟨0, [], .slice none 0 0, t7, Nat.zero_le _, h0, h5, h6, h7, h8, rfl, rfl, rfl, hC9, World.ownsRow_nil _ _ _ _, hstk, hr, hx, rfl, rfl⟩
        rintro e w ⟨j, tab, tv, s', hj, h0, h5, h6, h7, h8, h9, h10, h11, hC9, hrow, hstk, hr, hx, htab, htl⟩
        have hm11 := h11
        have hrc2 := hr.cell
        refine W.seq ?_
        refine W.seq ?_
        refine W.region ?_
        refine WL.cut (fun e1 w1 => e1 85 = .bool (decide (j < m7) && decide (s'.err = 0)) ∧ e1 0 = Value.slice ba xs.length bc ∧ e1 5 = .pointer (some ⟨w0.heap.size, 0, none⟩) ∧ e1 6 = .pointer (some ⟨cs, 0, none⟩) ∧ e1 7 = .int .i64 (n2 : Int) ∧ e1 8 = .int .i64 (k : Int) ∧ e1 9 = .pointer (some ⟨c9, 0, none⟩) ∧ e1 10 = .int .i64 (m7 : Int) ∧ e1 11 = .int .i64 (j : Int) ∧ w1 = w) ?_ ?_
        · -- region 21
          refine WL.c rfl (o_mvh h11 ?_)
          refine WL.c rfl (o_mvh h10 ?_)
          refine WL.c rfl (o_lt rfl rfl ?_)
          refine WL.c rfl (o_mvh (show _ = Value.bool _ from rfl) ?_)
          refine WL.sp 3 rfl (fun g79 => ?_) (fun g79 => ?_)
          · skip
            refine WL.g rfl (g79) rfl (o_mvh h5 ?_)
            refine WL.g rfl (g79) rfl (o_nil rfl ?_)
            refine WL.g rfl (g79) rfl (o_fa 2 TI112 rfl TI3 rfl rfl ?_)
            refine WL.g rfl (g79) rfl (o_ld TI3 rfl rfl (cell_of hrc2 rfl) ?_)
            refine WL.g rfl (g79) rfl (o_eq rfl rfl ?_)
            refine WL.c rfl (o_pickA rfl rfl ?_)
            exact WL.nil (⟨congrArg Value.bool (by rw [Bool.eq_iff_iff]; simp_all <;> omega), h0, h5, h6, h7, h8, h9, h10, h11, rfl⟩)
          · skip
            refine WL.s rfl (g79) rfl ?_
            refine WL.s rfl (g79) rfl ?_
            refine WL.s rfl (g79) rfl ?_
            refine WL.s rfl (g79) rfl ?_
            refine WL.s rfl (g79) rfl ?_
            refine WL.c rfl (o_pickF rfl (g79) ?_)
            exact WL.nil (⟨congrArg Value.bool (by rw [Bool.eq_iff_iff]; simp_all <;> omega), h0, h5, h6, h7, h8, h9, h10, h11, rfl⟩)
        rintro e w ⟨h85, h0, h5, h6, h7, h8, h9, h10, h11, hw1⟩
        replace hw1 := hw1.symm
        subst hw1
        refine W.cond h85 (fun c85 => ?_) (fun c85 => ?_)
        · try simp only [decide_eq_true_eq, decide_eq_false_iff_not, Bool.not_eq_true', Bool.not_eq_false', Bool.and_eq_true, Bool.or_eq_true, Bool.and_eq_false_iff, Bool.or_eq_false_iff] at c85
          refine W.skip ?_
          refine W.seq ?_
          refine W.block ?_
          have hj1 : j < m7 := by omega
          have hse2 : s'.err = 0 := by omega
          obtain ⟨wd, hwd⟩ : ∃ wd, wd = w.drew := ⟨_, rfl⟩
          have hxd : Ext w wd := hwd ▸ Only.drew w
          replace hr := hr.ext hxd
          replace hrow := own_ext hrow hxd
          replace hC9 := hxd.blk hC9 (fun h => h)
          replace hstk := hstk.ext hxd
          replace hx := hx.tr hxd
          have hge : ∀ i, tv.ownBlock = some i → c9 ≤ i := fun i hi => (hrow.lt i hi).1
          have hlt : ∀ i, tv.ownBlock = some i → i < wd.heap.size := fun i hi => (hrow.lt i hi).2
          have htq : ¬ tv.ownBlock = some w0.heap.size := fun hk => by have := hge _ hk; omega
          have ht9 : ¬ tv.ownBlock = some c9 := own_off hrow hC9 (by decide)
          have hc9d : c9 < wd.heap.size := (Array.getElem?_eq_some_iff.1 hC9).1
          have hqd : w0.heap.size < wd.heap.size := by omega
          refine W.drawF 6 [3, 5] [fun k => k = w0.heap.size, fun k => tv.ownBlock = some k] [(0, fun v _ => v = _), (5, fun v _ => v = _), (6, fun v _ => v = _), (7, fun v _ => v = _), (8, fun v _ => v = _), (9, fun v _ => v = _), (10, fun v _ => v = _), (11, fun v _ => v = _)] rfl (by kernel_rfl) (by kernel_rfl) ⟨Mono.eq, Mono.eq, Mono.eq, Mono.eq, Mono.eq, Mono.eq, Mono.eq, Mono.eq, trivial⟩ ⟨h0, h5, h6, h7, h8, h9, h10, h11, trivial⟩ ?_
          refine WDS.p rfl (by decide) (fun e w hR hh => by obtain ⟨h9, -⟩ := hh; exact SG.n (o_fa 6 TI39 rfl TI37 rfl h9 ⟨rfl, Only.refl No _⟩)) ?_
          refine WDS.p rfl (by decide) (fun e w hR hh => by obtain ⟨h88, -⟩ := hh; rw [← hwd] at hR; have hc := hR.blk hC9 (fun hF => by rcases hF with hF | hF | hF <;> first | exact ht9 hF | exact hF | omega); exact SG.n (o_ld TI37 rfl h88 (cell_of hc rfl) ⟨rfl, Only.refl No _⟩)) ?_
          refine WDS.p rfl (by decide) (fun e w hR hh => by obtain ⟨h5, -⟩ := hh; exact SG.n (o_mvh h5 ⟨rfl, Only.refl No _⟩)) ?_
          refine WDS.mf 0 1 (fun v w => v = .int .i64 ((rnum xs s' 0 Huge).1 : Int) ∧ RRd w w0.heap.size w0.heap.size (Value.slice ba xs.length bc) xs (rnum xs s' 0 Huge).2) (fun v w w2 hR hh => ⟨hh.1, hh.2.keep hR (fun k hF => by rcases hF with hF | hF; have := hge k hF; omega; exact hF.elim) (fun hF => by rcases hF with hF | hF; exact htq hF; exact hF)⟩) (by kernel_rfl) rfl rfl rfl (fun e w hR hW hh => by obtain ⟨h90, -⟩ := hh; rw [← hwd] at hW; have hW2 : Ext wd w := hW.mono (fun k _ hF => hF); exact SGX.n (OP.x (o_call Try.call74 (lc h90 (lc rfl (lc rfl ln))) ((rnumber_spec w0.heap.size w0.heap.size 0 Huge (Value.slice ba xs.length bc) xs s' w (hr.ext hW2) (by decide) (by decide) (by decide)).mono (fun v w' hh => ⟨⟨hh.1, hh.2.1⟩, hh.2.2⟩))))) ?_
          refine WDS.q 1 (fun v w => w.ownsRow wd.heap.size 3 1 v 1 (ints [((rnum xs s' 0 Huge).1 : Int)]) ∧ RRd w w0.heap.size w0.heap.size (Value.slice ba xs.length bc) xs (rnum xs s' 0 Huge).2) (fun v w w2 hR hh => ⟨own_only hh.1 hR (fun k hk hF => by rcases hF with hF | hF <;> first | exact hF | (have := hlt k hF; have := (hh.1.lt k hk).1; omega)), hh.2.keep hR (fun k hF => by rcases hF with hF | hF; have := hge k hF; omega; exact hF.elim) (fun hF => by rcases hF with hF | hF; exact htq hF; exact hF)⟩) (by kernel_rfl) rfl (by decide) (fun e w hR hh => by obtain ⟨h91, -⟩ := hh; rw [← hwd] at hR; obtain ⟨h91v, hrd⟩ := h91; exact SG.n (o_bs1 TI37 TI3 h91v (by decide) (by decide) rfl ⟨⟨own_mono (own_new1 rfl) hR.size, hrd.ext (Only.alloc w _)⟩, Only.alloc w _⟩)) ?_
          refine WDS.mf 1 2 (fun v w => w.ownsRow c9 3 1 v (tab.length + 1) (ints tab ++ ints [((rnum xs s' 0 Huge).1 : Int)]) ∧ RRd w w0.heap.size w0.heap.size (Value.slice ba xs.length bc) xs (rnum xs s' 0 Huge).2) (fun v w w2 hR hh => ⟨own_ext hh.1 hR, hh.2.ext hR⟩) (by kernel_rfl) rfl rfl rfl (fun e w hR hW hh => by obtain ⟨h92, h89, -⟩ := hh; rw [← hwd] at hR hW; obtain ⟨h92r, hrd⟩ := h92; have hrow4 := own_only hrow hW (fun k hk hF => by rcases hF with hF | hF <;> first | exact hF | (subst hF; exact htq hk)); have hw2 := hR.size; exact SGX.n (OP.x (o_apO c9 TI37 TI3 h89 rfl hrow4 (Sl.own h92r) rfl (by decide) (one_ints _) (by rw [maxLen_eq]; omega) (by omega) (by omega) (fun v' w' h1 h2 h3 _ => ⟨⟨h1, hrd.keep h2 (fun k hF => by have := hge k hF; omega) htq⟩, h2⟩)))) ?_
          rintro e w hR ⟨h93, h92, h91, h90, h89, h88, h0, h5, h6, h7, h8, h9, h10, h11, -⟩
          rw [← hwd] at hR
          obtain ⟨hr93, hrd⟩ := h93
          obtain ⟨v93, hv93⟩ : ∃ v, v = e 93 := ⟨_, rfl⟩
          rw [← hv93] at hr93
          replace hC9 := hR.blk hC9 (fun hF => by rcases hF with hF | hF | hF <;> first | exact ht9 hF | exact hF | omega)
          refine WL.c rfl (o_fa 6 TI39 rfl TI37 rfl h9 ?_)
          refine WL.u (o_stB TI37 rfl (show _ = v93 from hv93.symm) (own_one hr93) hC9 (show 6 < 7 by decide) ?_)
          intro w35 hB35 ho35 hs35
          have hC9' : w35.heap[c9]? = some (.cells (fcells ⟨m1, m2, m3, (m4 : Int) - 1, (m5 : Int) - 1, m6, []⟩ v93).toArray 39 (0, 0)) := hB35
          have hrow' : w35.ownsRow c9 3 1 v93 (tab ++ [((rnum xs s' 0 Huge).1 : Int)]).length (ints (tab ++ [((rnum xs s' 0 Huge).1 : Int)])) := by
            rw [List.length_append, List.length_singleton, ints, List.map_append]
            exact own_only hr93 ho35 (fun k hk he => by subst he; exact own_off hr93 hC9 (by decide) hk)
          have hrd' := hrd.keep ho35 (fun k he => by omega) (show ¬ w0.heap.size = c9 by omega)
          have hstk' := (hstk.only hR (fun i hi hF => by have := hlt9 i hi; have := (hstk.lt i hi).1; rcases hF with hF | hF | hF <;> first | (have := hge i hF; omega) | exact hF | omega)).only ho35 (fun i hi he => by have := hlt9 i hi; omega)
          have hx' : Ext w0 w35 := (hx.trans' hR (fun _ h => h) (fun i hi hF => by rcases hF with hF | hF | hF <;> first | (have := hge i hF; omega) | exact hF | omega)).trans' ho35 (fun _ h => h) (fun i hi he => by omega)
          refine WL.nil ?_
          refine W.region ?_
          refine WL.c rfl (o_mvh h11 ?_)
          refine WL.c rfl (o_addi rfl rfl (by omega) ?_)
          refine WL.c rfl (o_ash (show _ = Value.int _ _ from rfl) ?_)
          refine WL.nil ?_
          refine ⟨⟨j + 1, tab ++ [((rnum xs s' 0 Huge).1 : Int)], v93, (rnum xs s' 0 Huge).2, by omega, h0, h5, h6, h7, h8, h9, h10, rfl, hC9', hrow', hstk', hrd', hx', ?_, ?_⟩, ?_⟩
          · rw [htab]; obtain ⟨m', hm'⟩ : ∃ m', m7 - j = m' + 1 := ⟨m7 - j - 1, by omega⟩; rw [hm', rtab, if_pos hse2, show m7 - (j + 1) = m' by omega]
          · rw [List.length_append, List.length_singleton, htl]
          · show m7 - ((j : Int) + 1).toNat < _
            rw [hm11]; simp only [intOf]; omega
        · try simp only [decide_eq_true_eq, decide_eq_false_iff_not, Bool.not_eq_true', Bool.not_eq_false', Bool.and_eq_true, Bool.or_eq_true, Bool.and_eq_false_iff, Bool.or_eq_false_iff] at c85
          refine W.exit ?_
          have hrt : rtab xs m7 t7 [] = (tab, s') := by
            rw [htab]
            by_cases e : s'.err = 0
            · rw [show m7 - j = 0 by omega]; rfl
            · exact rtab_skip e _ _
          have hrf : rframe xs s = (⟨m1, m2, m3, (m4 : Int) - 1, (m5 : Int) - 1, m6, tab⟩, s') := by
            have e1 : (rnum xs s 0 Huge).1 = m1 := hm1.symm
            have f1 : (rnum xs s 0 Huge).2 = t1 := ht1.symm
            have e2 : (rnum xs t1 0 Huge).1 = m2 := hm2.symm
            have f2 : (rnum xs t1 0 Huge).2 = t2 := ht2.symm
            have e3 : (rnum xs t2 0 Huge).1 = m3 := hm3.symm
            have f3 : (rnum xs t2 0 Huge).2 = t3 := ht3.symm
            have e6 : (rnum xs t5 0 Huge).1 = m6 := hm6.symm
            have f6 : (rnum xs t5 0 Huge).2 = t6 := ht6.symm
            simp only [rframe, r7, e1, f1, e2, f2, e3, f3, ← hm4e, ← ht4, ← hm5e, ← ht5, e6, f6, ← hm7, ← ht7, hrt]
          obtain ⟨F, hF⟩ : ∃ f : Fr, f = ⟨m1, m2, m3, (m4 : Int) - 1, (m5 : Int) - 1, m6, tab⟩ := ⟨_, rfl⟩
          have hFt : F.tab = tab := by rw [hF]
          rw [← hF] at hrf
          have hrowF : w.ownsRow c9 3 1 tv F.tab.length (ints F.tab) := by rw [hFt]; exact hrow
          have hC9F : w.heap[c9]? = some (.cells (fcells F tv).toArray 39 (0, 0)) := by rw [hF]; exact hC9
          obtain ⟨wd, hwd⟩ : ∃ wd, wd = w.drew := ⟨_, rfl⟩
          have hxd : Ext w wd := hwd ▸ Only.drew w
          replace hr := hr.ext hxd
          replace hrowF := own_ext hrowF hxd
          replace hC9F := hxd.blk hC9F (fun h => h)
          replace hstk := hstk.ext hxd
          replace hx := hx.tr hxd
          have hscell := hstk.cell
          have hlt : ∀ i, lv.ownBlock = some i → i < c9 := fun i hi => hlt9 i (.inr (.inl hi))
          have hge1 : ∀ i, lv.ownBlock = some i → w0.heap.size < i := fun i hi => (hstk.lt i (.inr (.inl hi))).1
          have hls : ¬ lv.ownBlock = some cs := fun hi => hstk.p_off (.inl hi)
          have hc9d : c9 < wd.heap.size := (Array.getElem?_eq_some_iff.1 hC9F).1
          refine W.drawF 8 [7] [fun k => lv.ownBlock = some k] [(0, fun v _ => v = _), (5, fun v _ => v = _), (6, fun v _ => v = _), (7, fun v _ => v = _), (8, fun v _ => v = _), (9, fun v _ => v = _)] rfl (by kernel_rfl) (by kernel_rfl) ⟨Mono.eq, Mono.eq, Mono.eq, Mono.eq, Mono.eq, Mono.eq, trivial⟩ ⟨h0, h5, h6, h7, h8, h9, trivial⟩ ?_
          refine WDS.p rfl (by decide) (fun e w hR hh => by obtain ⟨h6, -⟩ := hh; exact SG.n (o_mvh h6 ⟨rfl, Only.refl No _⟩)) ?_
          refine WDS.p rfl (by decide) (fun e w hR hh => by obtain ⟨h6, -⟩ := hh; exact SG.n (o_mvh h6 ⟨rfl, Only.refl No _⟩)) ?_
          refine WDS.p rfl (by decide) (fun e w hR hh => by obtain ⟨h96, -⟩ := hh; exact SG.n (o_nil h96 ⟨rfl, Only.refl No _⟩)) ?_
          refine WDS.p rfl (by decide) (fun e w hR hh => by obtain ⟨h97, -⟩ := hh; exact SG.n (o_fa 0 TI95 rfl TI22 rfl h97 ⟨rfl, Only.refl No _⟩)) ?_
          refine WDS.p rfl (by decide) (fun e w hR hh => by obtain ⟨h98, -⟩ := hh; rw [← hwd] at hR; have hc := hR.blk hscell (fun hF => by rcases hF with hF | hF <;> first | exact hls hF | exact hF); exact SG.n (o_ld TI22 rfl h98 (cell_of hc rfl) ⟨rfl, Only.refl No _⟩)) ?_
          refine WDS.p rfl (by decide) (fun e w hR hh => by obtain ⟨h9, -⟩ := hh; rw [← hwd] at hR; exact SG.n (o_ldA TI39 rfl h9 (show Cells w c9 0 (fcells F tv) from Cells.of (hR.blk hC9F (fun hF => by rcases hF with hF | hF <;> first | exact hF | (have := hlt _ hF; omega))) 0 _ (by simp)) rfl ⟨rfl, Only.refl No _⟩)) ?_
          refine WDS.q 0 (fun v w => w.ownsRow wd.heap.size 39 7 v 1 (fcells F tv)) (fun v w w2 hR hh => own_only hh hR (fun k hk hF => by rcases hF with hF | hF <;> first | exact hF | (have := hlt k hF; have := (hh.lt k hk).1; omega))) (by kernel_rfl) rfl (by decide) (fun e w hR hh => by obtain ⟨h100, -⟩ := hh; rw [← hwd] at hR; exact SG.n (o_bs1 TI22 TI39 (show _ = Value.agg (fcells F tv).toArray from h100) (by decide) (by decide) rfl ⟨own_mono (own_new1 rfl) hR.size, Only.alloc w _⟩)) ?_
          refine WDS.mf 0 1 (fun v w => w.ownsRow (w0.heap.size + 1) 39 7 v (acc.length + 1) (frows acc V ++ fcells F tv)) (fun v w w2 hR hh => own_ext hh hR) (by kernel_rfl) rfl rfl rfl (fun e w hR hW hh => by obtain ⟨h101, h99, -⟩ := hh; rw [← hwd] at hR hW; have hW2 : Ext wd w := hW.mono (fun _ _ h => h); have hw2 := hR.size; exact SGX.n (OP.x (o_apO (w0.heap.size + 1) TI22 TI39 h99 rfl (own_ext hstk.rows.row hW2) (Sl.own h101) rfl (by decide) (fcells_all (own_one hrowF)) (by rw [maxLen_eq]; omega) (by omega) (by omega) (fun v' w' h1 h2 h3 _ => ⟨h1, h2⟩)))) ?_
          rintro e w hR ⟨h102, h101, h100, h99, h98, h97, h96, h95, h0, h5, h6, h7, h8, h9, -⟩
          rw [← hwd] at hR
          obtain ⟨v102, hv102⟩ : ∃ v, v = e 102 := ⟨_, rfl⟩
          rw [← hv102] at h102
          have hc5 := hR.blk hscell (fun hF => by rcases hF with hF | hF <;> first | exact hls hF | exact hF)
          have hrow5 : Rows w (w0.heap.size + 1) (acc ++ [F]) v102 (fun j => if j = acc.length then tv else V j) := Rows.snoc h102 (hstk.rows.tabs.only hR (fun j hj k hk hF => by rcases hF with hF | hF <;> first | exact hF | exact own_row_off hstk.rows.row (hstk.rows.tabs.row j hj) (by decide) k hk hF)) (own_only hrowF hR (fun k hk hF => by rcases hF with hF | hF <;> first | exact hF | (have := hlt k hF; have := (hrowF.lt k hk).1; omega))) (by omega) (fun j hj k hk => hlt9 k (.inr (.inr ⟨j, hj, hk⟩)))
          refine WL.c rfl (o_nil h95 ?_)
          refine WL.c rfl (o_fa 0 TI95 rfl TI22 rfl rfl ?_)
          refine WL.u (o_stB TI22 rfl (show _ = v102 from hv102.symm) (own_one h102) hc5 (show 0 < 3 by decide) ?_)
          intro w6 hB6 ho6 hs6
          replace hB6 : w6.heap[cs]? = some (.cells #[v102, .int .i64 (n1 : Int), .int .i64 (n3 : Int)] 95 (0, 0)) := hB6
          have hrow6 := hrow5.only ho6 (fun k hk he => by subst he; exact hrow5.off hc5 (by decide) (by decide) hk)
          have hstk' : RStk w6 (w0.heap.size + 1) cs n1 n3 (acc ++ [F]) v102 _ := ⟨hB6, hrow6, by omega, by omega, by rw [List.length_append, List.length_singleton]; omega, tl_snoc' hstk.tl (by rw [hFt]; omega)⟩
          have hrd' := (hr.keep hR (fun k hF => by rcases hF with hF | hF; have := hge1 k hF; omega; exact hF.elim) (fun hF => by rcases hF with hF | hF; have := hge1 _ hF; omega; exact hF)).keep ho6 (fun k he => by omega) (show ¬ w0.heap.size = cs by omega)
          have hx' : Ext w0 w6 := (hx.trans' hR (fun _ h => h) (fun i hi hF => by rcases hF with hF | hF; have := hge1 i hF; omega; exact hF.elim)).trans' ho6 (fun _ h => h) (fun i hi he => by omega)
          refine WL.nil ?_
          refine W.region ?_
          refine WL.c rfl (o_mvh h8 ?_)
          refine WL.c rfl (o_addi rfl rfl (by omega) ?_)
          refine WL.c rfl (o_ash (show _ = Value.int _ _ from rfl) ?_)
          refine WL.nil ?_
          refine ⟨⟨k + 1, acc ++ [F], v102, _, s', by omega, h0, h5, h6, h7, rfl, hstk', hrd', hx', ?_, by rw [List.length_append, List.length_singleton, hacc]⟩, ?_⟩
          · rw [hmany]; obtain ⟨m', hm'⟩ : ∃ m', n2 - k = m' + 1 := ⟨n2 - k - 1, by omega⟩; rw [hm', rlist, if_pos hse, hrf, show n2 - (k + 1) = m' by omega]
          · show n2 - ((k : Int) + 1).toNat < _
            rw [hm8]; simp only [intOf]; omega
      · try simp only [decide_eq_true_eq, decide_eq_false_iff_not, Bool.not_eq_true', Bool.not_eq_false', Bool.and_eq_true, Bool.or_eq_true, Bool.and_eq_false_iff, Bool.or_eq_false_iff] at c51
        refine W.exit ?_
        refine W.seq ?_
        refine W.seq ?_
        have hLL : rlist xs n2 s3 [] = (acc, s) := by
          rw [hmany]
          by_cases e : s.err = 0
          · rw [show n2 - k = 0 by omega]; rfl
          · exact rlist_skip e _ _
        have hfin := rload_final hn1 hs1 hn2 hs2 hn3 hs3 hLL
        refine W.region ?_
        refine WL.cut (fun e1 w1 => e1 118 = .bool (decide (s.err = 0) && decide (s.pos < xs.length)) ∧ e1 5 = .pointer (some ⟨w0.heap.size, 0, none⟩) ∧ e1 6 = .pointer (some ⟨cs, 0, none⟩) ∧ w1 = w) ?_ ?_
        · -- region 25
          refine WL.c rfl (o_mvh h5 ?_)
          refine WL.c rfl (o_nil rfl ?_)
          refine WL.c rfl (o_fa 2 TI112 rfl TI3 rfl rfl ?_)
          refine WL.c rfl (o_ld TI3 rfl rfl (cell_of hrc rfl) ?_)
          refine WL.c rfl (o_eq rfl rfl ?_)
          refine WL.c rfl (o_mvh (show _ = Value.bool _ from rfl) ?_)
          refine WL.sp 5 rfl (fun g110 => ?_) (fun g110 => ?_)
          · skip
            refine WL.g rfl (g110) rfl (o_mvh h5 ?_)
            refine WL.g rfl (g110) rfl (o_nil rfl ?_)
            refine WL.g rfl (g110) rfl (o_fa 1 TI112 rfl TI3 rfl rfl ?_)
            refine WL.g rfl (g110) rfl (o_ld TI3 rfl rfl (cell_of hrc rfl) ?_)
            refine WL.g rfl (g110) rfl (o_mvh h0 ?_)
            refine WL.g rfl (g110) rfl (o_lenR TI23 rfl hr.by_ ?_)
            refine WL.g rfl (g110) rfl (o_lt rfl rfl ?_)
            refine WL.c rfl (o_pickA rfl rfl ?_)
            exact WL.nil (⟨congrArg Value.bool (by rw [Bool.eq_iff_iff]; simp_all <;> omega), h5, h6, rfl⟩)
          · skip
            refine WL.s rfl (g110) rfl ?_
            refine WL.s rfl (g110) rfl ?_
            refine WL.s rfl (g110) rfl ?_
            refine WL.s rfl (g110) rfl ?_
            refine WL.s rfl (g110) rfl ?_
            refine WL.s rfl (g110) rfl ?_
            refine WL.s rfl (g110) rfl ?_
            refine WL.c rfl (o_pickF rfl (g110) ?_)
            exact WL.nil (⟨congrArg Value.bool (by rw [Bool.eq_iff_iff]; simp_all <;> omega), h5, h6, rfl⟩)
        rintro e w ⟨h118, h5, h6, hw1⟩
        replace hw1 := hw1.symm
        subst hw1
        refine W.cond h118 (fun c118 => ?_) (fun c118 => ?_)
        · try simp only [decide_eq_true_eq, decide_eq_false_iff_not, Bool.not_eq_true', Bool.not_eq_false', Bool.and_eq_true, Bool.or_eq_true, Bool.and_eq_false_iff, Bool.or_eq_false_iff] at c118
          refine W.region ?_
          refine WL.c rfl (o_mvh h5 ?_)
          refine WL.c rfl (o_mvh h5 ?_)
          refine WL.c rfl (o_nil rfl ?_)
          refine WL.c rfl (o_fa 1 TI112 rfl TI3 rfl rfl ?_)
          refine WL.c rfl (o_ld TI3 rfl rfl (cell_of hrc rfl) ?_)
          refine WL.c rfl (o_call Try.call75 (lc rfl (lc rfl (lc rfl ln))) ((rfails_spec w0.heap.size w0.heap.size (Value.slice ba xs.length bc) xs s 124 s.pos _ hr (by omega)).mono ?_))
          rintro v124 w124 ⟨-, hr', ho124⟩
          have hrc := hr'.cell
          replace hx := hx.trans' ho124 (fun _ h => h) (fun k hk he => by omega)
          refine WL.nil ?_
          refine W.seq ?_
          refine W.seq ?_
          refine W.region ?_
          refine WL.c rfl (o_mvh h5 ?_)
          refine WL.c rfl (o_nil rfl ?_)
          refine WL.c rfl (o_fa 2 TI112 rfl TI3 rfl rfl ?_)
          refine WL.c rfl (o_ld TI3 rfl rfl (cell_of hrc rfl) ?_)
          refine WL.c rfl (o_ne rfl rfl ?_)
          refine WL.nil ?_
          refine W.cond rfl (fun c129 => ?_) (fun c129 => ?_)
          · try simp only [decide_eq_true_eq, decide_eq_false_iff_not, Bool.not_eq_true', Bool.not_eq_false', Bool.and_eq_true, Bool.or_eq_true, Bool.and_eq_false_iff, Bool.or_eq_false_iff] at c129
            refine W.seq ?_
            refine W.quiet rfl (by kernel_rfl) ?_
            refine WQ.c rfl ((QO.o rfl fun _ => o_mvh h5 ⟨rfl, rfl⟩)) ?_
            refine WQ.c rfl ((QO.r fun _ => r_nil rfl)) ?_
            refine WQ.c rfl ((QO.o rfl fun _ => o_fa 2 TI112 rfl TI3 rfl rfl ⟨rfl, rfl⟩)) ?_
            refine WQ.c rfl ((QO.o rfl fun _ => o_ld TI3 rfl rfl (cell_of hrc rfl) ⟨rfl, rfl⟩)) ?_
            refine WQ.c rfl ((QO.o rfl fun _ => o_mvh h5 ⟨rfl, rfl⟩)) ?_
            refine WQ.c rfl ((QO.r fun _ => r_nil rfl)) ?_
            refine WQ.c rfl ((QO.o rfl fun _ => o_fa 3 TI112 rfl TI3 rfl rfl ⟨rfl, rfl⟩)) ?_
            refine WQ.c rfl ((QO.o rfl fun _ => o_ld TI3 rfl rfl (cell_of hrc rfl) ⟨rfl, rfl⟩)) ?_
            refine WQ.c rfl ((QO.o rfl fun _ => o_ash (by first | exact (show _ = Value.pointer _ from rfl) | exact rfl) ⟨rfl, rfl⟩)) ?_
            refine WQ.c rfl ((QO.o rfl fun _ => o_ash (show _ = Value.int _ _ from rfl) ⟨rfl, rfl⟩)) ?_
            refine WQ.c rfl ((QO.o rfl fun _ => o_ash (show _ = Value.int _ _ from rfl) ⟨rfl, rfl⟩)) ?_
            refine WQ.nil ?_
            intro nq
            refine W.ret ?_
            refine ret3v rfl (show _ = Value.pointer _ from rfl) (show _ = Value.int _ _ from rfl) (show _ = Value.int _ _ from rfl) ?_
            have hbd : ∃ e a : Nat, rdS xs = .bad e a ∧ ((e : Int) = 124 ∧ (a : Int) = s.pos ∧ (s.err = 0 ∧ s.pos < xs.length) ∨ e = s.err ∧ a = s.bad ∧ s.err ≠ 0) := by
              by_cases c : s.err = 0
              · exact ⟨124, s.pos, hS0.trans ((hfin.1 c).trans (if_pos (by omega))), .inl ⟨rfl, rfl, c, by omega⟩⟩
              · exact ⟨s.err, s.bad, hS0.trans (hfin.2 c), .inr ⟨rfl, rfl, c⟩⟩
            obtain ⟨e', a', hbd, hv⟩ := hbd
            refine ⟨fun s a h => (by rw [hbd] at h; cases h), fun e a h => ?_⟩
            rw [hbd] at h
            cases h
            refine ⟨?_, hx.tr (Only.drewN _ _)⟩
            first
              | (have hv2 : (e' : Int) = 124 ∧ (a' : Int) = s.pos := by omega
                 rw [hv2.1, hv2.2]; rfl)
              | (have hv2 : e' = s.err ∧ a' = s.bad := by omega
                 rw [hv2.1, hv2.2])
          · try simp only [decide_eq_true_eq, decide_eq_false_iff_not, Bool.not_eq_true', Bool.not_eq_false', Bool.and_eq_true, Bool.or_eq_true, Bool.and_eq_false_iff, Bool.or_eq_false_iff] at c129
            refine W.skip ?_
            refine W.seq ?_
            refine W.region ?_
            refine WL.c rfl (o_mvh h6 ?_)
            refine WL.c rfl (o_ash (by first | exact (show _ = Value.pointer _ from rfl) | exact rfl) ?_)
            refine WL.c rfl (o_ash (show _ = Value.int _ _ from rfl) ?_)
            refine WL.c rfl (o_ash (show _ = Value.int _ _ from rfl) ?_)
            refine WL.nil ?_
            refine W.ret ?_
            refine ret3v rfl (show _ = Value.pointer _ from rfl) (show _ = Value.int _ _ from rfl) (show _ = Value.int _ _ from rfl) ?_
            first
              | exact absurd c129 (by decide)
              | (have hbd : rdS xs = .ok ⟨n1, n3, acc⟩ s.pos := hS0.trans ((hfin.1 (by omega)).trans (if_neg (by omega)))
                 refine ⟨fun s a h => ?_, fun e a h => (by rw [hbd] at h; cases h)⟩
                 rw [hbd] at h
                 cases h
                 exact ⟨cs, lv, V, rfl, hstk.mono (by omega), hx⟩)
        · try simp only [decide_eq_true_eq, decide_eq_false_iff_not, Bool.not_eq_true', Bool.not_eq_false', Bool.and_eq_true, Bool.or_eq_true, Bool.and_eq_false_iff, Bool.or_eq_false_iff] at c118
          refine W.skip ?_
          refine W.seq ?_
          refine W.seq ?_
          refine W.region ?_
          refine WL.c rfl (o_mvh h5 ?_)
          refine WL.c rfl (o_nil rfl ?_)
          refine WL.c rfl (o_fa 2 TI112 rfl TI3 rfl rfl ?_)
          refine WL.c rfl (o_ld TI3 rfl rfl (cell_of hrc rfl) ?_)
          refine WL.c rfl (o_ne rfl rfl ?_)
          refine WL.nil ?_
          refine W.cond rfl (fun c129 => ?_) (fun c129 => ?_)
          · try simp only [decide_eq_true_eq, decide_eq_false_iff_not, Bool.not_eq_true', Bool.not_eq_false', Bool.and_eq_true, Bool.or_eq_true, Bool.and_eq_false_iff, Bool.or_eq_false_iff] at c129
            refine W.seq ?_
            refine W.quiet rfl (by kernel_rfl) ?_
            refine WQ.c rfl ((QO.o rfl fun _ => o_mvh h5 ⟨rfl, rfl⟩)) ?_
            refine WQ.c rfl ((QO.r fun _ => r_nil rfl)) ?_
            refine WQ.c rfl ((QO.o rfl fun _ => o_fa 2 TI112 rfl TI3 rfl rfl ⟨rfl, rfl⟩)) ?_
            refine WQ.c rfl ((QO.o rfl fun _ => o_ld TI3 rfl rfl (cell_of hrc rfl) ⟨rfl, rfl⟩)) ?_
            refine WQ.c rfl ((QO.o rfl fun _ => o_mvh h5 ⟨rfl, rfl⟩)) ?_
            refine WQ.c rfl ((QO.r fun _ => r_nil rfl)) ?_
            refine WQ.c rfl ((QO.o rfl fun _ => o_fa 3 TI112 rfl TI3 rfl rfl ⟨rfl, rfl⟩)) ?_
            refine WQ.c rfl ((QO.o rfl fun _ => o_ld TI3 rfl rfl (cell_of hrc rfl) ⟨rfl, rfl⟩)) ?_
            refine WQ.c rfl ((QO.o rfl fun _ => o_ash (by first | exact (show _ = Value.pointer _ from rfl) | exact rfl) ⟨rfl, rfl⟩)) ?_
            refine WQ.c rfl ((QO.o rfl fun _ => o_ash (show _ = Value.int _ _ from rfl) ⟨rfl, rfl⟩)) ?_
            refine WQ.c rfl ((QO.o rfl fun _ => o_ash (show _ = Value.int _ _ from rfl) ⟨rfl, rfl⟩)) ?_
            refine WQ.nil ?_
            intro nq
            refine W.ret ?_
            refine ret3v rfl (show _ = Value.pointer _ from rfl) (show _ = Value.int _ _ from rfl) (show _ = Value.int _ _ from rfl) ?_
            have hbd : ∃ e a : Nat, rdS xs = .bad e a ∧ ((e : Int) = 124 ∧ (a : Int) = s.pos ∧ (s.err = 0 ∧ s.pos < xs.length) ∨ e = s.err ∧ a = s.bad ∧ s.err ≠ 0) := by
              by_cases c : s.err = 0
              · exact ⟨124, s.pos, hS0.trans ((hfin.1 c).trans (if_pos (by omega))), .inl ⟨rfl, rfl, c, by omega⟩⟩
              · exact ⟨s.err, s.bad, hS0.trans (hfin.2 c), .inr ⟨rfl, rfl, c⟩⟩
            obtain ⟨e', a', hbd, hv⟩ := hbd
            refine ⟨fun s a h => (by rw [hbd] at h; cases h), fun e a h => ?_⟩
            rw [hbd] at h
            cases h
            refine ⟨?_, hx.tr (Only.drewN _ _)⟩
            first
              | (have hv2 : (e' : Int) = 124 ∧ (a' : Int) = s.pos := by omega
                 rw [hv2.1, hv2.2]; rfl)
              | (have hv2 : e' = s.err ∧ a' = s.bad := by omega
                 rw [hv2.1, hv2.2])
          · try simp only [decide_eq_true_eq, decide_eq_false_iff_not, Bool.not_eq_true', Bool.not_eq_false', Bool.and_eq_true, Bool.or_eq_true, Bool.and_eq_false_iff, Bool.or_eq_false_iff] at c129
            refine W.skip ?_
            refine W.seq ?_
            refine W.region ?_
            refine WL.c rfl (o_mvh h6 ?_)
            refine WL.c rfl (o_ash (by first | exact (show _ = Value.pointer _ from rfl) | exact rfl) ?_)
            refine WL.c rfl (o_ash (show _ = Value.int _ _ from rfl) ?_)
            refine WL.c rfl (o_ash (show _ = Value.int _ _ from rfl) ?_)
            refine WL.nil ?_
            refine W.ret ?_
            refine ret3v rfl (show _ = Value.pointer _ from rfl) (show _ = Value.int _ _ from rfl) (show _ = Value.int _ _ from rfl) ?_
            first
              | exact absurd c129 (by decide)
              | (have hbd : rdS xs = .ok ⟨n1, n3, acc⟩ s.pos := hS0.trans ((hfin.1 (by omega)).trans (if_neg (by omega)))
                 refine ⟨fun s a h => ?_, fun e a h => (by rw [hbd] at h; cases h)⟩
                 rw [hbd] at h
                 cases h
                 exact ⟨cs, lv, V, rfl, hstk.mono (by omega), hx⟩)
end Go.Proofs.Ytdiaeafjjffjmaa
