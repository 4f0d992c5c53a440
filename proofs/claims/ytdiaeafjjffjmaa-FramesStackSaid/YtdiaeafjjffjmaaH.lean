/-
  Walks. Written by program out of specs of mine.
-/
import Derived.Test.YtdiaeafjjffjmaaG
set_option linter.unusedSimpArgs false
set_option linter.unusedVariables false
set_option maxRecDepth 100000
namespace Go.Proofs.Ytdiaeafjjffjmaa
open Go Go.Vc Go.RowKit Go.Proofs
theorem save_spec (H p most high : Nat) (L : List Fr) (lv : Value) (V : Nat → Value) (w0 : World) (h : Stk w0 H p most high L lv V) (hw : ∀ f ∈ L, fwhole f = true) (hh : high ≤ 1048576) : Ca Try.prog 8 #[.pointer (some ⟨p, 0, none⟩)] w0 (fun v w' => ∃ g cap, v = .slice (some ⟨g, 0, none⟩) (saved most high L).length (saved most high L).length ∧ w'.ownsRow w0.heap.size 5 1 (.slice (some ⟨g, 0, none⟩) (saved most high L).length cap) (saved most high L).length ((saved most high L).map bv) ∧ Ext w0 w') := by
  have hmb := h.mb
  have hlen := h.len
  have hplt := (h.lt p (.inl rfl)).2
  refine Ca.of Try.func8 Try.ntmps8 rfl rfl ?_
  refine W.seq ?_
  refine W.region ?_
  refine WL.c rfl (o_as ?_)
  refine WL.nil ?_
  refine W.seq ?_
  refine W.region ?_
  refine WL.c rfl (o_bs1 TI23 TI5 (show _ = Value.int _ _ from rfl) (by decide) (by decide) rfl ?_)
  have hr7 : (w0.alloc (.cells (Value.int .u8 102).cells 5)).ownsRow w0.heap.size 5 1 (.slice (some ⟨w0.heap.size, 0, none⟩) 1 1) [(102 : UInt8)].length ([(102 : UInt8)].map bv) := own_new1 rfl
  have hx7 : Ext w0 (w0.alloc (.cells (Value.int .u8 102).cells 5)) := Only.alloc w0 _
  have hs7 : (w0.alloc (.cells (Value.int .u8 102).cells 5)).heap.size = w0.heap.size + 1 := by simp
  generalize w0.alloc (.cells (Value.int .u8 102).cells 5) = w7 at *
  refine WL.c rfl (o_alB TI23 ?_)
  intro w3 hC3 hx3 hs3
  rw [hs7] at hC3 ⊢
  refine WL.u (o_stB TI23 rfl (show _ = Value.slice (some ⟨w0.heap.size, 0, none⟩) 1 1 from rfl) rfl hC3 (show 0 < 1 by decide) ?_)
  intro w4 hB4 ho4 hs4
  have hout : OutV w4 w0.heap.size (w0.heap.size + 1) (.slice (some ⟨w0.heap.size, 0, none⟩) 1 1) [102] := ⟨hB4, own_only (own_ext hr7 hx3) ho4 (fun k hk he => by simp only [Value.ownBlock, Option.some.injEq] at hk; omega)⟩
  have hx4 : Ext w0 w4 := (hx7.tr hx3).trans' ho4 (fun _ h => h) (fun j hj he => by omega)
  refine WL.nil ?_
  refine W.seq ?_
  refine W.region ?_
  refine WL.c rfl (o_mkF (lc rfl ln) ?_)
  refine WL.c rfl (o_as ?_)
  refine WL.nil ?_
  refine W.seq ?_
  obtain ⟨wd, hwd⟩ : ∃ wd, wd = w4.drew := ⟨_, rfl⟩
  have hxd : Ext w4 wd := hwd ▸ Only.drew w4
  replace hout := hout.ext hxd
  have h4 := h.ext (hx4.tr hxd)
  have hcell := h4.cell
  refine W.drawT 15 (Ext) [(0, fun v _ => v = _), (3, fun v _ => v = _), (4, fun v _ => v = _)] rfl (by kernel_rfl) (Only.refl No) (fun _ _ _ h k => h.trans k) ⟨Mono.eq, Mono.eq, Mono.eq, trivial⟩ ⟨rfl, rfl, rfl, trivial⟩ ?_
  refine WD.p rfl (fun e w hR hh => by obtain ⟨h4, -⟩ := hh; exact SG.n (o_mvh h4 ⟨rfl, Only.refl No _⟩)) ?_
  refine WD.p rfl (fun e w hR hh => by obtain ⟨h0, -⟩ := hh; exact SG.n (o_mvh h0 ⟨rfl, Only.refl No _⟩)) ?_
  refine WD.p rfl (fun e w hR hh => by obtain ⟨h10, -⟩ := hh; exact SG.n (o_nil h10 ⟨rfl, Only.refl No _⟩)) ?_
  refine WD.p rfl (fun e w hR hh => by obtain ⟨h11, -⟩ := hh; exact SG.n (o_fa 0 TI71 rfl TI3 rfl h11 ⟨rfl, Only.refl No _⟩)) ?_
  refine WD.p rfl (fun e w hR hh => by obtain ⟨h12, -⟩ := hh; rw [← hwd] at hR; have hc := hR.blk hcell (fun h => h); exact SG.n (o_ld TI3 rfl h12 (cell_of hc rfl) ⟨rfl, Only.refl No _⟩)) ?_
  refine WD.p rfl (fun e w hR hh => by obtain ⟨h0, -⟩ := hh; exact SG.n (o_mvh h0 ⟨rfl, Only.refl No _⟩)) ?_
  refine WD.p rfl (fun e w hR hh => by obtain ⟨h14, -⟩ := hh; exact SG.n (o_nil h14 ⟨rfl, Only.refl No _⟩)) ?_
  refine WD.p rfl (fun e w hR hh => by obtain ⟨h15, -⟩ := hh; exact SG.n (o_fa 2 TI71 rfl TI22 rfl h15 ⟨rfl, Only.refl No _⟩)) ?_
  refine WD.p rfl (fun e w hR hh => by obtain ⟨h16, -⟩ := hh; rw [← hwd] at hR; have hc := hR.blk hcell (fun h => h); exact SG.n (o_ld TI22 rfl h16 (cell_of hc rfl) ⟨rfl, Only.refl No _⟩)) ?_
  refine WD.p rfl (fun e w hR hh => by obtain ⟨h17, -⟩ := hh; rw [← hwd] at hR; exact SG.n (o_lenR TI22 h17 (Sl.own (h4.rows.ext hR).row) ⟨rfl, Only.refl No _⟩)) ?_
  refine WD.p rfl (fun e w hR hh => by obtain ⟨h0, -⟩ := hh; exact SG.n (o_mvh h0 ⟨rfl, Only.refl No _⟩)) ?_
  refine WD.p rfl (fun e w hR hh => by obtain ⟨h19, -⟩ := hh; exact SG.n (o_nil h19 ⟨rfl, Only.refl No _⟩)) ?_
  refine WD.p rfl (fun e w hR hh => by obtain ⟨h20, -⟩ := hh; exact SG.n (o_fa 1 TI71 rfl TI3 rfl h20 ⟨rfl, Only.refl No _⟩)) ?_
  refine WD.p rfl (fun e w hR hh => by obtain ⟨h21, -⟩ := hh; rw [← hwd] at hR; have hc := hR.blk hcell (fun h => h); exact SG.n (o_ld TI3 rfl h21 (cell_of hc rfl) ⟨rfl, Only.refl No _⟩)) ?_
  refine WD.q (fun v w => w.ownsRow wd.heap.size 3 1 v 3 (ints [(most : Int), (L.length : Int), (high : Int)])) (fun v w w2 hR hh => own_ext hh hR) rfl (fun e w hR hh => by obtain ⟨h22, h18, h13, -⟩ := hh; rw [← hwd] at hR; exact SG.n (o_bsn (xs := [(.tmp 13), (.tmp 18), (.tmp 22)]) TI37 TI3 rfl (lc h13 (lc h18 (lc h22 ln))) rfl rfl (by decide) (by decide) ⟨own_mono (own_newN rfl (by decide)) hR.size, Only.alloc w _⟩)) ?_
  rintro e w hR ⟨h23, h22, h21, h20, h19, h18, h17, h16, h15, h14, h13, h12, h11, h10, h9, h0, h3, h4, -⟩
  rw [← hwd] at hR
  replace hout := hout.ext hR
  have hx9 := (hx4.tr hxd).tr hR
  refine WL.c rfl (o_callC h9 Try.call29 (lc rfl ln) ((save1_spec wd.heap.size w0.heap.size (w0.heap.size + 1) [(most : Int), (L.length : Int), (high : Int)] (e 23) _ [102] _ h23 hout (by omega) (by intro n hn; simp only [List.mem_cons, List.not_mem_nil, or_false] at hn; unfold numOk; omega) (by simp) (by simp)).mono ?_))
  rintro v24 w24 ⟨ou, hou, hf24, -⟩
  have hx24 : Ext w0 w24 := hx9.trans' hf24 (fun _ h => h) (fun j hj hF => by rcases hF with hF | hF; omega; simp only [Value.ownBlock, Option.some.injEq] at hF; omega)
  obtain ⟨hd, hhd⟩ : ∃ hd, hd = [102] ++ [(most : Int), (L.length : Int), (high : Int)].flatMap vI := ⟨_, rfl⟩
  rw [← hhd] at hou
  have hhl : hd.length ≤ 31 := by
    have := vIs_len (l := [(most : Int), (L.length : Int), (high : Int)]) (by intro n hn; simp only [List.mem_cons, List.not_mem_nil, or_false] at hn; unfold numOk; omega)
    rw [hhd, List.length_append]; simp only [List.length_cons, List.length_nil] at this ⊢; omega
  have h5 := h.ext hx24
  refine WL.nil ?_
  refine W.seq ?_
  refine W.seq ?_
  refine W.region ?_
  refine WL.c rfl (o_mvh h0 ?_)
  refine WL.c rfl (o_nil rfl ?_)
  refine WL.c rfl (o_fa 2 TI71 rfl TI22 rfl rfl ?_)
  refine WL.c rfl (o_ld TI22 rfl rfl (cell_of h5.cell rfl) ?_)
  refine WL.c rfl (o_lenR TI22 rfl (Sl.own h5.rows.row) ?_)
  refine WL.c rfl (o_mv ?_)
  refine WL.nil ?_
  refine W.block ?_
  refine W.loop (fun e w => ∃ (k : Nat) (ou : Value), k ≤ L.length ∧ e 3 = .pointer (some ⟨w0.heap.size + 1, 0, none⟩) ∧ e 4 = .func (.func 29) #[] #[.pointer (some ⟨w0.heap.size + 1, 0, none⟩)] ∧ e 28 = lv ∧ e 29 = .int .i64 (L.length : Int) ∧ e 30 = .int .i64 (k : Int) ∧ OutV w w0.heap.size (w0.heap.size + 1) ou (hd ++ (L.take k).flatMap fbytes) ∧ Ext w0 w) (fun e w => L.length - (intOf (e 30)).toNat) ?_ ?_
  · exact ⟨0, ou, Nat.zero_le _, h3, h4, rfl, rfl, rfl, by simpa using hou, hx24⟩
  rintro e w ⟨k, ou, hk, h3, h4, h28, h29, h30, hou, hxw⟩
  have hm30 := h30
  have h5 := h.ext hxw
  refine W.seq ?_
  refine W.region ?_
  refine WL.c rfl (o_lt h30 h29 ?_)
  refine WL.nil ?_
  refine W.seq ?_
  refine W.cond rfl (fun c31 => ?_) (fun c31 => ?_)
  · try simp only [decide_eq_true_eq, decide_eq_false_iff_not, Bool.not_eq_true', Bool.not_eq_false', Bool.and_eq_true, Bool.or_eq_true, Bool.and_eq_false_iff, Bool.or_eq_false_iff] at c31
    refine W.skip ?_
    refine W.seq ?_
    refine W.block ?_
    refine W.seq ?_
    have hk1 : k < L.length := by omega
    have hfw := hw L[k] (List.getElem_mem hk1)
    have hft := fwhole_tab hfw
    have hflen := fbytes_len hfw
    have hLl : ((L.take k).flatMap fbytes).length ≤ 10485830 * k := by
      have := frames_len (L := L.take k) (fun f hf => hw f (List.mem_of_mem_take hf))
      rw [List.length_take, Nat.min_eq_left hk] at this; exact this
    have hol : (hd ++ (L.take k).flatMap fbytes).length ≤ 31 + 10485830 * k := by rw [List.length_append]; omega
    have hrk : w.ownsRow H 3 1 (V k) L[k].tab.length (ints L[k].tab) := by
      have := h5.rows.tabs.row k hk1
      simp only [tabl, List.getD_eq_getElem?_getD, List.getElem?_eq_getElem hk1, Option.getD_some] at this
      exact this
    refine W.region ?_
    refine WL.c rfl (o_ix TI22 TI39 h28 h30 (Sl.own h5.rows.row) (by omega) ?_)
    intro b32 o32 c32 hl32 hc32
    rw [frows_at hk1, List.getD_eq_getElem?_getD, List.getElem?_eq_getElem hk1, Option.getD_some] at hc32
    refine WL.c rfl (o_ldA TI39 rfl rfl hc32 rfl ?_)
    refine WL.c rfl (o_alB TI39 ?_)
    intro w6 hC6 hx6 hs6
    replace hou := hou.ext hx6
    replace hrk := own_ext hrk hx6
    refine WL.u (o_stA TI39 rfl (show _ = Value.agg (fcells L[k] (V k)).toArray from rfl) rfl (fcells_one (own_one hrk)) hC6 rfl ?_)
    intro w8 hB6 ho6 hs8
    have hx8 : Ext w0 w8 := (hxw.tr hx6).trans' ho6 (fun _ h => h) (fun j hj he => by have := hxw.size; omega)
    have hx68 : Ext w w8 := hx6.trans' ho6 (fun _ h => h) (fun j hj he => by omega)
    replace hou := hou.only ho6 (show ¬ w0.heap.size + 1 = w.heap.size from fun he => by have := (Array.getElem?_eq_some_iff.1 hou.cell).1; have := (hou.row.lt); have h9 := own_off hou.row hC6 (by decide); have h10 := hou.cell; rw [he, hC6] at h10; cases h10) (fun k hk he => by subst he; exact own_off hou.row hC6 (by decide) hk)
    replace hrk := own_only hrk ho6 (fun k hk he => by subst he; exact own_off hrk hC6 (by decide) hk)
    have hfo := hfw
    simp only [fwhole, fright, Bool.and_eq_true, inb_iff, Huge] at hfo
    refine WL.nil ?_
    refine W.seq ?_
    refine W.region ?_
    refine WL.c rfl (o_mvh h4 ?_)
    refine WL.c rfl (o_fa 0 TI39 rfl TI3 rfl rfl ?_)
    refine WL.c rfl (o_ld TI3 rfl rfl (cell_of hB6 rfl) ?_)
    refine WL.c rfl (o_fa 1 TI39 rfl TI3 rfl rfl ?_)
    refine WL.c rfl (o_ld TI3 rfl rfl (cell_of hB6 rfl) ?_)
    refine WL.c rfl (o_fa 2 TI39 rfl TI3 rfl rfl ?_)
    refine WL.c rfl (o_ld TI3 rfl rfl (cell_of hB6 rfl) ?_)
    refine WL.c rfl (o_fa 3 TI39 rfl TI3 rfl rfl ?_)
    refine WL.c rfl (o_ld TI3 rfl rfl (cell_of hB6 rfl) ?_)
    refine WL.c rfl (o_addi rfl rfl (by omega) ?_)
    refine WL.c rfl (o_fa 4 TI39 rfl TI3 rfl rfl ?_)
    refine WL.c rfl (o_ld TI3 rfl rfl (cell_of hB6 rfl) ?_)
    refine WL.c rfl (o_addi rfl rfl (by omega) ?_)
    refine WL.c rfl (o_fa 5 TI39 rfl TI3 rfl rfl ?_)
    refine WL.c rfl (o_ld TI3 rfl rfl (cell_of hB6 rfl) ?_)
    refine WL.c rfl (o_fa 6 TI39 rfl TI37 rfl rfl ?_)
    refine WL.c rfl (o_ld TI37 rfl rfl (cell_of hB6 rfl) ?_)
    refine WL.c rfl (o_lenR TI37 rfl (Sl.own hrk) ?_)
    refine WL.c rfl (o_bsn (xs := [(.tmp 36), (.tmp 38), (.tmp 40), (.tmp 43), (.tmp 46), (.tmp 48), (.tmp 51)]) TI37 TI3 rfl (lc (show _ = Value.int _ _ from rfl) (lc (show _ = Value.int _ _ from rfl) (lc (show _ = Value.int _ _ from rfl) (lc (show _ = Value.int _ _ from rfl) (lc (show _ = Value.int _ _ from rfl) (lc (show _ = Value.int _ _ from rfl) (lc (show _ = Value.int _ _ from rfl) ln))))))) rfl rfl (by decide) (by decide) ?_)
    have hr52 : (w8.alloc (.cells (ints (fnums L[k])).toArray 3)).ownsRow w8.heap.size 3 1 (.slice (some ⟨w8.heap.size, 0, none⟩) 7 7) (fnums L[k]).length (ints (fnums L[k])) := own_newN rfl (by decide)
    have hx52 : Ext w8 (w8.alloc (.cells (ints (fnums L[k])).toArray 3)) := Only.alloc w8 _
    replace hou := hou.ext hx52
    replace hrk := own_ext hrk hx52
    replace hB6 := hx52.blk hB6 (fun h => h)
    show WL _ _ _ _ _ _ (w8.alloc (.cells (ints (fnums L[k])).toArray 3))
    generalize w8.alloc (.cells (ints (fnums L[k])).toArray 3) = w52 at *
    refine WL.c rfl (o_callC (show _ = Value.func (.func 29) #[] #[.pointer (some ⟨w0.heap.size + 1, 0, none⟩)] from rfl) Try.call29 (lc rfl ln) ((save1_spec w8.heap.size w0.heap.size (w0.heap.size + 1) (fnums L[k]) _ _ _ _ hr52 hou (by omega) (fnums_ok hfw) (by have : (fnums L[k]).length = 7 := rfl; omega) (by have : (fnums L[k]).length = 7 := rfl; omega)).mono ?_))
    rintro v53 w53 ⟨ou1, hou1, hf53, -⟩
    have hrow0 : w0.heap.size ≤ w0.heap.size + 1 := Nat.le_succ _
    have hx53 : Ext w0 w53 := (hx8.tr hx52).trans' hf53 (fun _ h => h) (fun j hj hF => by rcases hF with hF | hF; omega; have := (hou.row.lt j hF).1; omega)
    replace hB6 := hf53.blk hB6 (fun hF => by rcases hF with hF | hF; have h10 := hou.cell; rw [← hF, hB6] at h10; cases h10; exact own_off hou.row hB6 (by decide) hF)
    replace hrk := own_only hrk hf53 (fun j hj hF => by rcases hF with rfl | hF; exact own_off hrk hou.cell (by decide) hj; exact own_row_off hou.row hrk (by decide) j hj hF)
    have hl53 : (hd ++ (L.take k).flatMap fbytes ++ (fnums L[k]).flatMap vI).length ≤ 31 + 10485830 * k + 70 := by
      have := vIs_len (fnums_ok hfw)
      have : (fnums L[k]).length = 7 := rfl
      rw [List.length_append]; omega
    refine WL.nil ?_
    refine W.region ?_
    refine WL.c rfl (o_mvh h4 ?_)
    refine WL.c rfl (o_fa 6 TI39 rfl TI37 rfl rfl ?_)
    refine WL.c rfl (o_ld TI37 rfl rfl (cell_of hB6 rfl) ?_)
    refine WL.c rfl (o_callC (show _ = Value.func (.func 29) #[] #[.pointer (some ⟨w0.heap.size + 1, 0, none⟩)] from rfl) Try.call29 (lc (show _ = V k from rfl) ln) ((save1_spec H w0.heap.size (w0.heap.size + 1) L[k].tab (V k) _ _ _ hrk hou1 (by omega) (ftab_ok hfw) (by omega) (by omega)).mono ?_))
    rintro v57 w57 ⟨ou2, hou2, hf57, -⟩
    have hx57 : Ext w0 w57 := hx53.trans' hf57 (fun _ h => h) (fun j hj hF => by rcases hF with hF | hF; omega; have := (hou1.row.lt j hF).1; omega)
    refine WL.nil ?_
    refine W.region ?_
    refine WL.c rfl (o_addi h30 rfl (by omega) ?_)
    refine WL.c rfl (o_mv ?_)
    refine WL.nil ?_
    refine ⟨⟨k + 1, ou2, by omega, h3, h4, h28, h29, rfl, ?_, hx57⟩, ?_⟩
    · rw [take_flat hk1, ← List.append_assoc, fbytes, ← List.append_assoc]; exact hou2
    · show L.length - ((k : Int) + 1).toNat < _
      rw [hm30]; simp [intOf]; omega
  · try simp only [decide_eq_true_eq, decide_eq_false_iff_not, Bool.not_eq_true', Bool.not_eq_false', Bool.and_eq_true, Bool.or_eq_true, Bool.and_eq_false_iff, Bool.or_eq_false_iff] at c31
    refine W.exit ?_
    refine W.seq ?_
    have hkl : k = L.length := by omega
    subst hkl
    rw [List.take_length] at hou
    have hsv : hd ++ L.flatMap fbytes = saved most high L := by rw [hhd]; rfl
    rw [hsv] at hou
    obtain ⟨g, cap, rfl, hgb⟩ := own_some hou.row (by simp [saved])
    refine W.region ?_
    refine WL.c rfl (o_ld TI23 rfl h3 (cell_of hou.cell rfl) ?_)
    refine WL.c rfl (o_call Try.call31 (lc rfl ln) ((clipb_spec (some ⟨g, 0, none⟩) _ cap _ (by obtain ⟨_, _, hv, _, _, hnc, _⟩ := own_blk hou.row hgb; simp only [Value.slice.injEq] at hv; omega)).mono ?_))
    rintro v60 w60 ⟨rfl, rfl⟩
    refine WL.c rfl (o_as ?_)
    refine WL.nil ?_
    refine W.ret ?_
    refine ret1v rfl (show _ = Value.slice (some ⟨g, 0, none⟩) (saved most high L).length (saved most high L).length from rfl) ?_
    exact ⟨g, cap, rfl, hou.row, hxw⟩
end Go.Proofs.Ytdiaeafjjffjmaa
