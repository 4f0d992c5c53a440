/-
  Walks. Written by program out of specs of mine.
-/
import Derived.Test.YtdiaeafjjffjmaaB
import Derived.Test.YtdiaeafjjffjmaaV
import Derived.Test.YtdiaeafjjffjmaaDrawc
set_option linter.unusedSimpArgs false
set_option linter.unusedVariables false
set_option maxRecDepth 100000
namespace Go.Proofs.Ytdiaeafjjffjmaa
open Go Go.Vc Go.RowKit Go.Proofs

def vI (n : Int) : List UInt8 := vput n.toNat
def fnums (f : Fr) : List Int := [f.rt, f.pl, f.bs, f.en + 1, f.nd + 1, f.nx, (f.tab.length : Int)]
def fbytes (f : Fr) : List UInt8 := (fnums f).flatMap vI ++ f.tab.flatMap vI
def saved (most high : Nat) (L : List Fr) : List UInt8 := 102 :: ([(most : Int), (L.length : Int), (high : Int)].flatMap vI ++ L.flatMap fbytes)
def numOk (n : Int) : Prop := 0 ≤ n ∧ n ≤ 4611686018427387905
theorem numOk_lt {n : Int} (h : numOk n) : n.toNat < 2 ^ 64 := by
  have := h.2
  have := h.1
  have : (2 : Nat) ^ 64 = 18446744073709551616 := by decide
  omega
theorem vI_len {n : Int} (h : numOk n) : (vI n).length ≤ 10 := by
  unfold vI; rw [vput_len]
  exact vsize_10 (by have := h.2; have := h.1; have : (2:Nat)^64 = 18446744073709551616 := by decide
                     omega)
theorem vIs_len : ∀ {l : List Int}, (∀ n ∈ l, numOk n) → (l.flatMap vI).length ≤ 10 * l.length
  | [], _ => by simp
  | a :: l, h => by
    have := vIs_len (fun n hn => h n (List.mem_cons_of_mem _ hn))
    have := vI_len (h a (List.mem_cons_self ..))
    rw [List.flatMap_cons, List.length_append, List.length_cons]; omega
theorem inb_iff {n lo hi : Int} : inb n lo hi = true ↔ lo ≤ n ∧ n ≤ hi := by simp [inb]
theorem fnums_ok {f : Fr} (h : fwhole f = true) : ∀ n ∈ fnums f, numOk n := by
  have ht := fwhole_tab h
  simp only [fwhole, fright, Bool.and_eq_true, inb_iff] at h
  intro n hn
  simp only [fnums, List.mem_cons, List.not_mem_nil, or_false] at hn
  unfold numOk
  simp only [Huge] at h
  rcases hn with rfl | rfl | rfl | rfl | rfl | rfl | rfl <;> omega
theorem ftab_ok {f : Fr} (h : fwhole f = true) : ∀ n ∈ f.tab, numOk n := by
  intro n hn
  simp only [fwhole, tright, Bool.and_eq_true, List.all_eq_true] at h
  have := inb_iff.1 (h.2.2 n hn)
  simp only [Huge] at this
  unfold numOk; omega
theorem fbytes_len {f : Fr} (h : fwhole f = true) : (fbytes f).length ≤ 10485830 := by
  have h1 := vIs_len (fnums_ok h)
  have h2 := vIs_len (ftab_ok h)
  have h3 := fwhole_tab h
  rw [fbytes, List.length_append]
  have : (fnums f).length = 7 := rfl
  omega
theorem frames_len : ∀ {L : List Fr}, (∀ f ∈ L, fwhole f = true) → (L.flatMap fbytes).length ≤ 10485830 * L.length
  | [], _ => by simp
  | a :: l, h => by
    have := frames_len (fun n hn => h n (List.mem_cons_of_mem _ hn))
    have := fbytes_len (h a (List.mem_cons_self ..))
    rw [List.flatMap_cons, List.length_append, List.length_cons]; omega
structure OutV (w : World) (B b : Nat) (ov : Value) (xs : List UInt8) : Prop where
  cell : w.heap[b]? = some (.cells #[ov] 23 (0, 0))
  row : w.ownsRow B 5 1 ov xs.length (xs.map bv)
theorem OutV.only {w w' : World} {B b : Nat} {ov : Value} {xs : List UInt8} {F : Nat → Prop} (h : OutV w B b ov xs) (ho : Only F w w') (hb : ¬ F b) (hk : ∀ k, ov.ownBlock = some k → ¬ F k) : OutV w' B b ov xs := ⟨ho.blk h.cell hb, own_only h.row ho hk⟩
theorem OutV.ext {w w' : World} {B b : Nat} {ov : Value} {xs : List UInt8} (h : OutV w B b ov xs) (ho : Ext w w') : OutV w' B b ov xs := h.only ho (fun h => h) (fun _ _ h => h)
theorem OutV.off {w : World} {B b : Nat} {ov : Value} {xs : List UInt8} (h : OutV w B b ov xs) : ¬ ov.ownBlock = some b := own_off h.row h.cell (by decide)
theorem o_cvN {P : Program} {e : Env} {w : World} {K : Value → World → Prop} {ty : TypeId} {x : Operand} {t u : TypeId} {z0 : Int} {s b s' b' : Nat} {z z' : Value} (ht : Ty P t (.int .i64) s b z) (hu : Ty P u (.int .u64) s' b' z') (hx : ev e x = .int .i64 z0) (h0 : 0 ≤ z0) (h1 : z0 < 18446744073709551616) (kk : K (.int .u64 (z0.toNat : Int)) w) : OP P e (.convert t u x) ty w K :=
  o_cvI ht hu hx (by
    obtain ⟨n, rfl⟩ : ∃ n : Nat, z0 = (n : Int) := ⟨z0.toNat, by omega⟩
    have h2 : IntKind.u64.wrap (n : Int) = (n : Int) := by
      rw [wrapU (by decide)]
      have h3 : 2 ^ ubits IntKind.u64 = 18446744073709551616 := by decide
      rw [h3, Nat.mod_eq_of_lt (by omega)]
    rw [h2]; exact kk)
theorem own_newN {w : World} {vs : List Value} {el : TypeId} {n : Nat} (hl : vs.length = n) (hm : n ≤ maxLen) : (w.alloc (.cells vs.toArray el)).ownsRow w.heap.size el 1 (.slice (some ⟨w.heap.size, 0, none⟩) n n) n vs :=
  ⟨by simp [hl], .inr ⟨w.heap.size, n, vs.toArray, rfl, Nat.le_refl _, heap_alloc_new w _, Nat.le_refl _, hm, by simp [hl], by rw [Nat.mul_one]; exact List.take_of_length_le (by simp [hl])⟩⟩
theorem take_flat {α : Type} {f : α → List UInt8} {l : List α} {k : Nat} (h : k < l.length) : (l.take (k + 1)).flatMap f = (l.take k).flatMap f ++ f l[k] := by
  rw [← List.take_append_getElem h, List.flatMap_append]; simp

theorem clipb_spec (a : Option Addr) (n c : Nat) (w0 : World) (hnc : n ≤ c) : Ca Try.prog 31 #[.slice a n c] w0 (fun v w' => v = .slice a n n ∧ w' = w0) := by
  refine Ca.of Try.func31 Try.ntmps31 rfl rfl ?_
  refine W.seq ?_
  refine W.region ?_
  refine WL.c rfl (o_as ?_)
  refine WL.nil ?_
  refine W.seq ?_
  refine W.region ?_
  refine WL.c rfl (o_mv ?_)
  refine WL.c rfl (o_mv ?_)
  refine WL.c rfl (o_len TI23 rfl ?_)
  refine WL.c rfl (o_mv ?_)
  refine WL.c rfl (o_len TI23 rfl ?_)
  refine WL.c rfl (o_clip TI23 TI5 rfl rfl rfl (hnc) ?_)
  refine WL.c rfl (o_as ?_)
  refine WL.nil ?_
  refine W.ret ?_
  refine ret1v rfl rfl ?_
  exact ⟨rfl, rfl⟩
theorem save1_spec (H0 B b : Nat) (l : List Int) (lv ov : Value) (xs : List UInt8) (w0 : World) (hrow : w0.ownsRow H0 3 1 lv l.length (ints l)) (ho : OutV w0 B b ov xs) (hBb : B ≤ b) (hok : ∀ n ∈ l, numOk n) (hlen : xs.length + 10 * l.length ≤ 100000000000000) (hll : l.length ≤ 16777216) : Ca Try.prog 29 #[lv, .pointer (some ⟨b, 0, none⟩)] w0 (fun v w' => ∃ ov', OutV w' B b ov' (xs ++ l.flatMap vI) ∧ Only (fun k => k = b ∨ ov.ownBlock = some k) w0 w' ∧ (ov'.ownBlock = ov.ownBlock ∨ ∃ g, w0.heap.size ≤ g ∧ ov'.ownBlock = some g)) := by
  refine Ca.of Try.func29 Try.ntmps29 rfl rfl ?_
  refine W.seq ?_
  refine W.region ?_
  refine WL.c rfl (o_mv ?_)
  refine WL.c rfl (o_lenR TI37 rfl (Sl.own hrow) ?_)
  refine WL.c rfl (o_mv ?_)
  refine WL.nil ?_
  refine W.block ?_
  refine W.loop (fun e w => ∃ (k : Nat) (ou : Value), k ≤ l.length ∧ e 1 = .pointer (some ⟨b, 0, none⟩) ∧ e 5 = lv ∧ e 6 = .int .i64 (l.length : Int) ∧ e 7 = .int .i64 (k : Int) ∧ OutV w B b ou (xs ++ (l.take k).flatMap vI) ∧ Only (fun k => k = b ∨ ov.ownBlock = some k) w0 w ∧ (ou.ownBlock = ov.ownBlock ∨ ∃ g, w0.heap.size ≤ g ∧ ou.ownBlock = some g)) (fun e w => l.length - (intOf (e 7)).toNat) ?_ ?_
  · exact ⟨0, ov, Nat.zero_le _, rfl, rfl, rfl, rfl, by simpa using ho, Only.refl _ _, .inl rfl⟩
  rintro e w ⟨k, ou, hk, h1, h5, h6, h7, hou, hoo, hbb⟩
  have hm7 := h7
  have hrw : w.ownsRow H0 3 1 lv l.length (ints l) := own_only hrow hoo (fun j hj hF => by rcases hF with rfl | hF; exact own_off hrow ho.cell (by decide) hj; exact own_row_off ho.row hrow (by decide) j hj hF)
  refine W.seq ?_
  refine W.region ?_
  refine WL.c rfl (o_lt h7 h6 ?_)
  refine WL.nil ?_
  refine W.seq ?_
  refine W.cond rfl (fun c8 => ?_) (fun c8 => ?_)
  · try simp only [decide_eq_true_eq, decide_eq_false_iff_not, Bool.not_eq_true', Bool.not_eq_false', Bool.and_eq_true, Bool.or_eq_true, Bool.and_eq_false_iff, Bool.or_eq_false_iff] at c8
    refine W.skip ?_
    refine W.seq ?_
    refine W.block ?_
    refine W.seq ?_
    have hk1 : k < l.length := by omega
    have hok1 := hok l[k] (List.getElem_mem hk1)
    have hvl := vI_len hok1
    refine W.region ?_
    refine WL.c rfl (o_ix1 TI37 TI3 h5 h7 (Sl.own hrw) (by omega) ?_)
    intro b9 o9 hc9 hb9
    refine WL.c rfl (o_ld TI3 rfl rfl (hc9.trans (getint hk1)) ?_)
    refine WL.c rfl (o_as ?_)
    refine WL.nil ?_
    obtain ⟨wd, hwd⟩ : ∃ wd, wd = w.drew := ⟨_, rfl⟩
    have hxd : Ext w wd := hwd ▸ Only.drew w
    replace hou := hou.ext hxd
    have hxl : (xs ++ (l.take k).flatMap vI).length ≤ xs.length + 10 * k := by
      have := vIs_len (l := l.take k) (fun n hn => hok n (List.mem_of_mem_take hn))
      rw [List.length_append]; rw [List.length_take] at this; omega
    have hlt : ∀ k, ou.ownBlock = some k → k < wd.heap.size := fun k hk => (hou.row.lt k hk).2
    have hblt : b < wd.heap.size := (Array.getElem?_eq_some_iff.1 hou.cell).1
    refine W.drawF 5 [4] [fun k => ou.ownBlock = some k] [(1, fun v _ => v = _), (4, fun v _ => v = _), (5, fun v _ => v = _), (6, fun v _ => v = _), (7, fun v _ => v = _)] rfl (by kernel_rfl) (by kernel_rfl) ⟨Mono.eq, Mono.eq, Mono.eq, Mono.eq, Mono.eq, trivial⟩ ⟨h1, rfl, h5, h6, h7, trivial⟩ ?_
    refine WDS.p rfl (by decide) (fun e w hR hh => by obtain ⟨h1, -⟩ := hh; rw [← hwd] at hR; have hc := hR.blk hou.cell (fun hF => by rcases hF with hF | hF <;> first | exact hou.off hF | exact hF); exact SG.n (o_ld TI23 rfl h1 (cell_of hc rfl) ⟨rfl, Only.refl No _⟩)) ?_
    refine WDS.p rfl (by decide) (fun e w hR hh => by obtain ⟨h4, -⟩ := hh; exact SG.n (o_mvh h4 ⟨rfl, Only.refl No _⟩)) ?_
    refine WDS.p rfl (by decide) (fun e w hR hh => by obtain ⟨h12, -⟩ := hh; exact SG.n (o_cvN TI3 TI68 h12 hok1.1 (by have := hok1.2; omega) ⟨rfl, Only.refl No _⟩)) ?_
    refine WDS.q 0 (fun v w => w.ownsRow wd.heap.size 5 1 v (vI l[k]).length ((vI l[k]).map bv)) (fun v w w2 hR hh => own_only hh hR (fun k hk hF => by rcases hF with hF | hF <;> first | exact hF | (have := hlt k hF; have := (hh.lt k hk).1; omega))) (by kernel_rfl) rfl (by decide) (fun e w hR hh => by obtain ⟨h13, -⟩ := hh; rw [← hwd] at hR; exact SG.n (o_call Try.call30 (lc h13 ln) ((put_spec l[k].toNat (numOk_lt hok1) w).mono (fun v w' hh => by obtain ⟨g, rfl, hg, hc, hx⟩ := hh; exact ⟨⟨by simp, .inr ⟨g, vsize l[k].toNat, _, by rw [vI, vput_len], Nat.le_trans hR.size hg, hc, by rw [vI, vput_len]; exact Nat.le_refl _, by rw [maxLen_eq]; rw [vI, vput_len] at hvl; omega, by simp [vput_len], by rw [List.take_of_length_le (by simp [vI, vput_len])]; rfl⟩⟩, hx⟩)))) ?_
    refine WDS.mf 0 1 (fun v w => w.ownsRow B 5 1 v ((xs ++ (l.take k).flatMap vI).length + (vI l[k]).length) ((xs ++ (l.take k).flatMap vI).map bv ++ (vI l[k]).map bv) ∧ (v.ownBlock = ou.ownBlock ∨ ∃ g, wd.heap.size ≤ g ∧ v.ownBlock = some g)) (fun v w w2 hR hh => ⟨own_ext hh.1 hR, hh.2⟩) (by kernel_rfl) rfl rfl rfl (fun e w hR hW hh => by obtain ⟨h14, h11, -⟩ := hh; rw [← hwd] at hR hW; have hw2 := hR.size; have hW2 : Ext wd w := hW.mono (fun k _ hF => hF); exact SGX.n (OP.x (o_apO B TI23 TI5 h11 rfl (own_ext hou.row hW2) (Sl.own h14) rfl (by decide) one_bv (by rw [maxLen_eq]; omega) (by omega) (by omega) (fun v' w' h1 h2 h3 _ => ⟨⟨h1, h3.imp id (fun h => ⟨_, hw2, h⟩)⟩, h2⟩)))) ?_
    rintro e w hR ⟨h15, h14, h13, h12, h11, h1, h4, h5, h6, h7, -⟩
    rw [← hwd] at hR
    obtain ⟨hr15, hb15⟩ := h15
    obtain ⟨v15, hv15⟩ : ∃ v, v = e 15 := ⟨_, rfl⟩
    rw [← hv15] at hr15 hb15
    have hc15 := hR.blk hou.cell (fun hF => by rcases hF with hF | hF <;> first | exact hou.off hF | exact hF)
    have hr15' := hr15
    rw [← List.length_append, ← List.map_append] at hr15'
    refine WL.u (o_stB TI23 h1 (show _ = v15 from hv15.symm) (own_one hr15) hc15 (show 0 < 1 by decide) ?_)
    intro w6 hB6 hos15 hs6
    have ho15' : OutV w6 B b v15 (xs ++ (l.take k).flatMap vI ++ vI l[k]) := ⟨hB6, own_only hr15' hos15 (fun k hk he => by subst he; exact own_off hr15' hc15 (by decide) hk)⟩
    refine WL.nil ?_
    refine W.region ?_
    refine WL.c rfl (o_addi h7 rfl (by omega) ?_)
    refine WL.c rfl (o_mv ?_)
    refine WL.nil ?_
    refine ⟨⟨k + 1, v15, by omega, h1, h5, h6, rfl, ?_, ?_, ?_⟩, ?_⟩
    · rw [take_flat hk1, ← List.append_assoc]; exact ho15'
    · refine (((hoo.ext hxd).trans' hR (fun _ h => h) (fun j hj hF => ?_))).trans' hos15 (fun _ h => h) (fun j _ hj => .inl hj)
      rcases hF with hF | hF
      · rcases hbb with hbb | ⟨g, hg, hbb⟩
        · rw [hbb] at hF; exact .inr hF
        · rw [hbb] at hF; cases hF; omega
      · exact hF.elim
    · rcases hb15 with hb15 | ⟨g, hg, hb15⟩
      · rw [hb15]; exact hbb
      · exact .inr ⟨g, by have := hoo.size; have := hxd.size; omega, hb15⟩
    · show l.length - ((k : Int) + 1).toNat < _
      rw [hm7]; simp [intOf]; omega
  · try simp only [decide_eq_true_eq, decide_eq_false_iff_not, Bool.not_eq_true', Bool.not_eq_false', Bool.and_eq_true, Bool.or_eq_true, Bool.and_eq_false_iff, Bool.or_eq_false_iff] at c8
    refine W.exit ?_
    refine ret0 rfl ?_
    have hkl : k = l.length := by omega
    subst hkl
    rw [List.take_length] at hou
    exact ⟨ou, hou, hoo, hbb⟩
end Go.Proofs.Ytdiaeafjjffjmaa
