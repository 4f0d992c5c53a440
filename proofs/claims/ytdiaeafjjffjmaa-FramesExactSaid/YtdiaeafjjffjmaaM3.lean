/-
  Walks. Written by program out of specs of mine.
-/
import Derived.Test.YtdiaeafjjffjmaaM2
import Derived.Test.YtdiaeafjjffjmaaM1
import Derived.Deep.DeepAppendWide
import Derived.Test.YtdiaeafjjffjmaaArg
set_option linter.unusedSimpArgs false
set_option linter.unusedVariables false
set_option maxRecDepth 100000
namespace Go.Proofs.Ytdiaeafjjffjmaa
open Go Go.Vc Go.RowKit Go.Proofs

def fa : Fr := ⟨3, 7, 0, -1, -1, 0, []⟩
def fb : Fr := ⟨3, 7, 9, 300, 0, 2, [12, 300]⟩
def fb2 : Fr := ⟨3, 7, 0, -1, -1, 0, [12, 300]⟩
def fb3 : Fr := ⟨3, 7, 0, -1, -1, 0, [12, 300, 301]⟩
theorem fa_w : fwhole fa = true := by decide
theorem fb_w : fwhole fb = true := by decide
theorem pushA : pushR 2 0 [] fa = (0, 1, [fa]) := by rw [pushR, if_neg (by decide), if_pos fa_w]; rfl
theorem pushB : pushR 2 1 [fa] fb = (0, 2, [fa, fb]) := by rw [pushR, if_neg (by decide), if_pos fb_w]; rfl
theorem pushC : pushR 2 2 [fa, fb] fa = (220, 2, [fa, fb]) := by rw [pushR, if_pos (by decide)]
theorem goA : goR [fa, fb] fa = (0, [fa, fb2]) := by rw [goR, if_neg (by decide), if_pos (by decide)]; rfl
theorem markA : markR [fa, fb2] 301 = (0, [fa, fb3]) := by rw [markR, if_neg (by decide), if_pos (by decide), if_neg (by decide)]; rfl
theorem saveA : saved 2 2 [fa, fb] = [102, 2, 2, 2, 3, 7, 0, 0, 0, 0, 0, 3, 7, 9, 173, 2, 1, 2, 2, 12, 172, 2] := by
  have s : ∀ n : Nat, n < 128 → vput n = [UInt8.ofNat n] := fun n h => vput_lt h
  have h301 : vput 301 = [173, 2] := by rw [vput_ge (by decide), vput_lt (by decide)]; decide
  have h300 : vput 300 = [172, 2] := by rw [vput_ge (by decide), vput_lt (by decide)]; decide
  simp only [saved, fbytes, fnums, fa, fb, vI, List.flatMap_cons, List.flatMap_nil, List.append_nil, List.length_cons, List.length_nil]
  simp only [show ((2 : Nat) : Int).toNat = 2 from rfl, show (((0 + 1 + 1 : Nat)) : Int).toNat = 2 from rfl, show (3 : Int).toNat = 3 from rfl, show (7 : Int).toNat = 7 from rfl, show (0 : Int).toNat = 0 from rfl, show (-1 + 1 : Int).toNat = 0 from rfl, show ((0 : Nat) : Int).toNat = 0 from rfl, show (9 : Int).toNat = 9 from rfl, show (300 + 1 : Int).toNat = 301 from rfl, show (0 + 1 : Int).toNat = 1 from rfl, show (2 : Int).toNat = 2 from rfl, show (12 : Int).toNat = 12 from rfl, show (300 : Int).toNat = 300 from rfl, h301, h300, s 2 (by decide), s 3 (by decide), s 7 (by decide), s 0 (by decide), s 9 (by decide), s 1 (by decide), s 12 (by decide)]
  rfl
theorem Turn.keep {w w' : World} {H p most high high' : Nat} {L L' : List Fr} {lv lv' : Value} {V V' : Nat → Value} {c : Nat} {o : Obj} (t : Turn w w' H p most high L lv V high' L' lv' V') (hC : w.heap[c]? = some o) (hn : ¬ SF p lv V L.length c) : w'.heap[c]? = some o ∧ ¬ SF p lv' V' L'.length c :=
  ⟨t.only.blk hC hn, fun h => by
    rcases t.new _ h with h | h
    · exact hn h
    · have := (Array.getElem?_eq_some_iff.1 hC).1; omega⟩
theorem Turn.row {w w' : World} {H p most high high' B s n : Nat} {el : TypeId} {L L' : List Fr} {lv lv' v : Value} {V V' : Nat → Value} {xs : List Value} (t : Turn w w' H p most high L lv V high' L' lv' V') (hr : w.ownsRow B el s v n xs) (hn : ∀ k, v.ownBlock = some k → ¬ SF p lv V L.length k) : w'.ownsRow B el s v n xs ∧ ∀ k, v.ownBlock = some k → ¬ SF p lv' V' L'.length k :=
  ⟨own_only hr t.only hn, fun k hk h => by
    rcases t.new _ h with h | h
    · exact hn k hk h
    · have := (hr.lt k hk).2; omega⟩
theorem Turn.ext {w w' : World} {H p most high high' : Nat} {L L' : List Fr} {lv lv' : Value} {V V' : Nat → Value} (t : Turn w w' H p most high L lv V high' L' lv' V') {w0 : World} (hx : Ext w0 w) (hH : w0.heap.size ≤ H) (h : Stk w H p most high L lv V) : Ext w0 w' :=
  hx.trans' t.only (fun _ h => h) (fun k hk hF => by have := (h.lt k hF).1; omega)
theorem Sl.clip {w : World} {base : Nat} {el : TypeId} {s n c : Nat} {a : Option Addr} {xs : List Value} (h : w.ownsRow base el s (.slice a n c) n xs) : Sl w s (.slice a n n) n xs := by
  rcases h.2 with ⟨h1, h2⟩ | ⟨g, cap', cur, h1, hb, hc, hnc, hcm, hcs, ht⟩
  · simp only [Value.slice.injEq] at h1
    obtain ⟨rfl, rfl, rfl⟩ := h1
    have : xs = [] := List.eq_nil_of_length_eq_zero (by simpa using h.1)
    subst this
    exact Sl.nil w s
  · simp only [Value.slice.injEq] at h1
    obtain ⟨rfl, -, rfl⟩ := h1
    refine Sl.blk hc 0 _ h.1 (Nat.le_refl _) (fun i v hv => ?_)
    rw [← ht, List.getElem?_take] at hv
    split at hv
    · simpa using hv
    · simp at hv
theorem save_spec' (H p most high : Nat) (L : List Fr) (lv : Value) (V : Nat → Value) (w0 : World) (h : Stk w0 H p most high L lv V) (hw : ∀ f ∈ L, fwhole f = true) (hh : high ≤ 1048576) (sv : List UInt8) (hsv : sv = saved most high L) : Ca Try.prog 8 #[.pointer (some ⟨p, 0, none⟩)] w0 (fun v w' => ∃ g cap, v = .slice (some ⟨g, 0, none⟩) sv.length sv.length ∧ w'.ownsRow w0.heap.size 5 1 (.slice (some ⟨g, 0, none⟩) sv.length cap) sv.length (sv.map bv) ∧ By w' v sv ∧ Ext w0 w') := by
  subst hsv
  refine (save_spec H p most high L lv V w0 h hw hh).mono ?_
  rintro v w ⟨g, cap, rfl, hr, hx⟩
  exact ⟨g, cap, rfl, hr, Sl.clip hr, hx⟩
theorem len_ok {sv : List UInt8} {most high : Nat} {L : List Fr} (hsv : sv = saved most high L) (hm : most ≤ 1048576) (hl : L.length ≤ most) (hh : high ≤ 1048576) (hw : ∀ f ∈ L, fwhole f = true) : sv.length ≤ 100000000000000 := by
  subst hsv
  have h1 := vIs_len (l := [(most : Int), (L.length : Int), (high : Int)]) (by intro n hn; simp only [List.mem_cons, List.not_mem_nil, or_false] at hn; unfold numOk; omega)
  have h2 := frames_len hw
  rw [saved, List.length_cons, List.length_append]
  simp only [List.length_cons, List.length_nil] at h1
  omega
theorem rdA {sv : List UInt8} (h : sv = saved 2 2 [fa, fb]) : rdS sv = .ok ⟨2, 2, [fa, fb]⟩ sv.length := by
  rw [h]; exact rdS_saved (by omega) (by omega) (by simp) (by omega) (by simp [fa_w, fb_w])
theorem slA {sv : List UInt8} (h : sv = saved 2 2 [fa, fb]) : sv.length ≤ 1000000000000000000 := by
  have hsa := h.trans saveA
  rw [hsa]; simp
theorem slotA : slotR [fa, fb] 1 = (300, 0) := by decide
theorem hwA : ∀ f ∈ [fa, fb], fwhole f = true := by simp [fa_w, fb_w]
theorem exA : ∃ sv, sv = saved 2 2 [fa, fb] := ⟨_, rfl⟩

set_option maxHeartbeats 4000000 in
theorem awake_spec (w0 : World) : Ca Try.prog 6 #[] w0 (fun v w' => v = .bool true ∧ Ext w0 w') := by
  refine Ca.of Try.func6 Try.ntmps6 rfl rfl ?_
  refine W.seq ?_
  refine W.region ?_
  refine WL.c rfl (o_ash (show _ = Value.bool _ from rfl) ?_)
  refine WL.nil ?_
  refine W.seq ?_
  refine W.region ?_
  refine WL.c rfl (o_call Try.call27 (lc rfl ln) ((new_spec 2 _).mono ?_))
  rintro v17 w17 ⟨hA, -, hx17⟩
  obtain ⟨rfl, h⟩ := hA (by decide)
  replace h : Stk w17 w0.heap.size w0.heap.size 2 0 [] (.slice none 0 0) (fun _ => undef) := h
  refine WL.c rfl (o_mvh (by first | exact (show _ = Value.tuple _ from rfl) | exact rfl) ?_)
  refine WL.c rfl (o_ext rfl rfl ?_)
  refine WL.c rfl (o_ext rfl rfl ?_)
  refine WL.c rfl (o_ash (by first | exact (show _ = Value.pointer _ from rfl) | exact rfl) ?_)
  refine WL.c rfl (o_ash (show _ = Value.int _ _ from rfl) ?_)
  refine WL.nil ?_
  refine W.seq ?_
  refine W.region ?_
  refine WL.c rfl (o_call Try.call27 (lc rfl ln) ((new_spec 0 _).mono ?_))
  rintro v21 w21 ⟨-, hB, hx21⟩
  obtain rfl := hB (by decide)
  replace h := h.ext hx21
  replace hx17 := hx17.tr hx21
  have h17 := h.cell
  refine WL.c rfl (o_mvh (by first | exact (show _ = Value.tuple _ from rfl) | exact rfl) ?_)
  refine WL.c rfl (o_ext rfl rfl ?_)
  refine WL.c rfl (o_ext rfl rfl ?_)
  refine WL.c rfl (o_ash (by first | exact (show _ = Value.pointer _ from rfl) | exact rfl) ?_)
  refine WL.c rfl (o_ash (show _ = Value.int _ _ from rfl) ?_)
  refine WL.nil ?_
  refine W.seq ?_
  refine W.seq ?_
  refine W.region ?_
  refine WL.c rfl (o_mvh (by first | exact (show _ = Value.pointer _ from rfl) | exact rfl) ?_)
  refine WL.c rfl (o_eqN (p := some ⟨w0.heap.size, 0, none⟩) TI25 rfl rfl ?_)
  refine WL.c rfl (o_mvh (show _ = Value.bool _ from rfl) ?_)
  refine WL.g rfl (by simp) rfl (o_mvh (show _ = Value.int _ _ from rfl) ?_)
  refine WL.g rfl (by simp) rfl (o_call Try.call10 (lc rfl ln) ((num_spec _ _).mono ?_))
  rintro v28 w28 ⟨rfl, hw28⟩
  replace hw28 := hw28.symm
  subst hw28
  refine WL.g rfl (by simp) rfl (o_ne rfl rfl ?_)
  refine WL.c rfl (o_pickO rfl rfl ?_)
  refine WL.c rfl (o_mvh (show _ = Value.bool _ from rfl) ?_)
  refine WL.g rfl (by simp) rfl (o_mvh (by first | exact (show _ = Value.pointer _ from rfl) | exact rfl) ?_)
  refine WL.g rfl (by simp) rfl (o_neN (p := none) TI25 rfl rfl ?_)
  refine WL.c rfl (o_pickO rfl rfl ?_)
  refine WL.c rfl (o_mvh (show _ = Value.bool _ from rfl) ?_)
  refine WL.g rfl (by simp) rfl (o_mvh (show _ = Value.int _ _ from rfl) ?_)
  refine WL.g rfl (by simp) rfl (o_call Try.call10 (lc rfl ln) ((num_spec _ _).mono ?_))
  rintro v37 w37 ⟨rfl, hw37⟩
  replace hw37 := hw37.symm
  subst hw37
  refine WL.g rfl (by simp) rfl (o_ne rfl rfl ?_)
  refine WL.c rfl (o_pickO rfl rfl ?_)
  refine WL.nil ?_
  refine W.condF' rfl (by simp) ?_
  refine W.skip ?_
  refine W.seq ?_
  refine W.region ?_
  refine WL.c rfl (o_bldC (cs := [(.int .i64 3), (.int .i64 7), (.int .i64 0), (.int .i64 (-1)), (.int .i64 (-1)), (.int .i64 0), (.slice none 0 0)]) TI39 (Sizes.cons TI3 (Sizes.cons TI3 (Sizes.cons TI3 (Sizes.cons TI3 (Sizes.cons TI3 (Sizes.cons TI3 (Sizes.cons TI37 Sizes.nil))))))) rfl (lcp (show _ = Value.int _ _ from rfl) (lcp (show _ = Value.int _ _ from rfl) (lcp (show _ = Value.int _ _ from rfl) (lcp (show _ = Value.int _ _ from rfl) lnp)))) rfl rfl ?_)
  refine WL.c rfl (o_alB TI39 ?_)
  intro w5 hC5 hx5 hs5
  replace h := h.ext hx5
  have hx := hx17.tr hx5
  refine WL.u (o_stA TI39 rfl (show _ = Value.agg (fcells fa (.slice none 0 0)).toArray from rfl) rfl rfl hC5 rfl ?_)
  intro w6 hB5 ho5 hs6
  obtain ⟨c5, hc5⟩ : ∃ c5, c5 = w21.heap.size := ⟨_, rfl⟩
  rw [← hc5] at hB5 ho5 ⊢
  have hge := hx17.size
  have hn5 : ¬ SF w0.heap.size (.slice none 0 0) (fun _ => undef) ([] : List Fr).length c5 := fun hk => by rcases hk with hk | hk | ⟨j, hj, -⟩; have := (Array.getElem?_eq_some_iff.1 h.cell).1; have := (Array.getElem?_eq_some_iff.1 h17).1; omega; cases hk; simp at hj
  replace h := h.only ho5 (fun k hk he => by subst he; exact hn5 hk)
  replace hx := hx.trans' ho5 (fun _ h => h) (fun k hk he => by omega)
  have hC5 := hB5
  refine WL.nil ?_
  refine W.seq ?_
  refine W.region ?_
  refine WL.c rfl (o_bsn (vs := [.int .i64 12, .int .i64 300]) (xs := [(.const (.int .i64 12)), (.const (.int .i64 300))]) TI37 TI3 rfl (lc (show _ = Value.int _ _ from rfl) (lc (show _ = Value.int _ _ from rfl) ln)) rfl rfl (by decide) (by decide) ?_)
  have hrT : (w6.alloc (.cells [Value.int .i64 12, Value.int .i64 300].toArray 3)).ownsRow w6.heap.size 3 1 (.slice (some ⟨w6.heap.size, 0, none⟩) 2 2) 2 (ints [12, 300]) := own_newN rfl (by decide)
  have hx41 : Ext w6 (w6.alloc (.cells [Value.int .i64 12, Value.int .i64 300].toArray 3)) := Only.alloc w6 _
  generalize w6.alloc (.cells [Value.int .i64 12, Value.int .i64 300].toArray 3) = w41 at *
  obtain ⟨cT, hcT⟩ : ∃ cT, cT = w6.heap.size := ⟨_, rfl⟩
  rw [← hcT] at hrT ⊢
  have hnT : ∀ k, (Value.slice (some ⟨cT, 0, none⟩) 2 2).ownBlock = some k → ¬ SF w0.heap.size (.slice none 0 0) (fun _ => undef) ([] : List Fr).length k := fun k hk hF => by simp only [Value.ownBlock, Option.some.injEq] at hk; have := (h.lt k hF).2; omega
  replace h := h.ext hx41
  replace hC5 := hx41.blk hC5 (fun h => h)
  replace hx := hx.tr hx41
  refine WL.c rfl (o_bldC (cs := [(.int .i64 3), (.int .i64 7), (.int .i64 9), (.int .i64 300), (.int .i64 0), (.int .i64 2), _]) TI39 (Sizes.cons TI3 (Sizes.cons TI3 (Sizes.cons TI3 (Sizes.cons TI3 (Sizes.cons TI3 (Sizes.cons TI3 (Sizes.cons TI37 Sizes.nil))))))) rfl (lcp (show _ = Value.int _ _ from rfl) (lcp (show _ = Value.int _ _ from rfl) (lcp (show _ = Value.int _ _ from rfl) (lcp (show _ = Value.int _ _ from rfl) (lcp (show _ = Value.int _ _ from rfl) (lcp (show _ = Value.int _ _ from rfl) (lcp (show _ = Value.slice _ _ _ from rfl) lnp))))))) rfl rfl ?_)
  refine WL.c rfl (o_alB TI39 ?_)
  have hw41 := hx.size
  have h5lt : c5 < w41.heap.size := (Array.getElem?_eq_some_iff.1 hC5).1
  have hTlt : cT < w41.heap.size := (hrT.lt cT rfl).2
  intro w7 hC6 hx7 hs7
  replace h := h.ext hx7
  replace hx := hx.tr hx7
  replace hC5 := hx7.blk hC5 (fun h => h)
  replace hrT := own_ext hrT hx7
  refine WL.u (o_stA TI39 rfl (show _ = Value.agg (fcells fb (.slice (some ⟨cT, 0, none⟩) 2 2)).toArray from rfl) rfl rfl hC6 rfl ?_)
  intro w8 hB6 ho6 hs8
  obtain ⟨c6, hc6⟩ : ∃ c6, c6 = w41.heap.size := ⟨_, rfl⟩
  rw [← hc6] at hB6 ho6 ⊢
  have hge6 := hx41.size
  have hn6 : ¬ SF w0.heap.size (.slice none 0 0) (fun _ => undef) ([] : List Fr).length c6 := fun hk => by rcases hk with hk | hk | ⟨j, hj, -⟩; have := hx17.size; have := hx.size; have := (Array.getElem?_eq_some_iff.1 h17).1; omega; cases hk; simp at hj
  replace h := h.only ho6 (fun k hk he => by subst he; exact hn6 hk)
  replace hx := hx.trans' ho6 (fun _ h => h) (fun k hk he => by omega)
  replace hC5 := ho6.blk hC5 (show ¬ c5 = c6 by omega)
  replace hrT := own_only hrT ho6 (fun k hk he => by simp only [Value.ownBlock, Option.some.injEq] at hk; omega)
  have hC6 := hB6
  refine WL.nil ?_
  refine W.seq ?_
  refine W.seq ?_
  refine W.region ?_
  refine WL.c rfl (o_mvh (by first | exact (show _ = Value.pointer _ from rfl) | exact rfl) ?_)
  refine WL.c rfl (o_ldA TI39 rfl rfl (show Cells _ c5 0 (fcells fa (.slice none 0 0)) from Cells.of hC5 0 _ (by simp)) rfl ?_)
  refine WL.c rfl (o_call Try.call16 (lc rfl (lc rfl ln)) ((push_spec w0.heap.size w0.heap.size 2 0 [] _ _ fa (.slice none 0 0) _ h (Sl.nil _ _) (by simp [fa])).mono ?_))
  rintro v45 w45 ⟨rfl, lv45, V45, t⟩
  rw [pushA] at t ⊢
  replace t : Turn _ _ _ _ 2 0 [] _ _ 1 [fa] lv45 V45 := t
  replace hx := t.ext hx (Nat.le_refl _) h
  replace h := t.stk
  obtain ⟨hC5', hn5'⟩ := t.keep hC5 hn5
  obtain ⟨hC6', hn6'⟩ := t.keep hC6 hn6
  obtain ⟨hrT', hnT'⟩ := t.row hrT hnT
  clear hC5 hn5 hC6 hn6 hrT hnT t
  have hC5 := hC5'
  have hn5 := hn5'
  have hC6 := hC6'
  have hn6 := hn6'
  have hrT := hrT'
  have hnT := hnT'
  clear hC5' hn5' hC6' hn6' hrT' hnT'
  refine WL.c rfl (o_call Try.call10 (lc rfl ln) ((num_spec _ _).mono ?_))
  rintro v46 w46 ⟨rfl, hw46⟩
  replace hw46 := hw46.symm
  subst hw46
  refine WL.c rfl (o_ne rfl rfl ?_)
  refine WL.c rfl (o_mvh (show _ = Value.bool _ from rfl) ?_)
  refine WL.g rfl (by first | decide | (simp [hsa]; done) | (rw [hsa]; decide) | (rw [hsa]; simp; done)) rfl (o_mvh (by first | exact (show _ = Value.pointer _ from rfl) | exact rfl) ?_)
  refine WL.g rfl (by first | decide | (simp [hsa]; done) | (rw [hsa]; decide) | (rw [hsa]; simp; done)) rfl (o_ldA TI39 rfl rfl (show Cells _ c6 0 (fcells fb (.slice (some ⟨cT, 0, none⟩) 2 2)) from Cells.of hC6 0 _ (by simp)) rfl ?_)
  refine WL.g rfl (by first | decide | (simp [hsa]; done) | (rw [hsa]; decide) | (rw [hsa]; simp; done)) rfl (o_call Try.call16 (lc rfl (lc rfl ln)) ((push_spec w0.heap.size w0.heap.size 2 1 [fa] _ _ fb (.slice (some ⟨cT, 0, none⟩) 2 2) _ h (Sl.own hrT) (by simp [fb])).mono ?_))
  rintro v51 w51 ⟨rfl, lv51, V51, t⟩
  rw [pushB] at t ⊢
  replace t : Turn _ _ _ _ 2 1 [fa] _ _ 2 [fa, fb] lv51 V51 := t
  replace hx := t.ext hx (Nat.le_refl _) h
  replace h := t.stk
  obtain ⟨hC5', hn5'⟩ := t.keep hC5 hn5
  obtain ⟨hC6', hn6'⟩ := t.keep hC6 hn6
  obtain ⟨hrT', hnT'⟩ := t.row hrT hnT
  clear hC5 hn5 hC6 hn6 hrT hnT t
  have hC5 := hC5'
  have hn5 := hn5'
  have hC6 := hC6'
  have hn6 := hn6'
  have hrT := hrT'
  have hnT := hnT'
  clear hC5' hn5' hC6' hn6' hrT' hnT'
  refine WL.g rfl (by first | decide | (simp [hsa]; done) | (rw [hsa]; decide) | (rw [hsa]; simp; done)) rfl (o_call Try.call10 (lc rfl ln) ((num_spec _ _).mono ?_))
  rintro v52 w52 ⟨rfl, hw52⟩
  replace hw52 := hw52.symm
  subst hw52
  refine WL.g rfl (by first | decide | (simp [hsa]; done) | (rw [hsa]; decide) | (rw [hsa]; simp; done)) rfl (o_ne rfl rfl ?_)
  refine WL.c rfl (o_pickO rfl rfl ?_)
  refine WL.c rfl (o_mvh (show _ = Value.bool _ from rfl) ?_)
  refine WL.g rfl (by first | decide | (simp [hsa]; done) | (rw [hsa]; decide) | (rw [hsa]; simp; done)) rfl (o_mvh (by first | exact (show _ = Value.pointer _ from rfl) | exact rfl) ?_)
  refine WL.g rfl (by first | decide | (simp [hsa]; done) | (rw [hsa]; decide) | (rw [hsa]; simp; done)) rfl (o_ldA TI39 rfl rfl (show Cells _ c5 0 (fcells fa (.slice none 0 0)) from Cells.of hC5 0 _ (by simp)) rfl ?_)
  refine WL.g rfl (by first | decide | (simp [hsa]; done) | (rw [hsa]; decide) | (rw [hsa]; simp; done)) rfl (o_call Try.call16 (lc rfl (lc rfl ln)) ((push_spec w0.heap.size w0.heap.size 2 2 [fa, fb] _ _ fa (.slice none 0 0) _ h (Sl.nil _ _) (by simp [fa])).mono ?_))
  rintro v58 w58 ⟨rfl, lv58, V58, t⟩
  rw [pushC] at t ⊢
  replace t : Turn _ _ _ _ 2 2 [fa, fb] _ _ 2 [fa, fb] lv58 V58 := t
  replace hx := t.ext hx (Nat.le_refl _) h
  replace h := t.stk
  obtain ⟨hC5', hn5'⟩ := t.keep hC5 hn5
  obtain ⟨hC6', hn6'⟩ := t.keep hC6 hn6
  obtain ⟨hrT', hnT'⟩ := t.row hrT hnT
  clear hC5 hn5 hC6 hn6 hrT hnT t
  have hC5 := hC5'
  have hn5 := hn5'
  have hC6 := hC6'
  have hn6 := hn6'
  have hrT := hrT'
  have hnT := hnT'
  clear hC5' hn5' hC6' hn6' hrT' hnT'
  refine WL.g rfl (by first | decide | (simp [hsa]; done) | (rw [hsa]; decide) | (rw [hsa]; simp; done)) rfl (o_call Try.call10 (lc rfl ln) ((num_spec _ _).mono ?_))
  rintro v59 w59 ⟨rfl, hw59⟩
  replace hw59 := hw59.symm
  subst hw59
  refine WL.g rfl (by first | decide | (simp [hsa]; done) | (rw [hsa]; decide) | (rw [hsa]; simp; done)) rfl (o_ne rfl rfl ?_)
  refine WL.c rfl (o_pickO rfl rfl ?_)
  refine WL.c rfl (o_mvh (show _ = Value.bool _ from rfl) ?_)
  refine WL.g rfl (by first | decide | (simp [hsa]; done) | (rw [hsa]; decide) | (rw [hsa]; simp; done)) rfl (o_mvh (by first | exact (show _ = Value.pointer _ from rfl) | exact rfl) ?_)
  refine WL.g rfl (by first | decide | (simp [hsa]; done) | (rw [hsa]; decide) | (rw [hsa]; simp; done)) rfl (o_call Try.call11 (lc rfl ln) ((len_spec w0.heap.size w0.heap.size 2 2 [fa, fb] _ _ _ h).mono ?_))
  rintro v64 w64 ⟨rfl, hw64⟩
  replace hw64 := hw64.symm
  subst hw64
  refine WL.g rfl (by first | decide | (simp [hsa]; done) | (rw [hsa]; decide) | (rw [hsa]; simp; done)) rfl (o_ne rfl rfl ?_)
  refine WL.c rfl (o_pickO rfl rfl ?_)
  refine WL.c rfl (o_mvh (show _ = Value.bool _ from rfl) ?_)
  refine WL.g rfl (by first | decide | (simp [hsa]; done) | (rw [hsa]; decide) | (rw [hsa]; simp; done)) rfl (o_mvh (by first | exact (show _ = Value.pointer _ from rfl) | exact rfl) ?_)
  refine WL.g rfl (by first | decide | (simp [hsa]; done) | (rw [hsa]; decide) | (rw [hsa]; simp; done)) rfl (o_call Try.call12 (lc rfl ln) ((high_spec w0.heap.size w0.heap.size 2 2 [fa, fb] _ _ _ h).mono ?_))
  rintro v69 w69 ⟨rfl, hw69⟩
  replace hw69 := hw69.symm
  subst hw69
  refine WL.g rfl (by first | decide | (simp [hsa]; done) | (rw [hsa]; decide) | (rw [hsa]; simp; done)) rfl (o_ne rfl rfl ?_)
  refine WL.c rfl (o_pickO rfl rfl ?_)
  refine WL.c rfl (o_mvh (show _ = Value.bool _ from rfl) ?_)
  refine WL.g rfl (by first | decide | (simp [hsa]; done) | (rw [hsa]; decide) | (rw [hsa]; simp; done)) rfl (o_mvh (by first | exact (show _ = Value.pointer _ from rfl) | exact rfl) ?_)
  refine WL.g rfl (by first | decide | (simp [hsa]; done) | (rw [hsa]; decide) | (rw [hsa]; simp; done)) rfl (o_call Try.call22 (lc rfl ln) ((slots_spec w0.heap.size w0.heap.size 2 2 [fa, fb] _ _ _ h).mono ?_))
  rintro v74 w74 ⟨rfl, hx74⟩
  replace h := h.ext hx74
  replace hx := hx.tr hx74
  replace hC5 := hx74.blk hC5 (fun h => h)
  replace hC6 := hx74.blk hC6 (fun h => h)
  replace hrT := own_ext hrT hx74
  refine WL.g rfl (by first | decide | (simp [hsa]; done) | (rw [hsa]; decide) | (rw [hsa]; simp; done)) rfl (o_ne rfl rfl ?_)
  refine WL.c rfl (o_pickO rfl rfl ?_)
  refine WL.nil ?_
  refine W.condF' rfl (by first | decide | (simp [hsa]; done) | (rw [hsa]; decide) | (rw [hsa]; simp; done)) ?_
  refine W.skip ?_
  refine W.seq ?_
  refine W.region ?_
  refine WL.c rfl (o_mvh (by first | exact (show _ = Value.pointer _ from rfl) | exact rfl) ?_)
  refine WL.c rfl (o_call Try.call26 (lc rfl (lc rfl ln)) ((slot_spec w0.heap.size w0.heap.size 2 2 [fa, fb] _ _ 1 _ h).mono ?_))
  rintro v79 w79 ⟨rfl, hx79⟩
  rw [slotA]
  replace h := h.ext hx79
  replace hx := hx.tr hx79
  replace hC5 := hx79.blk hC5 (fun h => h)
  replace hC6 := hx79.blk hC6 (fun h => h)
  replace hrT := own_ext hrT hx79
  refine WL.c rfl (o_mvh (by first | exact (show _ = Value.tuple _ from rfl) | exact rfl) ?_)
  refine WL.c rfl (o_ext rfl rfl ?_)
  refine WL.c rfl (o_ext rfl rfl ?_)
  refine WL.c rfl (o_ash (show _ = Value.int _ _ from rfl) ?_)
  refine WL.c rfl (o_ash (show _ = Value.int _ _ from rfl) ?_)
  refine WL.nil ?_
  refine W.seq ?_
  refine Exists.elim exA ?_
  intro sv hsv0
  have hrds := rdA hsv0
  have hsa := hsv0.trans saveA
  have hsl := slA hsv0
  refine W.region ?_
  refine WL.c rfl (o_mvh (by first | exact (show _ = Value.pointer _ from rfl) | exact rfl) ?_)
  refine WL.c rfl (o_call Try.call8 (lc rfl ln) ((save_spec' w0.heap.size w0.heap.size 2 2 [fa, fb] _ _ _ h hwA (by decide) sv hsv0).mono ?_))
  rintro v83 w83 ⟨g, cap, rfl, hsv, hSv, hx83⟩
  replace h := h.ext hx83
  replace hx := hx.tr hx83
  replace hC5 := hx83.blk hC5 (fun h => h)
  replace hC6 := hx83.blk hC6 (fun h => h)
  replace hrT := own_ext hrT hx83
  refine WL.c rfl (o_ash (by first | exact (show _ = Value.slice _ _ _ from rfl) | exact rfl) ?_)
  refine WL.nil ?_
  refine W.seq ?_
  refine W.region ?_
  refine WL.c rfl (o_mvh (by first | exact (show _ = Value.slice _ _ _ from rfl) | exact rfl) ?_)
  refine WL.c rfl (o_call Try.call9 (lc rfl ln) ((load_spec _ sv _ hSv hsl).mono ?_))
  rintro v86 w86 ⟨hok, -⟩
  obtain ⟨q, lq, Vq, rfl, hq, hy⟩ := hok _ _ hrds
  replace hq : Stk w86 w83.heap.size q 2 2 [fa, fb] lq Vq := hq
  refine WL.c rfl (o_mvh (by first | exact (show _ = Value.tuple _ from rfl) | exact rfl) ?_)
  refine WL.c rfl (o_ext rfl rfl ?_)
  refine WL.c rfl (o_ext rfl rfl ?_)
  refine WL.c rfl (o_alB TI31 ?_)
  have hy0 := hy.size
  intro w11 hC11 hx11 hs11
  replace hy := hy.tr hx11
  replace hq := hq.ext hx11
  refine WL.c rfl (o_ash (by first | exact (show _ = Value.pointer _ from rfl) | exact rfl) ?_)
  refine WL.u (o_stA TI31 rfl (show _ = Value.agg #[.int .i64 0, .int .i64 0] from rfl) rfl rfl hC11 rfl ?_)
  intro w12 hB11 ho11 hs12
  replace hy := hy.trans' ho11 (fun _ h => h) (fun k hk he => by omega)
  replace hq := hq.only ho11 (fun k hk he => by subst he; rcases hk with hk | hk | ⟨j, hj, hk⟩; rw [hk, hq.cell] at hC11; cases hC11; exact own_off hq.rows.row hC11 (by decide) hk; exact own_off (hq.rows.tabs.row j hj) hC11 (by decide) hk)
  refine WL.nil ?_
  refine W.seq ?_
  refine W.seq ?_
  refine W.region ?_
  refine WL.c rfl (o_mvh (show _ = Value.int _ _ from rfl) ?_)
  refine WL.c rfl (o_ne rfl rfl ?_)
  refine WL.c rfl (o_mvh (show _ = Value.bool _ from rfl) ?_)
  refine WL.g rfl (by first | decide | (simp [hsa]; done) | (rw [hsa]; decide) | (rw [hsa]; simp; done)) rfl (o_mvh (show _ = Value.int _ _ from rfl) ?_)
  refine WL.g rfl (by first | decide | (simp [hsa]; done) | (rw [hsa]; decide) | (rw [hsa]; simp; done)) rfl (o_call Try.call10 (lc rfl ln) ((num_spec _ _).mono ?_))
  rintro v93 w93 ⟨rfl, hw93⟩
  replace hw93 := hw93.symm
  subst hw93
  refine WL.g rfl (by first | decide | (simp [hsa]; done) | (rw [hsa]; decide) | (rw [hsa]; simp; done)) rfl (o_ne rfl rfl ?_)
  refine WL.c rfl (o_pickO rfl rfl ?_)
  refine WL.c rfl (o_mvh (show _ = Value.bool _ from rfl) ?_)
  refine WL.g rfl (by first | decide | (simp [hsa]; done) | (rw [hsa]; decide) | (rw [hsa]; simp; done)) rfl (o_mvh (by first | exact (show _ = Value.slice _ _ _ from rfl) | exact rfl) ?_)
  refine WL.g rfl (by first | decide | (simp [hsa]; done) | (rw [hsa]; decide) | (rw [hsa]; simp; done)) rfl (o_cvBS TI23 TI5 TI9 rfl (Sl.ext hSv hy) ?_)
  refine WL.g rfl (by first | decide | (simp [hsa]; done) | (rw [hsa]; decide) | (rw [hsa]; simp; done)) rfl (o_neT rfl rfl ?_)
  refine WL.c rfl (o_pickO rfl rfl ?_)
  refine WL.c rfl (o_mvh (show _ = Value.bool _ from rfl) ?_)
  refine WL.g rfl (by first | decide | (simp [hsa]; done) | (rw [hsa]; decide) | (rw [hsa]; simp; done)) rfl (o_mvh (by first | exact (show _ = Value.pointer _ from rfl) | exact rfl) ?_)
  refine WL.g rfl (by first | decide | (simp [hsa]; done) | (rw [hsa]; decide) | (rw [hsa]; simp; done)) rfl (o_eqN (p := some ⟨q, 0, none⟩) TI25 rfl rfl ?_)
  refine WL.c rfl (o_pickO rfl rfl ?_)
  refine WL.c rfl (o_mvh (show _ = Value.bool _ from rfl) ?_)
  refine WL.g rfl (by first | decide | (simp [hsa]; done) | (rw [hsa]; decide) | (rw [hsa]; simp; done)) rfl (o_fa 0 TI31 rfl TI29 rfl rfl ?_)
  refine WL.g rfl (by first | decide | (simp [hsa]; done) | (rw [hsa]; decide) | (rw [hsa]; simp; done)) rfl (o_ld TI29 rfl rfl (cell_of hB11 rfl) ?_)
  refine WL.g rfl (by first | decide | (simp [hsa]; done) | (rw [hsa]; decide) | (rw [hsa]; simp; done)) rfl (o_call Try.call10 (lc rfl ln) ((num_spec _ _).mono ?_))
  rintro v108 w108 ⟨rfl, hw108⟩
  replace hw108 := hw108.symm
  subst hw108
  refine WL.g rfl (by first | decide | (simp [hsa]; done) | (rw [hsa]; decide) | (rw [hsa]; simp; done)) rfl (o_ne rfl rfl ?_)
  refine WL.c rfl (o_pickO rfl rfl ?_)
  refine WL.nil ?_
  refine W.condF' rfl (by first | decide | (simp [hsa]; done) | (rw [hsa]; decide) | (rw [hsa]; simp; done)) ?_
  refine W.skip ?_
  refine W.seq ?_
  refine W.region ?_
  refine WL.c rfl (o_mvh (by first | exact (show _ = Value.pointer _ from rfl) | exact rfl) ?_)
  refine WL.c rfl (o_call Try.call14 (lc rfl ln) ((pop_spec w83.heap.size q 2 2 [fa, fb] lq Vq _ hq).mono ?_))
  rintro v113 w113 ⟨tv, rfl, hcl, lq2, Vq2, tq, -⟩
  replace hy := tq.ext hy (Nat.le_refl _) hq
  obtain ⟨ta, tc, rfl, hct⟩ := hcl
  have hct0 := hct
  refine WL.c rfl (o_mvh (by first | exact (show _ = Value.tuple _ from rfl) | exact rfl) ?_)
  refine WL.c rfl (o_ext rfl rfl ?_)
  refine WL.c rfl (o_ext rfl rfl ?_)
  refine WL.c rfl (o_alB TI39 ?_)
  intro w13 hC12 hx13 hs13
  have hct1 := own_ext hct hx13
  refine WL.u (o_stA TI39 rfl (show _ = Value.agg (fcells fb (.slice ta fb.tab.length fb.tab.length)).toArray from rfl) rfl rfl hC12 rfl ?_)
  intro w14 hB12 ho12 hs14
  have hct2 := own_only hct1 ho12 (fun k hk he => by subst he; exact own_off hct1 hC12 (by decide) hk)
  have hy2 : Ext w83 w14 := (hy.tr hx13).trans' ho12 (fun _ h => h) (fun k hk he => by have := hy.size; omega)
  obtain ⟨c12, hc12⟩ : ∃ c12, c12 = w113.heap.size := ⟨_, rfl⟩
  rw [← hc12] at hB12 ⊢
  have hcl : In w14 (.slice ta fb.tab.length fb.tab.length) fb.tab := Clipd.In (H := w83.heap.size) ⟨ta, tc, rfl, hct2⟩
  replace h := h.ext hy2
  replace hx := hx.tr hy2
  replace hC5 := hy2.blk hC5 (fun h => h)
  replace hC6 := hy2.blk hC6 (fun h => h)
  replace hrT := own_ext hrT hy2
  refine WL.c rfl (o_ash (show _ = Value.int _ _ from rfl) ?_)
  refine WL.nil ?_
  refine W.seq ?_
  refine W.region ?_
  refine WL.c rfl (o_mvh (by first | exact (show _ = Value.pointer _ from rfl) | exact rfl) ?_)
  refine WL.c rfl (o_call Try.call28 (lc rfl ln) ((head_spec w0.heap.size w0.heap.size 2 2 [fa, fb] _ _ _ h).mono ?_))
  rintro v118 w118 ⟨rfl, hx118⟩
  replace h := h.ext hx118
  replace hx := hx.tr hx118
  replace hC5 := hx118.blk hC5 (fun h => h)
  replace hC6 := hx118.blk hC6 (fun h => h)
  replace hrT := own_ext hrT hx118
  replace hcl := Sl.ext hcl hx118
  replace hB12 := hx118.blk hB12 (fun h => h)
  have h118 := h
  have hx0 := hx
  have hC5o := hC5
  have hC6o := hC6
  have hrTo := hrT
  have hclo := hcl
  have hB12o := hB12
  have h118n : ∀ k, w118.heap.size ≤ k → ¬ SF w0.heap.size _ _ [fa, fb].length k := fun k hk hF => by have := (h118.lt k hF).2; omega
  refine WL.c rfl (o_mvh (by first | exact (show _ = Value.tuple _ from rfl) | exact rfl) ?_)
  refine WL.c rfl (o_ext rfl rfl ?_)
  refine WL.c rfl (o_ext rfl rfl ?_)
  refine WL.c rfl (o_alB TI39 ?_)
  intro w15 hC14 hx15 hs15
  refine WL.u (o_stA TI39 rfl (show _ = Value.agg (fcells fb (.slice none 0 0)).toArray from rfl) rfl rfl hC14 rfl ?_)
  intro w16 hB14 ho14 hs16
  obtain ⟨c14, hc14⟩ : ∃ c14, c14 = w118.heap.size := ⟨_, rfl⟩
  rw [← hc14] at hB14 ho14 hC14 ⊢
  have hS14 : ∀ {o : Obj} {k : Nat}, w118.heap[k]? = some o → k ≠ c14 := fun hk he => by have := (Array.getElem?_eq_some_iff.1 hk).1; omega
  have hx14 : Ext w118 w16 := hx15.trans' ho14 (fun _ h => h) (fun k hk he => by omega)
  have hn14 : ¬ SF w0.heap.size _ _ [fa, fb].length c14 := h118n c14 (by omega)
  replace h := h118.ext hx14
  replace hx := hx0.tr hx14
  replace hC5 := hx14.blk hC5o (fun h => h)
  replace hC6 := hx14.blk hC6o (fun h => h)
  replace hrT := own_ext hrTo hx14
  replace hcl := Sl.ext hclo hx14
  replace hB12 := hx14.blk hB12o (fun h => h)
  refine WL.c rfl (o_ash (show _ = Value.int _ _ from rfl) ?_)
  refine WL.nil ?_
  refine W.seq ?_
  refine W.region ?_
  refine WL.c rfl (o_mvh (show _ = Value.int _ _ from rfl) ?_)
  refine WL.c rfl (o_call Try.call10 (lc rfl ln) ((num_spec _ _).mono ?_))
  rintro v122 w122 ⟨rfl, hw122⟩
  replace hw122 := hw122.symm
  subst hw122
  refine WL.c rfl (o_eq rfl rfl ?_)
  refine WL.c rfl (o_mvh (show _ = Value.bool _ from rfl) ?_)
  refine WL.g rfl (by first | decide | (simp [hsa]; done) | (rw [hsa]; decide) | (rw [hsa]; simp; done)) rfl (o_ldA TI39 rfl rfl (show Cells _ c12 0 (fcells fb (.slice ta fb.tab.length fb.tab.length)) from Cells.of hB12 0 _ (by simp)) rfl ?_)
  refine WL.g rfl (by first | decide | (simp [hsa]; done) | (rw [hsa]; decide) | (rw [hsa]; simp; done)) rfl (o_ldA TI39 rfl rfl (show Cells _ c6 0 (fcells fb (.slice (some ⟨cT, 0, none⟩) 2 2)) from Cells.of hC6 0 _ (by simp)) rfl ?_)
  refine WL.g rfl (by first | decide | (simp [hsa]; done) | (rw [hsa]; decide) | (rw [hsa]; simp; done)) rfl (o_call Try.call15 (lc rfl (lc rfl ln)) ((same_spec fb (.slice ta fb.tab.length fb.tab.length) (.slice (some ⟨cT, 0, none⟩) 2 2) _ hcl (Sl.own hrT) (by simp [fb])).mono ?_))
  rintro v127 w127 ⟨rfl, hx127⟩
  replace h := h.ext hx127
  replace hx := hx.tr hx127
  replace hC5 := hx127.blk hC5 (fun h => h)
  replace hC6 := hx127.blk hC6 (fun h => h)
  replace hrT := own_ext hrT hx127
  replace hB14 := hx127.blk hB14 (fun h => h)
  refine WL.c rfl (o_pickA rfl rfl ?_)
  refine WL.c rfl (o_mvh (show _ = Value.bool _ from rfl) ?_)
  refine WL.g rfl (by first | decide | (simp [hsa]; done) | (rw [hsa]; decide) | (rw [hsa]; simp; done)) rfl (o_mvh (show _ = Value.int _ _ from rfl) ?_)
  refine WL.g rfl (by first | decide | (simp [hsa]; done) | (rw [hsa]; decide) | (rw [hsa]; simp; done)) rfl (o_call Try.call10 (lc rfl ln) ((num_spec _ _).mono ?_))
  rintro v131 w131 ⟨rfl, hw131⟩
  replace hw131 := hw131.symm
  subst hw131
  refine WL.g rfl (by first | decide | (simp [hsa]; done) | (rw [hsa]; decide) | (rw [hsa]; simp; done)) rfl (o_eq rfl rfl ?_)
  refine WL.c rfl (o_pickA rfl rfl ?_)
  refine WL.c rfl (o_mvh (show _ = Value.bool _ from rfl) ?_)
  refine WL.g rfl (by first | decide | (simp [hsa]; done) | (rw [hsa]; decide) | (rw [hsa]; simp; done)) rfl (o_fa 6 TI39 rfl TI37 rfl rfl ?_)
  refine WL.g rfl (by first | decide | (simp [hsa]; done) | (rw [hsa]; decide) | (rw [hsa]; simp; done)) rfl (o_ld TI37 rfl rfl (cell_of hB14 rfl) ?_)
  refine WL.g rfl (by first | decide | (simp [hsa]; done) | (rw [hsa]; decide) | (rw [hsa]; simp; done)) rfl (o_len TI37 rfl ?_)
  refine WL.g rfl (by first | decide | (simp [hsa]; done) | (rw [hsa]; decide) | (rw [hsa]; simp; done)) rfl (o_eq rfl rfl ?_)
  refine WL.c rfl (o_pickA rfl rfl ?_)
  refine WL.c rfl (o_mvh (show _ = Value.bool _ from rfl) ?_)
  refine WL.g rfl (by first | decide | (simp [hsa]; done) | (rw [hsa]; decide) | (rw [hsa]; simp; done)) rfl (o_fa 5 TI39 rfl TI3 rfl rfl ?_)
  refine WL.g rfl (by first | decide | (simp [hsa]; done) | (rw [hsa]; decide) | (rw [hsa]; simp; done)) rfl (o_ld TI3 rfl rfl (cell_of hB14 rfl) ?_)
  refine WL.g rfl (by first | decide | (simp [hsa]; done) | (rw [hsa]; decide) | (rw [hsa]; simp; done)) rfl (o_eq rfl rfl ?_)
  refine WL.c rfl (o_pickA rfl rfl ?_)
  refine WL.c rfl (o_mvh (show _ = Value.bool _ from rfl) ?_)
  refine WL.g rfl (by first | decide | (simp [hsa]; done) | (rw [hsa]; decide) | (rw [hsa]; simp; done)) rfl (o_mvh (by first | exact (show _ = Value.pointer _ from rfl) | exact rfl) ?_)
  refine WL.g rfl (by first | decide | (simp [hsa]; done) | (rw [hsa]; decide) | (rw [hsa]; simp; done)) rfl (o_ldA TI39 rfl rfl (show Cells _ c5 0 (fcells fa (.slice none 0 0)) from Cells.of hC5 0 _ (by simp)) rfl ?_)
  refine WL.g rfl (by first | decide | (simp [hsa]; done) | (rw [hsa]; decide) | (rw [hsa]; simp; done)) rfl (o_call Try.call23 (lc rfl (lc rfl ln)) ((go_spec w0.heap.size w0.heap.size 2 2 [fa, fb] _ _ fa (.slice none 0 0) _ h).mono ?_))
  rintro v148 w148 ⟨rfl, lv148, V148, t⟩
  rw [goA] at t ⊢
  replace t : Turn _ _ _ _ 2 2 [fa, fb] _ _ 2 [fa, fb2] lv148 V148 := t
  replace hx := t.ext hx (Nat.le_refl _) h
  replace h := t.stk
  obtain ⟨hC5', hn5'⟩ := t.keep hC5 hn5
  obtain ⟨hC6', hn6'⟩ := t.keep hC6 hn6
  obtain ⟨hrT', hnT'⟩ := t.row hrT hnT
  clear hC5 hn5 hC6 hn6 hrT hnT t
  have hC5 := hC5'
  have hn5 := hn5'
  have hC6 := hC6'
  have hn6 := hn6'
  have hrT := hrT'
  have hnT := hnT'
  clear hC5' hn5' hC6' hn6' hrT' hnT'
  refine WL.g rfl (by first | decide | (simp [hsa]; done) | (rw [hsa]; decide) | (rw [hsa]; simp; done)) rfl (o_call Try.call10 (lc rfl ln) ((num_spec _ _).mono ?_))
  rintro v149 w149 ⟨rfl, hw149⟩
  replace hw149 := hw149.symm
  subst hw149
  refine WL.g rfl (by first | decide | (simp [hsa]; done) | (rw [hsa]; decide) | (rw [hsa]; simp; done)) rfl (o_eq rfl rfl ?_)
  refine WL.c rfl (o_pickA rfl rfl ?_)
  refine WL.c rfl (o_mvh (show _ = Value.bool _ from rfl) ?_)
  refine WL.g rfl (by first | decide | (simp [hsa]; done) | (rw [hsa]; decide) | (rw [hsa]; simp; done)) rfl (o_mvh (by first | exact (show _ = Value.pointer _ from rfl) | exact rfl) ?_)
  refine WL.g rfl (by first | decide | (simp [hsa]; done) | (rw [hsa]; decide) | (rw [hsa]; simp; done)) rfl (o_call Try.call25 (lc rfl (lc rfl ln)) ((mark_spec w0.heap.size w0.heap.size 2 2 [fa, fb2] _ _ 301 _ h).mono ?_))
  rintro v154 w154 ⟨rfl, lv154, V154, t⟩
  rw [markA] at t ⊢
  replace t : Turn _ _ _ _ 2 2 [fa, fb2] _ _ 2 [fa, fb3] lv154 V154 := t
  replace hx := t.ext hx (Nat.le_refl _) h
  replace h := t.stk
  obtain ⟨hC5', hn5'⟩ := t.keep hC5 hn5
  obtain ⟨hC6', hn6'⟩ := t.keep hC6 hn6
  obtain ⟨hrT', hnT'⟩ := t.row hrT hnT
  clear hC5 hn5 hC6 hn6 hrT hnT t
  have hC5 := hC5'
  have hn5 := hn5'
  have hC6 := hC6'
  have hn6 := hn6'
  have hrT := hrT'
  have hnT := hnT'
  clear hC5' hn5' hC6' hn6' hrT' hnT'
  refine WL.g rfl (by first | decide | (simp [hsa]; done) | (rw [hsa]; decide) | (rw [hsa]; simp; done)) rfl (o_call Try.call10 (lc rfl ln) ((num_spec _ _).mono ?_))
  rintro v155 w155 ⟨rfl, hw155⟩
  replace hw155 := hw155.symm
  subst hw155
  refine WL.g rfl (by first | decide | (simp [hsa]; done) | (rw [hsa]; decide) | (rw [hsa]; simp; done)) rfl (o_eq rfl rfl ?_)
  refine WL.c rfl (o_pickA rfl rfl ?_)
  refine WL.c rfl (o_mvh (show _ = Value.bool _ from rfl) ?_)
  refine WL.g rfl (by first | decide | (simp [hsa]; done) | (rw [hsa]; decide) | (rw [hsa]; simp; done)) rfl (o_mvh (by first | exact (show _ = Value.pointer _ from rfl) | exact rfl) ?_)
  refine WL.g rfl (by first | decide | (simp [hsa]; done) | (rw [hsa]; decide) | (rw [hsa]; simp; done)) rfl (o_call Try.call22 (lc rfl ln) ((slots_spec w0.heap.size w0.heap.size 2 2 [fa, fb3] _ _ _ h).mono ?_))
  rintro v160 w160 ⟨rfl, hx160⟩
  replace h := h.ext hx160
  replace hx := hx.tr hx160
  replace hC5 := hx160.blk hC5 (fun h => h)
  replace hC6 := hx160.blk hC6 (fun h => h)
  replace hrT := own_ext hrT hx160
  refine WL.g rfl (by first | decide | (simp [hsa]; done) | (rw [hsa]; decide) | (rw [hsa]; simp; done)) rfl (o_eq rfl rfl ?_)
  refine WL.c rfl (o_pickA rfl rfl ?_)
  refine WL.c rfl (o_ash (show _ = Value.bool _ from rfl) ?_)
  refine WL.nil ?_
  refine W.ret ?_
  refine ret1v rfl (show _ = Value.bool _ from rfl) ?_
  exact ⟨congrArg Value.bool (by decide), hx⟩

/-- frames that are handed in -/
structure Fs (w : World) (v : Value) (L : List Fr) (V : Nat → Value) : Prop where
  sl : Sl w 7 v L.length (frows L V)
  tabs : ∀ j, j < L.length → In w (V j) (tabl L j)
theorem Fs.ext {w w' : World} {v : Value} {L : List Fr} {V : Nat → Value} (h : Fs w v L V) (ho : Ext w w') : Fs w' v L V := ⟨h.sl.ext ho, fun j hj => Sl.ext (h.tabs j hj) ho⟩
def Apt (p : Nat) (lv : Value) (V : Nat → Value) (n : Nat) (ov : Value) (U : Nat → Value) (m : Nat) : Prop := ∀ k, SF p lv V n k → ¬ RF ov U m k
theorem Rows.turn {w w' : World} {H p most high high' K : Nat} {L L' R : List Fr} {lv lv' ov : Value} {V V' U : Nat → Value} (hR : Rows w K R ov U) (t : Turn w w' H p most high L lv V high' L' lv' V') (hA : Apt p lv V L.length ov U R.length) : Rows w' K R ov U ∧ Apt p lv' V' L'.length ov U R.length :=
  ⟨hR.only t.only (fun k hk hF => hA k hF hk), fun k hk hF => by
    rcases t.new _ hk with h | h
    · exact hA k h hF
    · have := (hR.lt k hF).2; omega⟩
theorem Rows.take {w : World} {H m n cap g : Nat} {L : List Fr} {V : Nat → Value} (h : Rows w H L (.slice (some ⟨g, 0, none⟩) n cap) V) (hn : n = L.length) (hm : m ≤ L.length) : Rows w H (L.take m) (.slice (some ⟨g, 0, none⟩) m cap) V := by
  subst hn
  have hl : (L.take m).length = m := by rw [List.length_take]; omega
  have e1 : ∀ j, j < m → tabl (L.take m) j = tabl L j := fun j hj => by simp only [tabl, List.getD_eq_getElem?_getD, List.getElem?_take, if_pos hj]
  refine ⟨?_, ?_⟩
  · rw [hl, ← frows_take hm]; exact own_take h.row hm
  · rw [hl]
    exact ⟨fun j hj => by rw [e1 j hj]; exact h.tabs.row j (by omega), fun i j hi hj => h.tabs.off i j (by omega) (by omega)⟩
theorem RF.take {g n m cap q : Nat} {V : Nat → Value} {k : Nat} (h : RF (.slice (some ⟨g, 0, none⟩) m cap) V q k) (hq : q ≤ n) : RF (.slice (some ⟨g, 0, none⟩) n cap) V n k := by
  rcases h with h | ⟨j, hj, h⟩
  · exact .inl h
  · exact .inr ⟨j, by omega, h⟩
theorem getD_at {L : List Fr} {k : Nat} (h : k < L.length) : L.getD k Fr.nil = L[k] := by rw [List.getD_eq_getElem?_getD, List.getElem?_eq_getElem h]; rfl
theorem take_last {L : List Fr} {m : Nat} (h : m < L.length) : topF (L.take (m + 1)) = L[m] := by
  have hl : (L.take (m + 1)).length = m + 1 := by rw [List.length_take]; omega
  rw [topF, hl, Nat.add_sub_cancel, List.getD_eq_getElem?_getD, List.getElem?_take, if_pos (by omega), List.getElem?_eq_getElem h]; rfl
theorem Rows.snoc' {w0 w w' : World} {H p n : Nat} {R : List Fr} {f : Fr} {ov v u lv : Value} {U V : Nat → Value} (hR : Rows w0 H R ov U) (hu : w.ownsRow w0.heap.size 3 1 u f.tab.length (ints f.tab)) (hx : Ext w0 w) (hA : Apt p lv V n ov U R.length) (hS : ∀ k, SF p lv V n k → k < w0.heap.size) (hH : H ≤ w0.heap.size)
    (hr : w'.ownsRow H 39 7 v (R.length + 1) (frows R U ++ fcells f u)) (ho : Only (fun k => ov.ownBlock = some k) w w') (hb : v.ownBlock = ov.ownBlock ∨ v.ownBlock = some (w.heap.size + 1)) :
    Rows w' H (R ++ [f]) v (fun j => if j = R.length then u else U j) ∧ Apt p lv V n v (fun j => if j = R.length then u else U j) (R ++ [f]).length := by
  have hR1 := hR.ext hx
  have hut : ∀ k, u.ownBlock = some k → w0.heap.size ≤ k := fun k hk => (hu.lt k hk).1
  refine ⟨Rows.snoc hr (hR1.tabs.only ho (fun j hj k hk hF => own_row_off hR1.row (hR1.tabs.row j hj) (by decide) k hk hF)) (own_only hu ho (fun k hk hF => own_row_off hR1.row hu (by decide) k hk hF)) hH (fun j hj k hk => (hR.tabs.lt hj hk).2), fun k hk hF => ?_⟩
  have hk0 := hS k hk
  rw [List.length_append, List.length_singleton] at hF
  rcases hF with hF | ⟨j, hj, hF⟩
  · rcases hb with hb | hb
    · rw [hb] at hF; exact hA k hk (.inl hF)
    · rw [hb] at hF; cases hF; have := hx.size; omega
  · by_cases e : j = R.length
    · simp only [if_pos e] at hF; have := hut k hF; omega
    · simp only [if_neg e] at hF; exact hA k hk (.inr ⟨j, by omega, hF⟩)
def goneN (gone : Int) (n : Nat) : Nat := (gone % ((n : Int) + 1)).toNat
theorem goneN_le (gone : Int) (n : Nat) : goneN gone n ≤ n := by
  have h1 := Int.emod_nonneg gone (show (n : Int) + 1 ≠ 0 by omega)
  have h2 := Int.emod_lt_of_pos gone (show (0 : Int) < (n : Int) + 1 by omega)
  unfold goneN; omega
theorem goneN_eq (gone : Int) (n : Nat) : gone % ((n : Int) + 1) = (goneN gone n : Int) := by
  have h1 := Int.emod_nonneg gone (show (n : Int) + 1 ≠ 0 by omega)
  unfold goneN; omega
theorem pushW {most high : Nat} {L : List Fr} {f : Fr} (h : L.length < most) (hf : fwhole f = true) : pushR most high L f = (0, max high (L.length + 1), L ++ [f]) := by rw [pushR, if_neg (by omega), if_pos hf]

set_option maxHeartbeats 1000000 in
theorem filled_spec (L : List Fr) (V : Nat → Value) (v : Value) (gone : Int) (w0 : World) (hF : Fs w0 v L V) : Ca Try.prog 7 #[v, .int .i64 gone] w0 (fun r w' => ∃ p lv U ov Uo R, R = (L.take 40).map rightF ∧ r = .tuple #[.pointer (some ⟨p, 0, none⟩), ov, .bool true] ∧ Stk w' w0.heap.size p (R.length + 1) R.length (R.take (R.length - goneN gone R.length)) lv U ∧ Rows w' w0.heap.size (R.take (R.length - goneN gone R.length)) ov Uo ∧ Apt p lv U (R.take (R.length - goneN gone R.length)).length ov Uo (R.take (R.length - goneN gone R.length)).length ∧ Ext w0 w') := by
  refine Ca.of Try.func7 Try.ntmps7 rfl rfl ?_
  refine W.seq ?_
  refine W.region ?_
  refine WL.c rfl (o_ash (by first | exact (show _ = Value.pointer _ from rfl) | exact rfl) ?_)
  refine WL.c rfl (o_ash (by first | exact (show _ = Value.slice _ _ _ from rfl) | exact rfl) ?_)
  refine WL.c rfl (o_ash (show _ = Value.bool _ from rfl) ?_)
  refine WL.nil ?_
  refine W.seq ?_
  refine W.seq ?_
  refine W.region ?_
  refine WL.c rfl (o_mvh (by first | exact (show _ = Value.slice _ _ _ from rfl) | exact rfl) ?_)
  refine WL.c rfl (o_lenR TI22 rfl hF.sl ?_)
  refine WL.c rfl (o_gt rfl rfl ?_)
  refine WL.nil ?_
  refine W.cut (fun e1 w1 => ∃ (u : Value) (M : List Fr), M = L.take 40 ∧ M.length ≤ 40 ∧ e1 0 = u ∧ e1 1 = .int .i64 gone ∧ Fs w0 u M V ∧ w1 = w0) ?_ ?_
  · -- both ways
    refine W.cond rfl (fun c16 => ?_) (fun c16 => ?_)
    · try simp only [decide_eq_true_eq, decide_eq_false_iff_not, Bool.not_eq_true', Bool.not_eq_false', Bool.and_eq_true, Bool.or_eq_true, Bool.and_eq_false_iff, Bool.or_eq_false_iff] at c16
      refine W.region ?_
      refine WL.c rfl (o_mvh (by first | exact (show _ = Value.slice _ _ _ from rfl) | exact rfl) ?_)
      refine WL.c rfl (o_sl TI22 TI39 rfl hF.sl Lo.n (Hi.s (h := 40) rfl) (by omega) (by omega) ?_)
      intro v18 hb18 hS18
      refine WL.c rfl (o_ash (by first | exact (show _ = Value.slice _ _ _ from rfl) | exact rfl) ?_)
      refine WL.nil ?_
      first
        | (have e18 : ((frows L V).drop (0 * 7)).take ((40 - 0) * 7) = frows (L.take 40) V := by rw [Nat.zero_mul, List.drop_zero]; exact frows_take (by omega)
           have hl18 : (L.take 40).length = 40 := by rw [List.length_take]; omega
           rw [e18] at hS18
           refine ⟨v18, L.take 40, rfl, by omega, rfl, rfl, ⟨by rw [hl18]; exact hS18, fun j hj => ?_⟩, rfl⟩
           have := hF.tabs j (by omega)
           rw [show tabl (L.take 40) j = tabl L j by simp only [tabl, List.getD_eq_getElem?_getD, List.getElem?_take, if_pos (show j < 40 by omega)]]
           exact this)
        | exact ⟨v, L, (List.take_of_length_le (by omega)).symm, by omega, rfl, rfl, hF, rfl⟩
    · try simp only [decide_eq_true_eq, decide_eq_false_iff_not, Bool.not_eq_true', Bool.not_eq_false', Bool.and_eq_true, Bool.or_eq_true, Bool.and_eq_false_iff, Bool.or_eq_false_iff] at c16
      refine W.skip ?_
      first
        | (have e18 : ((frows L V).drop (0 * 7)).take ((40 - 0) * 7) = frows (L.take 40) V := by rw [Nat.zero_mul, List.drop_zero]; exact frows_take (by omega)
           have hl18 : (L.take 40).length = 40 := by rw [List.length_take]; omega
           rw [e18] at hS18
           refine ⟨v18, L.take 40, rfl, by omega, rfl, rfl, ⟨by rw [hl18]; exact hS18, fun j hj => ?_⟩, rfl⟩
           have := hF.tabs j (by omega)
           rw [show tabl (L.take 40) j = tabl L j by simp only [tabl, List.getD_eq_getElem?_getD, List.getElem?_take, if_pos (show j < 40 by omega)]]
           exact this)
        | exact ⟨v, L, (List.take_of_length_le (by omega)).symm, by omega, rfl, rfl, hF, rfl⟩
  rintro e w ⟨u, M, hM, hM40, h0, h1, hF, hw1⟩
  refine W.seq ?_
  replace hw1 := hw1.symm
  subst hw1
  obtain ⟨R, hR0⟩ : ∃ R, R = M.map rightF := ⟨_, rfl⟩
  have hRl : R.length = M.length := by rw [hR0, List.length_map]
  have hRk : ∀ k (h : k < M.length), R[k]'(by omega) = rightF M[k] := fun k h => by subst hR0; simp
  have hRw : ∀ f ∈ R, fwhole f = true := fun f hf => by rw [hR0] at hf; obtain ⟨x, -, rfl⟩ := List.mem_map.1 hf; exact rightF_whole x
  refine W.region ?_
  refine WL.c rfl (o_mvh h0 ?_)
  refine WL.c rfl (o_lenR TI22 rfl hF.sl ?_)
  refine WL.c rfl (o_addi rfl rfl (by omega) ?_)
  refine WL.c rfl (o_call Try.call27 (lc rfl ln) ((new_spec ((M.length : Int) + 1) _).mono ?_))
  rintro v23 w23 ⟨hA, -, hxw⟩
  obtain ⟨rfl, hst⟩ := hA (by rw [inb_iff]; omega)
  rw [show ((M.length : Int) + 1).toNat = M.length + 1 by omega] at hst
  have hp0 : w0.heap.size < w23.heap.size := (hst.lt w0.heap.size (.inl rfl)).2
  obtain ⟨WP, hWP⟩ : ∃ p, p = w0.heap.size := ⟨_, rfl⟩
  rw [← hWP] at hst ⊢
  have hwi : w0.heap.size ≤ WP := by rw [hWP]; exact Nat.le_refl _
  refine WL.c rfl (o_mvh (by first | exact (show _ = Value.tuple _ from rfl) | exact rfl) ?_)
  refine WL.c rfl (o_ext rfl rfl ?_)
  refine WL.c rfl (o_ext rfl rfl ?_)
  refine WL.c rfl (o_ash (by first | exact (show _ = Value.pointer _ from rfl) | exact rfl) ?_)
  refine WL.c rfl (o_ash (show _ = Value.int _ _ from rfl) ?_)
  refine WL.nil ?_
  refine W.seq ?_
  refine W.seq ?_
  refine W.region ?_
  refine WL.c rfl (o_mvh (by first | exact (show _ = Value.pointer _ from rfl) | exact rfl) ?_)
  refine WL.c rfl (o_eqN (p := some ⟨WP, 0, none⟩) TI25 rfl rfl ?_)
  refine WL.c rfl (o_mvh (show _ = Value.bool _ from rfl) ?_)
  refine WL.g rfl (rfl) rfl (o_mvh (show _ = Value.int _ _ from rfl) ?_)
  refine WL.g rfl (rfl) rfl (o_call Try.call10 (lc rfl ln) ((num_spec _ _).mono ?_))
  rintro v30 w30 ⟨rfl, hw30⟩
  replace hw30 := hw30.symm
  subst hw30
  refine WL.g rfl (rfl) rfl (o_ne rfl rfl ?_)
  refine WL.c rfl (o_pickO rfl rfl ?_)
  refine WL.nil ?_
  refine W.condF' rfl (by simp) ?_
  refine W.skip ?_
  refine W.seq ?_
  refine W.region ?_
  refine WL.c rfl (o_ash (by first | exact (show _ = Value.slice _ _ _ from rfl) | exact rfl) ?_)
  refine WL.nil ?_
  refine W.seq ?_
  refine W.seq ?_
  refine W.region ?_
  refine WL.c rfl (o_ash (show _ = Value.int _ _ from rfl) ?_)
  refine WL.nil ?_
  refine W.block ?_
  refine W.loop (fun e w => ∃ (k : Nat) (lv : Value) (U : Nat → Value) (ov : Value) (Uo : Nat → Value), k ≤ M.length ∧ e 0 = u ∧ e 1 = .int .i64 gone ∧ e 7 = .pointer (some ⟨WP, 0, none⟩) ∧ e 9 = ov ∧ e 10 = .int .i64 (k : Int) ∧ Stk w WP WP (M.length + 1) k (R.take k) lv U ∧ Rows w WP (R.take k) ov Uo ∧ Apt WP lv U (R.take k).length ov Uo (R.take k).length ∧ Ext w0 w) (fun e w => M.length - (intOf (e 10)).toNat) ?_ ?_
  · exact ⟨0, .slice none 0 0, fun _ => undef, .slice none 0 0, fun _ => undef, Nat.zero_le _, h0, h1, rfl, rfl, rfl, by simpa using hst, by simpa using Rows.nil _ _ _, fun k hk hF => by rcases hF with hF | ⟨j, hj, hF⟩; cases hF; simp at hj, hxw⟩
  rintro e w ⟨k, lv, U, ov, Uo, hk, h0, h1, h7, h9, h10, hst, hR, hA, hxw⟩
  have hm10 := h10
  have hFw := hF.ext hxw
  have hlk : (R.take k).length = k := by rw [List.length_take]; omega
  refine W.seq ?_
  refine W.seq ?_
  refine W.region ?_
  refine WL.c rfl (o_mvh h10 ?_)
  refine WL.c rfl (o_mvh h0 ?_)
  refine WL.c rfl (o_lenR TI22 rfl hFw.sl ?_)
  refine WL.c rfl (o_lt rfl rfl ?_)
  refine WL.nil ?_
  refine W.cond rfl (fun c36 => ?_) (fun c36 => ?_)
  · try simp only [decide_eq_true_eq, decide_eq_false_iff_not, Bool.not_eq_true', Bool.not_eq_false', Bool.and_eq_true, Bool.or_eq_true, Bool.and_eq_false_iff, Bool.or_eq_false_iff] at c36
    refine W.skip ?_
    refine W.seq ?_
    refine W.block ?_
    refine W.seq ?_
    have hk1 : k < M.length := by omega
    have hIn : In w (V k) M[k].tab := by have := hFw.tabs k hk1; rw [tabl, getD_at hk1] at this; exact this
    have hRs : R.take (k + 1) = R.take k ++ [rightF M[k]] := by rw [← List.take_append_getElem (show k < R.length by omega), hRk k hk1]
    have hHw : WP ≤ w.heap.size := by have := hst.lt WP (.inl rfl); omega
    refine W.region ?_
    refine WL.c rfl (o_mvh h9 ?_)
    refine WL.c rfl (o_mvh h0 ?_)
    refine WL.c rfl (o_mvh h10 ?_)
    refine WL.c rfl (o_ix TI22 TI39 rfl rfl hFw.sl (by omega) ?_)
    intro b42 o42 c42 hv42 hc42
    rw [frows_at hk1, getD_at hk1] at hc42
    refine WL.c rfl (o_ldA TI39 rfl rfl hc42 rfl ?_)
    refine WL.c rfl (o_call Try.call21 (lc rfl ln) ((rightl_spec M[k] (V k) _ hIn).mono ?_))
    rintro v44 w44 ⟨uu, rfl, hu, hx44⟩
    refine WL.apO (WP) rfl rfl TI22 TI39 (show _ = Value.agg (fcells (rightF M[k]) uu).toArray from rfl) rfl (own_ext hR.row hx44) (by decide) (by decide) rfl (fcells_all (own_one hu)) rfl (by rw [maxLen_eq]; omega) (by omega) (Nat.le_trans hHw hx44.size) ?_
    intro v46 w46 hown46 ho46 hb46 hk46
    obtain ⟨hR2, hA2⟩ := Rows.snoc' hR hu hx44 hA (fun k hk => (hst.lt k hk).2) hHw hown46 ho46 hb46
    have hst2 := (hst.ext hx44).only ho46 (fun k hk hF => hA k hk (.inl hF))
    have hx46 : Ext w0 w46 := (hxw.tr hx44).trans' ho46 (fun _ h => h) (fun k hk hF => by have := (hR.row.lt k hF).1; omega)
    have hl2 : (R.take k ++ [rightF M[k]]).length = k + 1 := by rw [List.length_append, List.length_singleton, hlk]
    have hIn46 : In w46 uu (rightF M[k]).tab := by
      have := hR2.tab (k := k) (by omega)
      simp only [hlk, if_true, tabl] at this
      rw [List.getD_eq_getElem?_getD, List.getElem?_append_right (by omega), hlk, Nat.sub_self] at this
      exact this
    have hrow46 : Sl w46 7 v46 (k + 1) (frows (R.take k ++ [rightF M[k]]) (fun j => if j = (R.take k).length then uu else Uo j)) := by have := Sl.own hR2.row; rw [hl2] at this; exact this
    refine WL.c rfl (o_ash (by first | exact (show _ = Value.slice _ _ _ from rfl) | exact rfl) ?_)
    refine WL.nil ?_
    refine W.seq ?_
    refine W.region ?_
    refine WL.c rfl (o_mvh h7 ?_)
    refine WL.c rfl (o_mvh (by first | exact (show _ = Value.slice _ _ _ from rfl) | exact rfl) ?_)
    refine WL.c rfl (o_mvh h10 ?_)
    refine WL.c rfl (o_ix TI22 TI39 rfl rfl hrow46 (by omega) ?_)
    intro b50 o50 c50 hv50 hc50
    rw [frows_at (by omega), List.getD_eq_getElem?_getD, List.getElem?_append_right (by omega), hlk, Nat.sub_self, if_pos rfl] at hc50
    replace hc50 : Cells w46 b50 (o50 + k * 7) (fcells (rightF M[k]) uu) := hc50
    refine WL.c rfl (o_ldA TI39 rfl rfl hc50 rfl ?_)
    refine WL.c rfl (o_call Try.call16 (lc rfl (lc rfl ln)) ((push_spec WP WP (M.length + 1) k (R.take k) lv U (rightF M[k]) uu _ hst2 hIn46 (by have := fwhole_tab (rightF_whole M[k]); omega)).mono ?_))
    rintro v52 w52 ⟨rfl, lv3, U3, t⟩
    rw [pushW (by omega) (rightF_whole M[k])] at t ⊢
    obtain ⟨hR3, hA3⟩ := hR2.turn t hA2
    have hx3 := t.ext hx46 hwi hst2
    have hst3 := t.stk
    refine WL.c rfl (o_call Try.call10 (lc rfl ln) ((num_spec _ _).mono ?_))
    rintro v53 w53 ⟨rfl, hw53⟩
    replace hw53 := hw53.symm
    subst hw53
    refine WL.c rfl (o_ne rfl rfl ?_)
    refine WL.c rfl (o_mvh (show _ = Value.bool _ from rfl) ?_)
    refine WL.g rfl (by simp) rfl (o_mvh h7 ?_)
    refine WL.g rfl (by simp) rfl (o_call Try.call11 (lc rfl ln) ((len_spec WP WP (M.length + 1) _ _ lv3 U3 _ hst3).mono ?_))
    rintro v57 w57 ⟨rfl, hw57⟩
    replace hw57 := hw57.symm
    subst hw57
    refine WL.g rfl (by simp) rfl (o_mvh h10 ?_)
    refine WL.g rfl (by simp) rfl (o_addi rfl rfl (by omega) ?_)
    refine WL.g rfl (by simp) rfl (o_ne rfl rfl ?_)
    refine WL.c rfl (o_pickO rfl rfl ?_)
    refine WL.c rfl (o_mvh (show _ = Value.bool _ from rfl) ?_)
    refine WL.g rfl (by simp; omega) rfl (o_mvh h7 ?_)
    refine WL.g rfl (by simp; omega) rfl (o_call Try.call12 (lc rfl ln) ((high_spec WP WP (M.length + 1) _ _ lv3 U3 _ hst3).mono ?_))
    rintro v64 w64 ⟨rfl, hw64⟩
    replace hw64 := hw64.symm
    subst hw64
    refine WL.g rfl (by simp; omega) rfl (o_mvh h10 ?_)
    refine WL.g rfl (by simp; omega) rfl (o_addi rfl rfl (by omega) ?_)
    refine WL.g rfl (by simp; omega) rfl (o_ne rfl rfl ?_)
    refine WL.c rfl (o_pickO rfl rfl ?_)
    refine WL.nil ?_
    refine W.condF' rfl (by simp; omega) ?_
    refine W.skip ?_
    refine W.region ?_
    refine WL.c rfl (o_mvh h10 ?_)
    refine WL.c rfl (o_addi rfl rfl (by omega) ?_)
    refine WL.c rfl (o_ash (show _ = Value.int _ _ from rfl) ?_)
    refine WL.nil ?_
    rw [← hRs] at hst3 hR3 hA3
    rw [hlk, show max k (k + 1) = k + 1 by omega] at hst3
    refine ⟨⟨k + 1, _, _, _, _, by omega, h0, h1, h7, rfl, rfl, hst3, hR3, hA3, hx3⟩, ?_⟩
    show M.length - ((k : Int) + 1).toNat < _
    rw [hm10]; simp [intOf]; omega
  · try simp only [decide_eq_true_eq, decide_eq_false_iff_not, Bool.not_eq_true', Bool.not_eq_false', Bool.and_eq_true, Bool.or_eq_true, Bool.and_eq_false_iff, Bool.or_eq_false_iff] at c36
    refine W.exit ?_
    refine W.seq ?_
    refine W.seq ?_
    have hkM : k = M.length := by omega
    subst hkM
    rw [show M.length = R.length from hRl.symm] at hlk
    have htk : R.take M.length = R := by rw [← hRl]; exact List.take_length
    rw [htk] at hst hR hA
    have hgl := goneN_le gone M.length
    have hge := goneN_eq gone M.length
    refine W.region ?_
    refine WL.c rfl (o_mvh h1 ?_)
    refine WL.c rfl (o_mvh h0 ?_)
    refine WL.c rfl (o_lenR TI22 rfl hFw.sl ?_)
    refine WL.c rfl (o_addi rfl rfl (by omega) ?_)
    refine WL.c rfl (o_call Try.call13 (lc rfl (lc rfl ln)) ((rest_spec gone ((M.length : Int) + 1) _ (by omega) (by omega)).mono ?_))
    rintro v73 w73 ⟨rfl, hw73⟩
    replace hw73 := hw73.symm
    subst hw73
    rw [hge]
    refine WL.c rfl (o_ash (show _ = Value.int _ _ from rfl) ?_)
    refine WL.nil ?_
    refine W.block ?_
    refine W.loop (fun e w => ∃ (m : Nat) (lv : Value) (U : Nat → Value) (ov : Value) (Uo : Nat → Value), m ≤ M.length ∧ M.length - goneN gone M.length ≤ m ∧ e 0 = u ∧ e 7 = .pointer (some ⟨WP, 0, none⟩) ∧ e 9 = ov ∧ e 11 = .int .i64 ((m - (M.length - goneN gone M.length) : Nat) : Int) ∧ Stk w WP WP (M.length + 1) M.length (R.take m) lv U ∧ Rows w WP (R.take m) ov Uo ∧ Apt WP lv U (R.take m).length ov Uo (R.take m).length ∧ Ext w0 w) (fun e w => (intOf (e 11)).toNat) ?_ ?_
    · exact ⟨M.length, lv, U, ov, Uo, Nat.le_refl _, by omega, h0, h7, h9, by rw [show M.length - (M.length - goneN gone M.length) = goneN gone M.length by omega]; rfl, by rw [htk]; exact hst, by rw [htk]; exact hR, by rw [htk]; exact hA, hxw⟩
    rintro e w ⟨m, lv, U, ov, Uo, hm, hmg, h0, h7, h9, h11, hst, hR, hA, hxw⟩
    have hm11 := h11
    have hFw := hF.ext hxw
    have hlk : (R.take m).length = m := by rw [List.length_take]; omega
    refine W.seq ?_
    refine W.seq ?_
    refine W.region ?_
    refine WL.c rfl (o_mvh h11 ?_)
    refine WL.c rfl (o_gt rfl rfl ?_)
    refine WL.nil ?_
    refine W.cond rfl (fun c75 => ?_) (fun c75 => ?_)
    · try simp only [decide_eq_true_eq, decide_eq_false_iff_not, Bool.not_eq_true', Bool.not_eq_false', Bool.and_eq_true, Bool.or_eq_true, Bool.and_eq_false_iff, Bool.or_eq_false_iff] at c75
      refine W.skip ?_
      refine W.seq ?_
      refine W.block ?_
      refine W.seq ?_
      obtain ⟨m, rfl⟩ : ∃ m', m = m' + 1 := ⟨m - 1, by omega⟩
      have hm1 : m < R.length := by omega
      have htop : topF (R.take (m + 1)) = R[m] := take_last hm1
      have hlo : WP ≤ w.heap.size := by have := hst.lt WP (.inl rfl); omega
      refine W.region ?_
      refine WL.c rfl (o_mvh h7 ?_)
      refine WL.c rfl (o_call Try.call14 (lc rfl ln) ((pop_spec WP WP (M.length + 1) M.length (R.take (m + 1)) lv U _ hst).mono ?_))
      rintro v80 w80 ⟨tv, rfl, hcl, lv2, U2, t, htv⟩
      rw [htop] at hcl ⊢
      rw [show emptyE (R.take (m + 1)) = 0 by rw [emptyE, if_neg (by omega)]]
      have htt : (R.take (m + 1)).take ((R.take (m + 1)).length - 1) = R.take m := by rw [hlk, Nat.add_sub_cancel, List.take_take, Nat.min_eq_left (by omega)]
      obtain ⟨hR2, hA2⟩ := hR.turn t hA
      have hx2 := t.ext hxw hwi hst
      have hst2 := t.stk
      rw [htt] at hst2 hA2
      have hSt := Clipd.In hcl
      refine WL.c rfl (o_mvh (by first | exact (show _ = Value.tuple _ from rfl) | exact rfl) ?_)
      refine WL.c rfl (o_ext rfl rfl ?_)
      refine WL.c rfl (o_ext rfl rfl ?_)
      refine WL.c rfl (o_alB TI39 ?_)
      intro w12 hC12 hx12 hs12
      refine WL.u (o_stA TI39 rfl (show _ = Value.agg (fcells R[m] tv).toArray from rfl) rfl (fcells_one (by obtain ⟨a, c, rfl⟩ := hSt.isSlice; rfl)) hC12 rfl ?_)
      intro w13 hB12 ho12 hs13
      have h80s := hx2.size
      have hx13 : Ext w80 w13 := hx12.trans' ho12 (fun _ h => h) (fun k hk he => by omega)
      replace hSt := Sl.ext hSt hx13
      replace hst2 := hst2.ext hx13
      replace hR2 := hR2.ext hx13
      replace hx2 := hx2.tr hx13
      obtain ⟨c12, hc12⟩ : ∃ c12, c12 = w80.heap.size := ⟨_, rfl⟩
      rw [← hc12] at hB12 ⊢
      refine WL.c rfl (o_ash (show _ = Value.int _ _ from rfl) ?_)
      refine WL.nil ?_
      refine W.seq ?_
      refine W.seq ?_
      obtain ⟨wd, hwd⟩ : ∃ wd, wd = w13.drew := ⟨_, rfl⟩
      have hxd : Ext w13 wd := hwd ▸ Only.drew w13
      replace hSt := Sl.ext hSt hxd
      replace hst2 := hst2.ext hxd
      replace hR2 := hR2.ext hxd
      replace hx2 := hx2.tr hxd
      replace hB12 := hxd.blk hB12 (fun h => h)
      obtain ⟨go, co, hov, hob, hoc⟩ := hR2.at (k := m) (by omega)
      rw [hlk] at hov
      subst hov
      rw [getD_at (show m < (R.take (m + 1)).length by omega), List.getElem_take] at hoc
      have hIo : In wd (Uo m) R[m].tab := by have := hR2.tab (k := m) (by omega); rw [tabl, getD_at (show m < (R.take (m + 1)).length by omega), List.getElem_take] at this; exact this
      have hRm := hRw R[m] (List.getElem_mem hm1)
      have hco : m + 1 ≤ co := by
        obtain ⟨_, _, hv, _, _, hnc, _⟩ := own_blk hR2.row hob
        simp only [Value.slice.injEq] at hv; omega
      refine W.draw (Ext) [(0, fun v _ => v = _), (7, fun v _ => v = _), (9, fun v _ => v = _), (11, fun v _ => v = _), (12, fun v _ => v = _), (13, fun v _ => v = _)] rfl (by kernel_rfl) (Only.refl No) (fun _ _ _ h k => h.trans k) ⟨Mono.eq, Mono.eq, Mono.eq, Mono.eq, Mono.eq, Mono.eq, trivial⟩ ⟨h0, h7, h9, h11, rfl, rfl, trivial⟩ ?_
      refine WD.p rfl (fun e w hR hh => by obtain ⟨h13, -⟩ := hh; exact SG.n (o_mvh h13 ⟨rfl, Only.refl No _⟩)) ?_
      refine WD.p rfl (fun e w hR hh => by obtain ⟨h83, -⟩ := hh; exact SG.n (o_call Try.call10 (lc h83 ln) ((num_spec _ _).mono (fun v w' ⟨h1, h2⟩ => ⟨h1, by rw [h2]; exact Only.refl No _⟩)))) ?_
      refine WD.p rfl (fun e w hR hh => by obtain ⟨h84, -⟩ := hh; exact SG.n (o_ne h84 rfl ⟨rfl, Only.refl No _⟩)) ?_
      refine WD.p rfl (fun e w hR hh => by obtain ⟨h85, -⟩ := hh; exact SG.n (o_mvh h85 ⟨rfl, Only.refl No _⟩)) ?_
      refine WD.p rfl (fun e w hR hh => by obtain ⟨h86, h12, -⟩ := hh; rw [← hwd] at hR; exact SG.g h86 (by simp) (o_ldA TI39 rfl h12 (show Cells w c12 0 (fcells R[m] tv) from Cells.of (hR.blk hB12 (fun h => h)) 0 _ (by simp)) rfl ⟨rfl, Only.refl No _⟩)) ?_
      refine WD.p rfl (fun e w hR hh => by obtain ⟨h86, h9, -⟩ := hh; exact SG.g h86 (by simp) (o_mvh h9 ⟨rfl, Only.refl No _⟩)) ?_
      refine WD.p rfl (fun e w hR hh => by obtain ⟨h86, h9, -⟩ := hh; exact SG.g h86 (by simp) (o_mvh h9 ⟨rfl, Only.refl No _⟩)) ?_
      refine WD.p rfl (fun e w hR hh => by obtain ⟨h89, h86, -⟩ := hh; exact SG.g h86 (by simp) (o_len TI22 h89 ⟨rfl, Only.refl No _⟩)) ?_
      refine WD.p rfl (fun e w hR hh => by obtain ⟨h90, h86, -⟩ := hh; exact SG.g h86 (by simp) (o_subi h90 rfl (by omega) ⟨rfl, Only.refl No _⟩)) ?_
      refine WD.p rfl (fun e w hR hh => by obtain ⟨h91, h88, h86, -⟩ := hh; exact SG.g h86 (by simp) (o_ixB (i := m) TI22 TI39 h88 (h91.trans (by congr 1; omega)) (by omega) ⟨rfl, Only.refl No _⟩)) ?_
      refine WD.p rfl (fun e w hR hh => by obtain ⟨h92, h86, -⟩ := hh; rw [← hwd] at hR; exact SG.g h86 (by simp) (o_ldA TI39 rfl h92 (show Cells w go (0 + m * 7) (fcells R[m] (Uo m)) by rw [Nat.zero_add]; exact hoc.only hR (fun h => h)) rfl ⟨rfl, Only.refl No _⟩)) ?_
      refine WD.p rfl (fun e w hR hh => by obtain ⟨h93, h87, h86, -⟩ := hh; rw [← hwd] at hR; exact SG.g h86 (by simp) (o_call Try.call15 (lc h87 (lc h93 ln)) ((same_spec R[m] tv (Uo m) w (Sl.ext hSt hR) (Sl.ext hIo hR) (by have := fwhole_tab hRm; omega)).mono (fun v w' hh => hh)))) ?_
      refine WD.p rfl (fun e w hR hh => by obtain ⟨h94, h86, -⟩ := hh; exact SG.g h86 (by simp) (o_not' h94 ⟨rfl, Only.refl No _⟩)) ?_
      refine WD.p rfl (fun e w hR hh => by obtain ⟨h95, h86, -⟩ := hh; exact SG.n (o_pickO h86 h95 ⟨rfl, Only.refl No _⟩)) ?_
      rintro e w hR ⟨h96, h95, h94, h93, h92, h91, h90, h89, h88, h87, h86, h85, h84, h83, h0, h7, h9, h11, h12, h13, -⟩
      rw [← hwd] at hR
      have hst2' := hst2.ext hR
      have hR2' : Rows w WP (R.take m) (.slice (some ⟨go, 0, none⟩) m co) Uo := by
        have := Rows.take (hR2.ext hR) (n := m + 1) (m := m) hlk.symm (by omega)
        rw [List.take_take, Nat.min_eq_left (by omega)] at this
        exact this
      have hA2' : Apt WP lv2 U2 (R.take m).length (.slice (some ⟨go, 0, none⟩) m co) Uo (R.take m).length := fun k hk hF => hA2 k hk (by rw [hlk]; exact RF.take hF (by rw [List.length_take]; omega))
      have hx2' := hx2.tr hR
      refine W.condF' h96 (by simp) ?_
      refine W.skip ?_
      refine W.region ?_
      refine WL.c rfl (o_mvh h9 ?_)
      refine WL.c rfl (o_mvh h9 ?_)
      refine WL.c rfl (o_len TI22 rfl ?_)
      refine WL.c rfl (o_subi rfl rfl (by omega) ?_)
      refine WL.c rfl (o_slv (h := m) TI22 TI39 rfl Lo.n (Hi.s (by show Value.int .i64 (((m + 1 : Nat) : Int) - 1) = _; congr 1; omega)) (Nat.zero_le _) (by omega) ?_)
      rw [sliced0]
      refine WL.c rfl (o_ash (by first | exact (show _ = Value.slice _ _ _ from rfl) | exact rfl) ?_)
      refine WL.nil ?_
      refine W.region ?_
      refine WL.c rfl (o_mvh h11 ?_)
      refine WL.c rfl (o_subi rfl rfl (by omega) ?_)
      refine WL.c rfl (o_ash (show _ = Value.int _ _ from rfl) ?_)
      refine WL.nil ?_
      refine ⟨⟨m, lv2, U2, .slice (some ⟨go, 0, none⟩) m co, Uo, by omega, by omega, h0, h7, rfl, ?_, hst2', hR2', hA2', hx2'⟩, ?_⟩
      · show Value.int _ (((m + 1 - (M.length - goneN gone M.length) : Nat) : Int) - 1) = _; congr 1; omega
      · show (((m + 1 - (M.length - goneN gone M.length) : Nat) : Int) - 1).toNat < _
        rw [hm11]; simp only [intOf]; omega
    · try simp only [decide_eq_true_eq, decide_eq_false_iff_not, Bool.not_eq_true', Bool.not_eq_false', Bool.and_eq_true, Bool.or_eq_true, Bool.and_eq_false_iff, Bool.or_eq_false_iff] at c75
      refine W.exit ?_
      refine W.seq ?_
      refine W.region ?_
      refine WL.c rfl (o_mvh h7 ?_)
      refine WL.c rfl (o_mvh h9 ?_)
      refine WL.c rfl (o_mvh h7 ?_)
      refine WL.c rfl (o_call Try.call12 (lc rfl ln) ((high_spec WP WP (M.length + 1) _ _ lv U _ hst).mono ?_))
      rintro v105 w105 ⟨rfl, hw105⟩
      replace hw105 := hw105.symm
      subst hw105
      refine WL.c rfl (o_mvh h0 ?_)
      refine WL.c rfl (o_lenR TI22 rfl hFw.sl ?_)
      refine WL.c rfl (o_eq rfl rfl ?_)
      refine WL.c rfl (o_mvh (show _ = Value.bool _ from rfl) ?_)
      refine WL.g rfl (by simp) rfl (o_mvh h7 ?_)
      refine WL.g rfl (by simp) rfl (o_call Try.call11 (lc rfl ln) ((len_spec WP WP (M.length + 1) _ _ lv U _ hst).mono ?_))
      rintro v111 w111 ⟨rfl, hw111⟩
      replace hw111 := hw111.symm
      subst hw111
      refine WL.g rfl (by simp) rfl (o_mvh h9 ?_)
      refine WL.g rfl (by simp) rfl (o_lenR TI22 rfl (Sl.own hR.row) ?_)
      refine WL.g rfl (by simp) rfl (o_eq rfl rfl ?_)
      refine WL.c rfl (o_pickA rfl rfl ?_)
      refine WL.c rfl (o_ash (by first | exact (show _ = Value.pointer _ from rfl) | exact rfl) ?_)
      refine WL.c rfl (o_ash (by first | exact (show _ = Value.slice _ _ _ from rfl) | exact rfl) ?_)
      refine WL.c rfl (o_ash (show _ = Value.bool _ from rfl) ?_)
      refine WL.nil ?_
      refine W.ret ?_
      refine ret3v rfl (show _ = Value.pointer _ from rfl) (show _ = ov from rfl) (show _ = Value.bool _ from rfl) ?_
      have hme : m = M.length - goneN gone M.length := by omega
      subst hWP
      refine ⟨w0.heap.size, lv, U, ov, Uo, R, by rw [hR0, hM], by simp, ?_, ?_, ?_, hxw⟩ <;> rw [hRl, ← hme]
      · exact hst
      · exact hR
      · exact hA

theorem o_apW {P : Program} {e : Env} {w : World} {K : Value → World → Prop} {ty : TypeId} {x y : Operand} {t el : TypeId} {s bs s' bs' n m : Nat} {z z' v u : Value} {d' : TypeDesc} {xs ys : List Value} (base : Nat) (ht : Ty P t (.slice el) s bs z) (hel : Ty P el d' s' bs' z') (hx : ev e x = v) (hy : ev e y = u)
    (hown : w.ownsRow base el s' v n xs) (hS : Sl w s' u m ys) (hm : 0 < m) (hzs : z'.cells.size = s') (hsz : 0 < s') (h1 : ∀ a ∈ ys, a.oneCell' = true) (h63 : n + m ≤ maxLen) (hby : ((n + m) + (n + m) / 4 + 192) * bs' ≤ 281474976710656) (hbase : base ≤ w.heap.size)
    (k : ∀ v' w', w'.ownsRow base el s' v' (n + m) (xs ++ ys) → Only (fun k => v.ownBlock = some k) w w' → K v' w') : OP P e (.call ⟨.builtin .append, #[x, y], #[t, t]⟩) ty w K := by
  obtain ⟨i, hi1, hi2, hi3, hi4⟩ := hel.info
  rcases hS.val with ⟨rfl, a, c, rfl⟩ | ⟨b, off, c, rfl, hnc, hc⟩
  · omega
  · obtain ⟨v', w', hr, h2, h3, -⟩ := run_append_own_wide (P := P) w base t ty el i z' s' bs' ht.und hi1 hi4 hi2 hi3 hzs hsz v n xs hown ⟨b, off, none⟩ m c ys hS.len (fun j u hj => by rw [add_none]; exact hc j u hj) h1 h63 hby hbase
    exact OP.of (by simp [execOp, resolve, invoke, builtin, hx, hy, hr]) (k v' w' h2 ((Only.grown h3).mono (fun _ _ h => h.symm)))
def fz : Fr := ⟨0, 0, 0, -1, -1, 0, []⟩
theorem fz_w : fwhole fz = true := by decide
theorem reps {k : Nat} : List.replicate k fz ++ [fz] = List.replicate (k + 1) fz := by rw [List.replicate_succ']
theorem rdS_bad_ne {xs : List UInt8} {e a : Nat} (h : rdS xs = .bad e a) : e ≠ 0 := by
  have hN : ∀ {a0 : Nat} {lo hi : Int} {e a : Nat}, rdN xs a0 lo hi = .bad e a → e ≠ 0 := by
    intro a0 lo hi e a h
    unfold rdN at h
    split at h
    · split at h
      · simp only [Rd.bad.injEq] at h; omega
      · cases h
    · rename_i h0; simp only [Rd.bad.injEq] at h; rw [← h.1]; exact h0
  have hB : ∀ {α β : Type} {r : Rd α} {f : α → Nat → Rd β} {e a : Nat}, r.bind f = .bad e a → r = .bad e a ∨ ∃ x a', f x a' = .bad e a := by
    intro α β r f e a h
    cases r with
    | ok x a' => exact .inr ⟨x, a', h⟩
    | bad e' a' => simp only [Rd.bind, Rd.bad.injEq] at h; exact .inl (by rw [h.1, h.2])
  have hM : ∀ (m : Nat) {a0 : Nat} {acc : List Int} {e a : Nat}, rdMany xs m a0 acc = .bad e a → e ≠ 0 := by
    intro m
    induction m with
    | zero => intro a0 acc e a h; cases h
    | succ m ih =>
      intro a0 acc e a h
      rw [rdMany] at h
      rcases hB h with h | ⟨x, a', h⟩
      · exact hN h
      · exact ih h
  have hF : ∀ {a0 e a : Nat}, rdF xs a0 = .bad e a → e ≠ 0 := by
    intro a0 e a h
    rw [rdF] at h
    rcases hB h with h | ⟨_, _, h⟩
    · exact hN h
    rcases hB h with h | ⟨_, _, h⟩
    · exact hN h
    rcases hB h with h | ⟨_, _, h⟩
    · exact hN h
    rcases hB h with h | ⟨_, _, h⟩
    · exact hN h
    rcases hB h with h | ⟨_, _, h⟩
    · exact hN h
    rcases hB h with h | ⟨_, _, h⟩
    · exact hN h
    rcases hB h with h | ⟨_, _, h⟩
    · exact hN h
    rcases hB h with h | ⟨_, _, h⟩
    · exact hM _ h
    cases h
  have hL : ∀ (m : Nat) {a0 : Nat} {acc : List Fr} {e a : Nat}, rdL xs m a0 acc = .bad e a → e ≠ 0 := by
    intro m
    induction m with
    | zero => intro a0 acc e a h; cases h
    | succ m ih =>
      intro a0 acc e a h
      rw [rdL] at h
      rcases hB h with h | ⟨x, a', h⟩
      · exact hF h
      · exact ih h
  unfold rdS at h
  split at h
  · simp only [Rd.bad.injEq] at h; omega
  · split at h
    · rw [rdS1] at h
      rcases hB h with h | ⟨_, _, h⟩
      · exact hN h
      rcases hB h with h | ⟨_, _, h⟩
      · exact hN h
      rcases hB h with h | ⟨_, _, h⟩
      · exact hN h
      rcases hB h with h | ⟨_, _, h⟩
      · exact hL _ h
      split at h
      · simp only [Rd.bad.injEq] at h; omega
      · cases h
    · simp only [Rd.bad.injEq] at h; omega
theorem len_ok2 {sv : List UInt8} {most high : Nat} {L : List Fr} (hsv : sv = saved most high L) (hm : most ≤ 1048576) (hl : L.length ≤ 40) (hh : high ≤ 1048576) (hw : ∀ f ∈ L, fwhole f = true) : sv.length ≤ 500000000 := by
  subst hsv
  have h1 := vIs_len (l := [(most : Int), (L.length : Int), (high : Int)]) (by intro n hn; simp only [List.mem_cons, List.not_mem_nil, or_false] at hn; unfold numOk; omega)
  have h2 := frames_len hw
  rw [saved, List.length_cons, List.length_append]
  simp only [List.length_cons, List.length_nil] at h1
  omega
theorem cells_ty {w : World} {p : Nat} {cs cs' : Array Value} {T T' : TypeId} {fr fr' : Nat × Nat} (h1 : w.heap[p]? = some (.cells cs T fr)) (h2 : w.heap[p]? = some (.cells cs' T' fr')) : T = T' := by
  rw [h1] at h2; simp only [Option.some.injEq, Obj.cells.injEq] at h2; exact h2.2.1
theorem pushF {most high : Nat} {L : List Fr} {f : Fr} (h : most ≤ L.length) : pushR most high L f = (220, high, L) := by rw [pushR, if_pos h]
theorem modN (n : Int) {m : Nat} (h : 0 < m) : n % (m : Int) = ((n % (m : Int)).toNat : Int) ∧ (n % (m : Int)).toNat < m := by
  have h1 := Int.emod_nonneg n (show (m : Int) ≠ 0 by omega)
  have h2 := Int.emod_lt_of_pos n (show (0 : Int) < (m : Int) by omega)
  omega
theorem by_front {w : World} {g n c k : Nat} {sv : List UInt8} (h : By w (.slice (some ⟨g, 0, none⟩) n c) sv) (hn : n = sv.length) (hk : k ≤ sv.length) : By w (.slice (some ⟨g, 0, none⟩) k c) (sv.take k) := by
  subst hn
  have hkl : (sv.take k).length = k := by rw [List.length_take]; omega
  obtain ⟨hl, hv⟩ := h
  rcases hv with ⟨h1, a, c', hv⟩ | ⟨b, off, c', hv, hnc, hc⟩
  · have : k = 0 := by omega
    subst this
    exact ⟨by simp, .inl ⟨by simp, _, _, rfl⟩⟩
  · simp only [Value.slice.injEq, Option.some.injEq, Addr.mk.injEq, and_true] at hv
    obtain ⟨⟨rfl, rfl⟩, -, rfl⟩ := hv
    show Sl w 1 _ (sv.take k).length _
    rw [hkl]
    refine ⟨by simp; omega, .inr ⟨_, _, _, rfl, by omega, fun i v hv => hc i v ?_⟩⟩
    rw [List.map_take, List.getElem?_take] at hv
    split at hv
    · exact hv
    · cases hv

set_option maxHeartbeats 2000000 in
theorem back_walk (w0 : World) (v : Value) (L : List Fr) (V : Nat → Value) (hF : Fs w0 v L V) (gone : Int) (at_ : Int) (mv : Value) (xs : List UInt8) (hxl : xs.length ≤ 140737488351232) (hX : By w0 mv xs) (yv : Value) (ys : List UInt8) (hyl : ys.length ≤ 140737488351232) (hY : By w0 yv ys) : Ca Try.prog 3 #[v, .int .i64 gone, .int .i64 at_, mv, yv] w0 (fun r w' => r = .bool true ∧ Ext w0 w') := by
  refine Ca.of Try.func3 Try.ntmps3 rfl rfl ?_
  refine W.seq ?_
  refine W.region ?_
  refine WL.c rfl (o_ash (show _ = Value.bool _ from rfl) ?_)
  refine WL.nil ?_
  refine W.seq ?_
  refine W.seq ?_
  refine W.region ?_
  refine WL.c rfl (o_call Try.call6 ln ((awake_spec _).mono ?_))
  rintro v28 w28 ⟨rfl, hx28⟩
  replace hF := hF.ext hx28
  replace hX := Sl.ext hX hx28
  replace hY := Sl.ext hY hx28
  refine WL.c rfl (o_not' rfl ?_)
  refine WL.nil ?_
  refine W.condF' rfl (rfl) ?_
  refine W.skip ?_
  refine W.seq ?_
  refine W.region ?_
  refine WL.c rfl (o_mvh (by first | exact (show _ = Value.slice _ _ _ from rfl) | exact rfl) ?_)
  refine WL.c rfl (o_mvh (show _ = Value.int _ _ from rfl) ?_)
  refine WL.c rfl (o_call Try.call7 (lc rfl (lc rfl ln)) ((filled_spec L V v gone _ hF).mono ?_))
  rintro v33 w33 ⟨p, lv, U, ov, Uo, R, hR0, rfl, hst, hR, hA, hx33⟩
  have hRl : R.length ≤ 40 := by rw [hR0, List.length_map, List.length_take]; omega
  have hRl2 : (R.length : Int) = min 40 (L.length : Int) := by rw [hR0, List.length_map, List.length_take]; omega
  have hRw : ∀ f ∈ R, fwhole f = true := fun f hf => by rw [hR0] at hf; obtain ⟨x, -, rfl⟩ := List.mem_map.1 hf; exact rightF_whole x
  have hQw : ∀ f ∈ R.take (R.length - goneN gone R.length), fwhole f = true := fun f hf => hRw f (List.mem_of_mem_take hf)
  have hQl : (R.take (R.length - goneN gone R.length)).length ≤ R.length := by rw [List.length_take]; omega
  generalize R.take (R.length - goneN gone R.length) = Q at *
  replace hF := hF.ext hx33
  replace hX := Sl.ext hX hx33
  replace hY := Sl.ext hY hx33
  replace hx28 := hx28.tr hx33
  refine WL.c rfl (o_mvh (by first | exact (show _ = Value.tuple _ from rfl) | exact rfl) ?_)
  refine WL.c rfl (o_ext rfl rfl ?_)
  refine WL.c rfl (o_ext rfl rfl ?_)
  refine WL.c rfl (o_ext rfl rfl ?_)
  refine WL.c rfl (o_ash (by first | exact (show _ = Value.pointer _ from rfl) | exact rfl) ?_)
  refine WL.c rfl (o_ash (by first | exact (show _ = Value.slice _ _ _ from rfl) | exact rfl) ?_)
  refine WL.c rfl (o_ash (show _ = Value.bool _ from rfl) ?_)
  refine WL.nil ?_
  refine W.seq ?_
  refine W.seq ?_
  refine W.region ?_
  refine WL.c rfl (o_mvh (show _ = Value.bool _ from rfl) ?_)
  refine WL.c rfl (o_not' rfl ?_)
  refine WL.nil ?_
  refine W.condF' rfl (rfl) ?_
  refine W.skip ?_
  refine W.seq ?_
  refine Exists.elim (⟨_, rfl⟩ : ∃ sv, sv = saved (R.length + 1) R.length Q) ?_
  intro sv hsv0
  have hsl := len_ok2 hsv0 (by omega) (by omega) (by omega) hQw
  have hsp : 0 < sv.length := by rw [hsv0]; exact saved_pos _ _ _
  have hrds : rdS sv = .ok ⟨R.length + 1, R.length, Q⟩ sv.length := by rw [hsv0]; exact rdS_saved (by omega) (by omega) (by omega) (by omega) hQw
  refine W.region ?_
  refine WL.c rfl (o_mvh (by first | exact (show _ = Value.pointer _ from rfl) | exact rfl) ?_)
  refine WL.c rfl (o_call Try.call8 (lc rfl ln) ((save_spec' _ p (R.length + 1) R.length Q lv U _ hst hQw (by omega) sv hsv0).mono ?_))
  rintro v40 w40 ⟨g, cap, rfl, hsv, hSv, hx40⟩
  replace hF := hF.ext hx40
  replace hX := Sl.ext hX hx40
  replace hY := Sl.ext hY hx40
  replace hst := hst.ext hx40
  replace hR := hR.ext hx40
  replace hx28 := hx28.tr hx40
  have hR0w := hR
  refine WL.c rfl (o_ash (by first | exact (show _ = Value.slice _ _ _ from rfl) | exact rfl) ?_)
  refine WL.nil ?_
  refine W.seq ?_
  refine W.region ?_
  refine WL.c rfl (o_mvh (by first | exact (show _ = Value.slice _ _ _ from rfl) | exact rfl) ?_)
  refine WL.c rfl (o_call Try.call9 (lc rfl ln) ((load_spec _ sv _ hSv (by omega)).mono ?_))
  rintro v43 w43 ⟨hok, -⟩
  obtain ⟨q, lq, Vq, rfl, hq, hy⟩ := hok _ _ hrds
  replace hq : Stk w43 w40.heap.size q (R.length + 1) R.length Q lq Vq := hq
  refine WL.c rfl (o_mvh (by first | exact (show _ = Value.tuple _ from rfl) | exact rfl) ?_)
  refine WL.c rfl (o_ext rfl rfl ?_)
  refine WL.c rfl (o_ext rfl rfl ?_)
  refine WL.c rfl (o_alB TI31 ?_)
  have hy0 := hy.size
  intro w16 hC16 hx16 hs16
  replace hy := hy.tr hx16
  replace hq := hq.ext hx16
  refine WL.c rfl (o_ash (by first | exact (show _ = Value.pointer _ from rfl) | exact rfl) ?_)
  refine WL.u (o_stA TI31 rfl (show _ = Value.agg #[.int .i64 0, .int .i64 0] from rfl) rfl rfl hC16 rfl ?_)
  intro w17 hB16 ho16 hs17
  replace hy := hy.trans' ho16 (fun _ h => h) (fun k hk he => by omega)
  obtain ⟨c16, hc16⟩ : ∃ c, c = w43.heap.size := ⟨_, rfl⟩
  rw [← hc16] at hB16 ho16 hC16 ⊢
  replace hq := hq.only ho16 (fun k hk he => by subst he; rcases hk with hk | hk | ⟨j, hj, hk⟩; rw [hk, hq.cell] at hC16; cases hC16; exact own_off hq.rows.row hC16 (by decide) hk; exact own_off (hq.rows.tabs.row j hj) hC16 (by decide) hk)
  refine WL.nil ?_
  refine W.seq ?_
  refine W.seq ?_
  obtain ⟨wd, hwd⟩ : ∃ wd, wd = w17.drew := ⟨_, rfl⟩
  have hxd : Ext w17 wd := hwd ▸ Only.drew w17
  replace hq := hq.ext hxd
  replace hy := hy.tr hxd
  replace hB16 := hxd.blk hB16 (fun h => h)
  refine W.draw (Ext) [(0, fun v _ => v = _), (2, fun v _ => v = _), (3, fun v _ => v = _), (4, fun v _ => v = _), (11, fun v _ => v = _), (12, fun v _ => v = _), (14, fun v _ => v = _), (15, fun v _ => v = _), (16, fun v _ => v = _)] rfl (by kernel_rfl) (Only.refl No) (fun _ _ _ h k => h.trans k) ⟨Mono.eq, Mono.eq, Mono.eq, Mono.eq, Mono.eq, Mono.eq, Mono.eq, Mono.eq, Mono.eq, trivial⟩ ⟨rfl, rfl, rfl, rfl, rfl, rfl, rfl, rfl, rfl, trivial⟩ ?_
  refine WD.p rfl (fun e w hR hh => by obtain ⟨h15, -⟩ := hh; exact SG.n (o_mvh h15 ⟨rfl, Only.refl No _⟩)) ?_
  refine WD.p rfl (fun e w hR hh => by obtain ⟨h46, -⟩ := hh; exact SG.n (o_eqN (p := some ⟨q, 0, none⟩) TI25 h46 rfl ⟨rfl, Only.refl No _⟩)) ?_
  refine WD.p rfl (fun e w hR hh => by obtain ⟨h47, -⟩ := hh; exact SG.n (o_mvh h47 ⟨rfl, Only.refl No _⟩)) ?_
  refine WD.p rfl (fun e w hR hh => by obtain ⟨h48, h16, -⟩ := hh; exact SG.g h48 (by simp) (o_fa 0 TI31 rfl TI29 rfl h16 ⟨rfl, Only.refl No _⟩)) ?_
  refine WD.p rfl (fun e w hR hh => by obtain ⟨h49, h48, -⟩ := hh; rw [← hwd] at hR; exact SG.g h48 (by simp) (o_ld TI29 rfl h49 (cell_of (hR.blk hB16 (fun h => h)) rfl) ⟨rfl, Only.refl No _⟩)) ?_
  refine WD.p rfl (fun e w hR hh => by obtain ⟨h50, h48, -⟩ := hh; exact SG.g h48 (by simp) (o_call Try.call10 (lc h50 ln) ((num_spec _ _).mono (fun v w' ⟨h1, h2⟩ => ⟨h1, by rw [h2]; exact Only.refl No _⟩)))) ?_
  refine WD.p rfl (fun e w hR hh => by obtain ⟨h51, h48, -⟩ := hh; exact SG.g h48 (by simp) (o_ne h51 rfl ⟨rfl, Only.refl No _⟩)) ?_
  refine WD.p rfl (fun e w hR hh => by obtain ⟨h52, h48, -⟩ := hh; exact SG.n (o_pickO h48 h52 ⟨rfl, Only.refl No _⟩)) ?_
  refine WD.p rfl (fun e w hR hh => by obtain ⟨h53, -⟩ := hh; exact SG.n (o_mvh h53 ⟨rfl, Only.refl No _⟩)) ?_
  refine WD.p rfl (fun e w hR hh => by obtain ⟨h54, h15, -⟩ := hh; exact SG.g h54 (by simp) (o_mvh h15 ⟨rfl, Only.refl No _⟩)) ?_
  refine WD.p rfl (fun e w hR hh => by obtain ⟨h55, h54, -⟩ := hh; rw [← hwd] at hR; exact SG.g h54 (by simp) (o_call Try.call11 (lc h55 ln) ((len_spec _ q (R.length + 1) R.length Q lq Vq w (hq.ext hR)).mono (fun v w' ⟨h1, h2⟩ => ⟨h1, by rw [h2]; exact Only.refl No _⟩)))) ?_
  refine WD.p rfl (fun e w hR hh => by obtain ⟨h54, h12, -⟩ := hh; exact SG.g h54 (by simp) (o_mvh h12 ⟨rfl, Only.refl No _⟩)) ?_
  refine WD.p rfl (fun e w hR hh => by obtain ⟨h57, h54, -⟩ := hh; rw [← hwd] at hR; exact SG.g h54 (by simp) (o_lenR TI22 h57 (Sl.own ((hR0w.ext hy).ext hR).row) ⟨rfl, Only.refl No _⟩)) ?_
  refine WD.p rfl (fun e w hR hh => by obtain ⟨h58, h56, h54, -⟩ := hh; exact SG.g h54 (by simp) (o_ne h56 h58 ⟨rfl, Only.refl No _⟩)) ?_
  refine WD.p rfl (fun e w hR hh => by obtain ⟨h59, h54, -⟩ := hh; exact SG.n (o_pickO h54 h59 ⟨rfl, Only.refl No _⟩)) ?_
  refine WD.p rfl (fun e w hR hh => by obtain ⟨h60, -⟩ := hh; exact SG.n (o_mvh h60 ⟨rfl, Only.refl No _⟩)) ?_
  refine WD.p rfl (fun e w hR hh => by obtain ⟨h61, h15, -⟩ := hh; exact SG.g h61 (by simp) (o_mvh h15 ⟨rfl, Only.refl No _⟩)) ?_
  refine WD.p rfl (fun e w hR hh => by obtain ⟨h62, h61, -⟩ := hh; rw [← hwd] at hR; exact SG.g h61 (by simp) (o_call Try.call12 (lc h62 ln) ((high_spec _ q (R.length + 1) R.length Q lq Vq w (hq.ext hR)).mono (fun v w' ⟨h1, h2⟩ => ⟨h1, by rw [h2]; exact Only.refl No _⟩)))) ?_
  refine WD.p rfl (fun e w hR hh => by obtain ⟨h61, h11, -⟩ := hh; exact SG.g h61 (by simp) (o_mvh h11 ⟨rfl, Only.refl No _⟩)) ?_
  refine WD.p rfl (fun e w hR hh => by obtain ⟨h64, h61, -⟩ := hh; rw [← hwd] at hR; exact SG.g h61 (by simp) (o_call Try.call12 (lc h64 ln) ((high_spec _ p (R.length + 1) R.length Q lv U w ((hst.ext hy).ext hR)).mono (fun v w' ⟨h1, h2⟩ => ⟨h1, by rw [h2]; exact Only.refl No _⟩)))) ?_
  refine WD.p rfl (fun e w hR hh => by obtain ⟨h65, h63, h61, -⟩ := hh; exact SG.g h61 (by simp) (o_ne h63 h65 ⟨rfl, Only.refl No _⟩)) ?_
  refine WD.p rfl (fun e w hR hh => by obtain ⟨h66, h61, -⟩ := hh; exact SG.n (o_pickO h61 h66 ⟨rfl, Only.refl No _⟩)) ?_
  refine WD.p rfl (fun e w hR hh => by obtain ⟨h67, -⟩ := hh; exact SG.n (o_mvh h67 ⟨rfl, Only.refl No _⟩)) ?_
  refine WD.p rfl (fun e w hR hh => by obtain ⟨h68, h15, -⟩ := hh; exact SG.g h68 (by simp) (o_mvh h15 ⟨rfl, Only.refl No _⟩)) ?_
  refine WD.q (fun v w => By w v sv) (fun v w w2 hR hh => Sl.ext hh hR) rfl (fun e w hR hh => by obtain ⟨h69, h68, -⟩ := hh; rw [← hwd] at hR; exact SG.g h68 (by simp) (o_call Try.call8 (lc h69 ln) ((save_spec' _ q (R.length + 1) R.length Q lq Vq w (hq.ext hR) hQw (by omega) sv hsv0).mono (fun v w' hh => by obtain ⟨g, cap, h1, h2, h3, h4⟩ := hh; exact ⟨h3, h4⟩)))) ?_
  refine WD.p rfl (fun e w hR hh => by obtain ⟨h70, h68, -⟩ := hh; exact SG.g h68 (by simp) (o_cvBS TI23 TI5 TI9 rfl h70 ⟨rfl, Only.refl No _⟩)) ?_
  refine WD.p rfl (fun e w hR hh => by obtain ⟨h68, h14, -⟩ := hh; exact SG.g h68 (by simp) (o_mvh h14 ⟨rfl, Only.refl No _⟩)) ?_
  refine WD.p rfl (fun e w hR hh => by obtain ⟨h72, h68, -⟩ := hh; rw [← hwd] at hR; exact SG.g h68 (by simp) (o_cvBS TI23 TI5 TI9 h72 (Sl.ext (Sl.ext hSv hy) hR) ⟨rfl, Only.refl No _⟩)) ?_
  refine WD.p rfl (fun e w hR hh => by obtain ⟨h73, h71, h68, -⟩ := hh; exact SG.g h68 (by simp) (o_neT h71 h73 ⟨rfl, Only.refl No _⟩)) ?_
  refine WD.p rfl (fun e w hR hh => by obtain ⟨h74, h68, -⟩ := hh; exact SG.n (o_pickO h68 h74 ⟨rfl, Only.refl No _⟩)) ?_
  rintro e w hR ⟨h75, h74, h73, h72, h71, h70, h69, h68, h67, h66, h65, h64, h63, h62, h61, h60, h59, h58, h57, h56, h55, h54, h53, h52, h51, h50, h49, h48, h47, h46, h0, h2, h3, h4, h11, h12, h14, h15, h16, -⟩
  rw [← hwd] at hR
  replace hq := hq.ext hR
  replace hy := hy.tr hR
  clear hR
  have hR := hR0w
  refine W.condF' h75 (by simp) ?_
  refine W.skip ?_
  refine W.seq ?_
  refine W.region ?_
  refine WL.c rfl (o_mvh h2 ?_)
  refine WL.c rfl (o_mvh h14 ?_)
  refine WL.c rfl (o_len TI23 rfl ?_)
  refine WL.c rfl (o_call Try.call13 (lc rfl (lc rfl ln)) ((rest_spec at_ (sv.length : Int) _ (by omega) (by omega)).mono ?_))
  rintro v79 w79 ⟨rfl, hw79⟩
  replace hw79 := hw79.symm
  subst hw79
  have hmod := modN at_ hsp
  rw [hmod.1]
  obtain ⟨kk, hkk⟩ : ∃ kk, kk = (at_ % (sv.length : Int)).toNat := ⟨_, rfl⟩
  rw [← hkk] at hmod ⊢
  replace hmod := hmod.2
  refine WL.c rfl (o_ash (show _ = Value.int _ _ from rfl) ?_)
  refine WL.nil ?_
  refine W.seq ?_
  refine W.region ?_
  refine WL.c rfl (o_mvh h14 ?_)
  refine WL.c rfl (o_mvh (show _ = Value.int _ _ from rfl) ?_)
  refine WL.c rfl (o_slv (h := kk) TI23 TI5 rfl Lo.n (Hi.s rfl) (Nat.zero_le _) (by omega) ?_)
  rw [sliced0]
  refine WL.c rfl (o_call Try.call9 (lc rfl ln) ((load_spec _ (sv.take kk) _ (by_front (Sl.ext hSv hy) rfl (by omega)) (by rw [List.length_take]; omega)).mono ?_))
  rintro v84 w84 ⟨-, hbad⟩
  obtain ⟨rfl, hx84⟩ := hbad 20 kk (by rw [hsv0] at hmod ⊢; exact rdS_cut hmod (by omega) (by omega) (by omega) (by omega) hQw)
  replace hq := hq.ext hx84
  replace hy := hy.tr hx84
  refine WL.c rfl (o_mvh (by first | exact (show _ = Value.tuple _ from rfl) | exact rfl) ?_)
  refine WL.c rfl (o_ext rfl rfl ?_)
  refine WL.c rfl (o_ext rfl rfl ?_)
  refine WL.c rfl (o_alB TI31 ?_)
  intro w19 hC19 hx19 hs19
  have hy19 := hy.size
  replace hq := hq.ext hx19
  replace hy := hy.tr hx19
  refine WL.c rfl (o_ash (by first | exact (show _ = Value.pointer _ from rfl) | exact rfl) ?_)
  refine WL.u (o_stA TI31 rfl (show _ = Value.agg #[.int .i64 20, .int .i64 (kk : Int)] from rfl) rfl rfl hC19 rfl ?_)
  intro w20 hB19 ho19 hs20
  replace hy := hy.trans' ho19 (fun _ h => h) (fun k hk he => by omega)
  replace hq := hq.only ho19 (fun k hk he => by subst he; rcases hk with hk | hk | ⟨j, hj, hk⟩; rw [hk, hq.cell] at hC19; cases hC19; exact own_off hq.rows.row hC19 (by decide) hk; exact own_off (hq.rows.tabs.row j hj) hC19 (by decide) hk)
  have hq20 := hq
  have hy20 := hy
  refine WL.nil ?_
  refine W.seq ?_
  refine W.seq ?_
  refine W.region ?_
  refine WL.c rfl (o_fa 0 TI31 rfl TI29 rfl rfl ?_)
  refine WL.c rfl (o_ld TI29 rfl rfl (cell_of hB19 rfl) ?_)
  refine WL.c rfl (o_call Try.call10 (lc rfl ln) ((num_spec _ _).mono ?_))
  rintro v89 w89 ⟨rfl, hw89⟩
  replace hw89 := hw89.symm
  subst hw89
  refine WL.c rfl (o_ne rfl rfl ?_)
  refine WL.c rfl (o_mvh (show _ = Value.bool _ from rfl) ?_)
  refine WL.g rfl (by simp) rfl (o_fa 1 TI31 rfl TI3 rfl rfl ?_)
  refine WL.g rfl (by simp) rfl (o_ld TI3 rfl rfl (cell_of hB19 rfl) ?_)
  refine WL.g rfl (by simp) rfl (o_mvh (show _ = Value.int _ _ from rfl) ?_)
  refine WL.g rfl (by simp) rfl (o_ne rfl rfl ?_)
  refine WL.c rfl (o_pickO rfl rfl ?_)
  refine WL.nil ?_
  refine W.condF' rfl (by simp) ?_
  refine W.skip ?_
  refine W.seq ?_
  refine W.seq ?_
  refine W.region ?_
  refine WL.c rfl (o_mvh h3 ?_)
  refine WL.c rfl (o_lenR TI23 rfl (Sl.ext hX hy) ?_)
  refine WL.c rfl (o_gt rfl rfl ?_)
  refine WL.nil ?_
  refine W.cut (fun e1 w1 => e1 0 = v ∧ e1 4 = yv ∧ e1 12 = ov ∧ e1 15 = .pointer (some ⟨q, 0, none⟩) ∧ ∃ lq' Vq', Stk w1 w40.heap.size q (R.length + 1) R.length Q lq' Vq' ∧ Ext w40 w1) ?_ ?_
  · -- both ways
    refine W.cond rfl (fun c99 => ?_) (fun c99 => ?_)
    · try simp only [decide_eq_true_eq, decide_eq_false_iff_not, Bool.not_eq_true', Bool.not_eq_false', Bool.and_eq_true, Bool.or_eq_true, Bool.and_eq_false_iff, Bool.or_eq_false_iff] at c99
      have hxp : 0 < xs.length := by omega
      refine W.seq ?_
      refine W.region ?_
      refine WL.c rfl (o_mvh h14 ?_)
      refine WL.c rfl (o_apO (w40.heap.size) TI23 TI5 (show _ = Value.slice _ _ _ from rfl) rfl (World.ownsRow_nil _ _ _ _) (Sl.ext hSv hy) rfl (by decide) one_bv (by rw [maxLen_eq]; omega) (by omega) hy.size ?_)
      intro v102 w102 hown102 ho102 hb102 hk102
      rw [Nat.zero_add, List.nil_append] at hown102
      have hx102 : Ext w20 w102 := ho102.mono (fun _ _ h => by cases h)
      replace hq := hq.ext hx102
      replace hy := hy.tr hx102
      refine WL.c rfl (o_mvh h3 ?_)
      refine WL.c rfl (o_apW w40.heap.size TI23 TI5 (show _ = v102 from rfl) rfl hown102 (Sl.ext hX hy) hxp rfl (by decide) one_bv (by rw [maxLen_eq]; omega) (by omega) hy.size ?_)
      intro v104 w104 hown104 ho104
      have hb4 : ∀ k, v102.ownBlock = some k → w20.heap.size ≤ k := fun k hk => by
        rcases hb102 with hb | hb
        · rw [hb] at hk; cases hk
        · rw [hb] at hk; cases hk; exact Nat.le_refl _
      have hx104 : Ext w20 w104 := hx102.trans' ho104 (fun _ h => h) (fun k hk hF => by have := hb4 k hF; omega)
      replace hq := hq20.ext hx104
      replace hy := hy20.tr hx104
      have hB104 : By w104 v104 (sv ++ xs) := by
        have := Sl.own hown104
        rw [← List.map_append] at this
        show Sl w104 1 v104 (sv ++ xs).length _
        rw [List.length_append]; exact this
      refine WL.c rfl (o_call Try.call9 (lc rfl ln) ((load_spec _ (sv ++ xs) _ hB104 (by rw [List.length_append]; omega)).mono ?_))
      rintro v105 w105 ⟨-, hbad⟩
      obtain ⟨rfl, hx105⟩ := hbad 124 sv.length (by rw [hsv0]; exact rdS_more (by intro he; rw [he] at hxp; simp at hxp) (by omega) (by omega) (by omega) (by omega) hQw)
      replace hq := hq.ext hx105
      replace hy := hy.tr hx105
      refine WL.c rfl (o_mvh (by first | exact (show _ = Value.tuple _ from rfl) | exact rfl) ?_)
      refine WL.c rfl (o_ext rfl rfl ?_)
      refine WL.c rfl (o_ext rfl rfl ?_)
      refine WL.c rfl (o_alB TI31 ?_)
      intro w21 hC21 hx21 hs21
      have hy21 := hy.size
      replace hq := hq.ext hx21
      replace hy := hy.tr hx21
      refine WL.c rfl (o_ash (by first | exact (show _ = Value.pointer _ from rfl) | exact rfl) ?_)
      refine WL.u (o_stA TI31 rfl (show _ = Value.agg #[.int .i64 124, .int .i64 (sv.length : Int)] from rfl) rfl rfl hC21 rfl ?_)
      intro w22 hB21 ho21 hs22
      replace hy := hy.trans' ho21 (fun _ h => h) (fun k hk he => by omega)
      replace hq := hq.only ho21 (fun k hk he => by subst he; rcases hk with hk | hk | ⟨j, hj, hk⟩; rw [hk, hq.cell] at hC21; cases hC21; exact own_off hq.rows.row hC21 (by decide) hk; exact own_off (hq.rows.tabs.row j hj) hC21 (by decide) hk)
      refine WL.nil ?_
      refine W.seq ?_
      refine W.region ?_
      refine WL.c rfl (o_fa 0 TI31 rfl TI29 rfl rfl ?_)
      refine WL.c rfl (o_ld TI29 rfl rfl (cell_of hB21 rfl) ?_)
      refine WL.c rfl (o_call Try.call10 (lc rfl ln) ((num_spec _ _).mono ?_))
      rintro v110 w110 ⟨rfl, hw110⟩
      replace hw110 := hw110.symm
      subst hw110
      refine WL.c rfl (o_ne rfl rfl ?_)
      refine WL.c rfl (o_mvh (show _ = Value.bool _ from rfl) ?_)
      refine WL.g rfl (by simp) rfl (o_fa 1 TI31 rfl TI3 rfl rfl ?_)
      refine WL.g rfl (by simp) rfl (o_ld TI3 rfl rfl (cell_of hB21 rfl) ?_)
      refine WL.g rfl (by simp) rfl (o_mvh h14 ?_)
      refine WL.g rfl (by simp) rfl (o_len TI23 rfl ?_)
      refine WL.g rfl (by simp) rfl (o_ne rfl rfl ?_)
      refine WL.c rfl (o_pickO rfl rfl ?_)
      refine WL.nil ?_
      refine W.condF' rfl (by simp) ?_
      refine W.skip ?_
      first
        | exact ⟨h0, h4, h12, h15, lq, Vq, hq, hy⟩
        | exact ⟨rfl, rfl, rfl, rfl, lq, Vq, hq, hy⟩
    · try simp only [decide_eq_true_eq, decide_eq_false_iff_not, Bool.not_eq_true', Bool.not_eq_false', Bool.and_eq_true, Bool.or_eq_true, Bool.and_eq_false_iff, Bool.or_eq_false_iff] at c99
      refine W.skip ?_
      first
        | exact ⟨h0, h4, h12, h15, lq, Vq, hq, hy⟩
        | exact ⟨rfl, rfl, rfl, rfl, lq, Vq, hq, hy⟩
  rintro e w ⟨h0, h4, h12, h15, lq, Vq, hq, hy⟩
  refine W.seq ?_
  refine W.seq ?_
  have hl120 : Sl w 7 ov Q.length (frows Q Uo) := Sl.own (hR0w.ext hy).row
  refine W.region ?_
  refine WL.c rfl (o_mvh h12 ?_)
  refine WL.c rfl (o_lenR TI22 rfl hl120 ?_)
  refine WL.c rfl (o_subi rfl rfl (by omega) ?_)
  refine WL.c rfl (o_ash (show _ = Value.int _ _ from rfl) ?_)
  refine WL.nil ?_
  refine W.block ?_
  refine W.loop (fun e w => ∃ (m : Nat) (lq : Value) (Vq : Nat → Value), m ≤ Q.length ∧ e 0 = v ∧ e 4 = yv ∧ e 12 = ov ∧ e 15 = .pointer (some ⟨q, 0, none⟩) ∧ e 22 = .int .i64 ((m : Int) - 1) ∧ Stk w w40.heap.size q (R.length + 1) R.length (Q.take m) lq Vq ∧ Ext w40 w) (fun e w => (intOf (e 22) + 1).toNat) ?_ ?_
  · exact ⟨Q.length, lq, Vq, Nat.le_refl _, h0, h4, h12, h15, rfl, by rw [List.take_length]; exact hq, hy⟩
  rintro e w ⟨m, lq, Vq, hm, h0, h4, h12, h15, h22, hst2, hy⟩
  have hm22 := h22
  have hlk : (Q.take m).length = m := by rw [List.length_take]; omega
  refine W.seq ?_
  refine W.seq ?_
  refine W.region ?_
  refine WL.c rfl (o_mvh h22 ?_)
  refine WL.c rfl (o_ge rfl rfl ?_)
  refine WL.nil ?_
  refine W.cond rfl (fun c123 => ?_) (fun c123 => ?_)
  · try simp only [decide_eq_true_eq, decide_eq_false_iff_not, Bool.not_eq_true', Bool.not_eq_false', Bool.and_eq_true, Bool.or_eq_true, Bool.and_eq_false_iff, Bool.or_eq_false_iff] at c123
    refine W.skip ?_
    refine W.seq ?_
    refine W.block ?_
    refine W.seq ?_
    obtain ⟨m, rfl⟩ : ∃ m', m = m' + 1 := ⟨m - 1, by omega⟩
    have hm1 : m < Q.length := by omega
    have htop : topF (Q.take (m + 1)) = Q[m] := take_last hm1
    refine W.region ?_
    refine WL.c rfl (o_mvh h15 ?_)
    refine WL.c rfl (o_call Try.call14 (lc rfl ln) ((pop_spec w40.heap.size q (R.length + 1) R.length (Q.take (m + 1)) lq Vq _ hst2).mono ?_))
    rintro v128 w128 ⟨tv, rfl, hcl, lq2, Vq2, t, htv⟩
    rw [htop] at hcl ⊢
    rw [show emptyE (Q.take (m + 1)) = 0 by rw [emptyE, if_neg (by omega)]]
    have htt : (Q.take (m + 1)).take ((Q.take (m + 1)).length - 1) = Q.take m := by rw [hlk, Nat.add_sub_cancel, List.take_take, Nat.min_eq_left (by omega)]
    replace hy := t.ext hy (Nat.le_refl _) hst2
    have hst3 := t.stk
    rw [htt] at hst3
    have hSt := Clipd.In hcl
    refine WL.c rfl (o_mvh (by first | exact (show _ = Value.tuple _ from rfl) | exact rfl) ?_)
    refine WL.c rfl (o_ext rfl rfl ?_)
    refine WL.c rfl (o_ext rfl rfl ?_)
    refine WL.c rfl (o_alB TI39 ?_)
    intro w12 hC12 hx12 hs12
    refine WL.u (o_stA TI39 rfl (show _ = Value.agg (fcells Q[m] tv).toArray from rfl) rfl (fcells_one (by obtain ⟨a, c, rfl⟩ := hSt.isSlice; rfl)) hC12 rfl ?_)
    intro w13 hB12 ho12 hs13
    have h80s := hy.size
    have hx13 : Ext w128 w13 := hx12.trans' ho12 (fun _ h => h) (fun k hk he => by omega)
    replace hSt := Sl.ext hSt hx13
    replace hst3 := hst3.ext hx13
    replace hy := hy.tr hx13
    obtain ⟨c12, hc12⟩ : ∃ c12, c12 = w128.heap.size := ⟨_, rfl⟩
    rw [← hc12] at hB12 ⊢
    refine WL.c rfl (o_ash (show _ = Value.int _ _ from rfl) ?_)
    refine WL.nil ?_
    refine W.seq ?_
    obtain ⟨wd, hwd⟩ : ∃ wd, wd = w13.drew := ⟨_, rfl⟩
    have hxd : Ext w13 wd := hwd ▸ Only.drew w13
    replace hSt := Sl.ext hSt hxd
    replace hst3 := hst3.ext hxd
    replace hy := hy.tr hxd
    replace hB12 := hxd.blk hB12 (fun h => h)
    have hRd := hR0w.ext hy
    obtain ⟨go, co, hov, hob, hoc⟩ := hRd.at (k := m) (by omega)
    rw [getD_at hm1] at hoc
    have hIo : In wd (Uo m) Q[m].tab := by have := hRd.tab (k := m) (by omega); rw [tabl, getD_at hm1] at this; exact this
    have hRm := hQw Q[m] (List.getElem_mem hm1)
    refine W.draw (Ext) [(0, fun v _ => v = _), (4, fun v _ => v = _), (12, fun v _ => v = _), (15, fun v _ => v = _), (22, fun v _ => v = _), (23, fun v _ => v = _), (24, fun v _ => v = _)] rfl (by kernel_rfl) (Only.refl No) (fun _ _ _ h k => h.trans k) ⟨Mono.eq, Mono.eq, Mono.eq, Mono.eq, Mono.eq, Mono.eq, Mono.eq, trivial⟩ ⟨h0, h4, h12, h15, h22, rfl, rfl, trivial⟩ ?_
    refine WD.p rfl (fun e w hR hh => by obtain ⟨h24, -⟩ := hh; exact SG.n (o_mvh h24 ⟨rfl, Only.refl No _⟩)) ?_
    refine WD.p rfl (fun e w hR hh => by obtain ⟨h131, -⟩ := hh; exact SG.n (o_call Try.call10 (lc h131 ln) ((num_spec _ _).mono (fun v w' ⟨h1, h2⟩ => ⟨h1, by rw [h2]; exact Only.refl No _⟩)))) ?_
    refine WD.p rfl (fun e w hR hh => by obtain ⟨h132, -⟩ := hh; exact SG.n (o_ne h132 rfl ⟨rfl, Only.refl No _⟩)) ?_
    refine WD.p rfl (fun e w hR hh => by obtain ⟨h133, -⟩ := hh; exact SG.n (o_mvh h133 ⟨rfl, Only.refl No _⟩)) ?_
    refine WD.p rfl (fun e w hR hh => by obtain ⟨h134, h23, -⟩ := hh; rw [← hwd] at hR; exact SG.g h134 (by simp) (o_ldA TI39 rfl h23 (show Cells w c12 0 (fcells Q[m] tv) from Cells.of (hR.blk hB12 (fun h => h)) 0 _ (by simp)) rfl ⟨rfl, Only.refl No _⟩)) ?_
    refine WD.p rfl (fun e w hR hh => by obtain ⟨h134, h12, -⟩ := hh; exact SG.g h134 (by simp) (o_mvh h12 ⟨rfl, Only.refl No _⟩)) ?_
    refine WD.p rfl (fun e w hR hh => by obtain ⟨h134, h22, -⟩ := hh; exact SG.g h134 (by simp) (o_mvh h22 ⟨rfl, Only.refl No _⟩)) ?_
    refine WD.p rfl (fun e w hR hh => by obtain ⟨h137, h136, h134, -⟩ := hh; exact SG.g h134 (by simp) (o_ixB (i := m) TI22 TI39 (h136.trans hov) (h137.trans (by congr 1; omega)) (by omega) ⟨rfl, Only.refl No _⟩)) ?_
    refine WD.p rfl (fun e w hR hh => by obtain ⟨h138, h134, -⟩ := hh; rw [← hwd] at hR; exact SG.g h134 (by simp) (o_ldA TI39 rfl h138 (show Cells w go (0 + m * 7) (fcells Q[m] (Uo m)) by rw [Nat.zero_add]; exact hoc.only hR (fun h => h)) rfl ⟨rfl, Only.refl No _⟩)) ?_
    refine WD.p rfl (fun e w hR hh => by obtain ⟨h139, h135, h134, -⟩ := hh; rw [← hwd] at hR; exact SG.g h134 (by simp) (o_call Try.call15 (lc h135 (lc h139 ln)) ((same_spec Q[m] tv (Uo m) w (Sl.ext hSt hR) (Sl.ext hIo hR) (by have := fwhole_tab hRm; omega)).mono (fun v w' hh => hh)))) ?_
    refine WD.p rfl (fun e w hR hh => by obtain ⟨h140, h134, -⟩ := hh; exact SG.g h134 (by simp) (o_not' h140 ⟨rfl, Only.refl No _⟩)) ?_
    refine WD.p rfl (fun e w hR hh => by obtain ⟨h141, h134, -⟩ := hh; exact SG.n (o_pickO h134 h141 ⟨rfl, Only.refl No _⟩)) ?_
    refine WD.p rfl (fun e w hR hh => by obtain ⟨h142, -⟩ := hh; exact SG.n (o_mvh h142 ⟨rfl, Only.refl No _⟩)) ?_
    refine WD.p rfl (fun e w hR hh => by obtain ⟨h143, h15, -⟩ := hh; exact SG.g h143 (by simp) (o_mvh h15 ⟨rfl, Only.refl No _⟩)) ?_
    refine WD.p rfl (fun e w hR hh => by obtain ⟨h144, h143, -⟩ := hh; rw [← hwd] at hR; exact SG.g h143 (by simp) (o_call Try.call11 (lc h144 ln) ((len_spec w40.heap.size q (R.length + 1) R.length (Q.take m) lq2 Vq2 w (hst3.ext hR)).mono (fun v w' ⟨h1, h2⟩ => ⟨h1, by rw [h2]; exact Only.refl No _⟩)))) ?_
    refine WD.p rfl (fun e w hR hh => by obtain ⟨h143, h22, -⟩ := hh; exact SG.g h143 (by simp) (o_mvh h22 ⟨rfl, Only.refl No _⟩)) ?_
    refine WD.p rfl (fun e w hR hh => by obtain ⟨h146, h145, h143, -⟩ := hh; exact SG.g h143 (by simp) (o_ne h145 h146 ⟨rfl, Only.refl No _⟩)) ?_
    refine WD.p rfl (fun e w hR hh => by obtain ⟨h147, h143, -⟩ := hh; exact SG.n (o_pickO h143 h147 ⟨rfl, Only.refl No _⟩)) ?_
    rintro e w hR ⟨h148, h147, h146, h145, h144, h143, h142, h141, h140, h139, h138, h137, h136, h135, h134, h133, h132, h131, h0, h4, h12, h15, h22, h23, h24, -⟩
    rw [← hwd] at hR
    refine W.condF' h148 (by simp; omega) ?_
    refine W.skip ?_
    refine W.region ?_
    refine WL.c rfl (o_mvh h22 ?_)
    refine WL.c rfl (o_subi rfl rfl (by omega) ?_)
    refine WL.c rfl (o_ash (show _ = Value.int _ _ from rfl) ?_)
    refine WL.nil ?_
    refine ⟨⟨m, lq2, Vq2, by omega, h0, h4, h12, h15, ?_, hst3.ext hR, hy.tr hR⟩, ?_⟩
    · show Value.int _ (((m + 1 : Nat) : Int) - 1 - 1) = _; congr 1; omega
    · show (((m + 1 : Nat) : Int) - 1 - 1 + 1).toNat < _
      rw [hm22]; simp only [intOf]; omega
  · try simp only [decide_eq_true_eq, decide_eq_false_iff_not, Bool.not_eq_true', Bool.not_eq_false', Bool.and_eq_true, Bool.or_eq_true, Bool.and_eq_false_iff, Bool.or_eq_false_iff] at c123
    refine W.exit ?_
    refine W.seq ?_
    refine W.seq ?_
    have hm0 : m = 0 := by omega
    subst hm0
    rw [List.take_zero] at hst2
    refine W.region ?_
    refine WL.c rfl (o_ash (show _ = Value.int _ _ from rfl) ?_)
    refine WL.nil ?_
    refine W.block ?_
    refine W.loop (fun e w => ∃ (k hi : Nat) (lq : Value) (Vq : Nat → Value), k ≤ R.length + 1 ∧ e 0 = v ∧ e 4 = yv ∧ e 15 = .pointer (some ⟨q, 0, none⟩) ∧ e 25 = .int .i64 (k : Int) ∧ Stk w w40.heap.size q (R.length + 1) hi (List.replicate k fz) lq Vq ∧ Ext w40 w) (fun e w => R.length + 1 - (intOf (e 25)).toNat) ?_ ?_
    · exact ⟨0, R.length, lq, Vq, Nat.zero_le _, h0, h4, h15, rfl, hst2, hy⟩
    rintro e w ⟨k, hi, lq, Vq, hk, h0, h4, h15, h25, hst2, hy⟩
    have hm25 := h25
    have hFw := hF.ext hy
    have hlr : (List.replicate k fz).length = k := List.length_replicate
    refine W.seq ?_
    refine W.seq ?_
    refine W.region ?_
    refine WL.cut (fun e1 w1 => e1 156 = .bool (decide (k ≤ R.length)) ∧ e1 0 = v ∧ e1 4 = yv ∧ e1 15 = .pointer (some ⟨q, 0, none⟩) ∧ e1 25 = .int .i64 (k : Int) ∧ w1 = w) ?_ ?_
    · -- region 25
      refine WL.c rfl (o_mvh h25 ?_)
      refine WL.c rfl (o_mvh h0 ?_)
      refine WL.c rfl (o_lenR TI22 rfl hFw.sl ?_)
      refine WL.c rfl (o_le rfl rfl ?_)
      refine WL.c rfl (o_mvh (show _ = Value.bool _ from rfl) ?_)
      refine WL.sp 4 rfl (fun g153 => ?_) (fun g153 => ?_)
      · skip
        refine WL.g rfl (g153) rfl (o_mvh h25 ?_)
        refine WL.g rfl (g153) rfl (o_le rfl rfl ?_)
        refine WL.c rfl (o_pickA rfl rfl ?_)
        exact WL.nil (⟨congrArg Value.bool (by rw [Bool.eq_iff_iff]; simp only [decide_eq_true_eq, decide_eq_false_iff_not, Bool.and_eq_true, Bool.false_eq_true, false_iff, true_and] at g153 ⊢; omega), h0, h4, h15, h25, rfl⟩)
      · skip
        refine WL.s rfl (g153) rfl ?_
        refine WL.s rfl (g153) rfl ?_
        refine WL.c rfl (o_pickF rfl (g153) ?_)
        exact WL.nil (⟨congrArg Value.bool (by rw [Bool.eq_iff_iff]; simp only [decide_eq_true_eq, decide_eq_false_iff_not, Bool.and_eq_true, Bool.false_eq_true, false_iff, true_and] at g153 ⊢; omega), h0, h4, h15, h25, rfl⟩)
    rintro e w ⟨h156, h0, h4, h15, h25, rfl⟩
    refine W.cond h156 (fun c156 => ?_) (fun c156 => ?_)
    · try simp only [decide_eq_true_eq, decide_eq_false_iff_not, Bool.not_eq_true', Bool.not_eq_false', Bool.and_eq_true, Bool.or_eq_true, Bool.and_eq_false_iff, Bool.or_eq_false_iff] at c156
      refine W.skip ?_
      refine W.seq ?_
      refine W.block ?_
      refine W.seq ?_
      refine W.region ?_
      refine WL.c rfl (o_mvh h15 ?_)
      refine WL.c rfl (o_bldC (cs := [(.int .i64 0), (.int .i64 0), (.int .i64 0), (.int .i64 (-1)), (.int .i64 (-1)), (.int .i64 0), (.slice none 0 0)]) TI39 (Sizes.cons TI3 (Sizes.cons TI3 (Sizes.cons TI3 (Sizes.cons TI3 (Sizes.cons TI3 (Sizes.cons TI3 (Sizes.cons TI37 Sizes.nil))))))) rfl (lcp (show _ = Value.int _ _ from rfl) (lcp (show _ = Value.int _ _ from rfl) lnp)) rfl rfl ?_)
      refine WL.c rfl (o_call Try.call16 (lc rfl (lc rfl ln)) ((push_spec w40.heap.size q (R.length + 1) hi (List.replicate k fz) lq Vq fz (.slice none 0 0) _ hst2 (Sl.nil _ _) (by simp [fz])).mono ?_))
      rintro v161 w161 ⟨rfl, lq3, Vq3, t⟩
      rw [pushW (by omega) fz_w] at t ⊢
      replace hy := t.ext hy (Nat.le_refl _) hst2
      have hst3 := t.stk
      refine WL.c rfl (o_call Try.call10 (lc rfl ln) ((num_spec _ _).mono ?_))
      rintro v162 w162 ⟨rfl, hw162⟩
      replace hw162 := hw162.symm
      subst hw162
      refine WL.c rfl (o_ne rfl rfl ?_)
      refine WL.nil ?_
      refine W.condF' rfl (by simp) ?_
      refine W.skip ?_
      refine W.region ?_
      refine WL.c rfl (o_mvh h25 ?_)
      refine WL.c rfl (o_addi rfl rfl (by omega) ?_)
      refine WL.c rfl (o_ash (show _ = Value.int _ _ from rfl) ?_)
      refine WL.nil ?_
      rw [reps] at hst3
      refine ⟨⟨k + 1, _, lq3, Vq3, by omega, h0, h4, h15, rfl, hst3, hy⟩, ?_⟩
      show R.length + 1 - ((k : Int) + 1).toNat < _
      rw [hm25]; simp only [intOf]; omega
    · try simp only [decide_eq_true_eq, decide_eq_false_iff_not, Bool.not_eq_true', Bool.not_eq_false', Bool.and_eq_true, Bool.or_eq_true, Bool.and_eq_false_iff, Bool.or_eq_false_iff] at c156
      refine W.exit ?_
      refine W.seq ?_
      refine W.seq ?_
      have hkR : k = R.length + 1 := by omega
      refine W.region ?_
      refine WL.c rfl (o_mvh h15 ?_)
      refine WL.c rfl (o_bldC (cs := [(.int .i64 0), (.int .i64 0), (.int .i64 0), (.int .i64 0), (.int .i64 0), (.int .i64 0), (.slice none 0 0)]) TI39 (Sizes.cons TI3 (Sizes.cons TI3 (Sizes.cons TI3 (Sizes.cons TI3 (Sizes.cons TI3 (Sizes.cons TI3 (Sizes.cons TI37 Sizes.nil))))))) rfl lnp rfl rfl ?_)
      refine WL.c rfl (o_call Try.call16 (lc rfl (lc rfl ln)) ((push_spec w40.heap.size q (R.length + 1) hi (List.replicate k fz) lq Vq Fr.nil (.slice none 0 0) _ hst2 (Sl.nil _ _) (by simp [Fr.nil])).mono ?_))
      rintro v166 w166 ⟨rfl, lq3, Vq3, t⟩
      rw [pushF (by omega)] at t ⊢
      replace hy := t.ext hy (Nat.le_refl _) hst2
      have hYw := Sl.ext hY hy
      refine WL.c rfl (o_call Try.call10 (lc rfl ln) ((num_spec _ _).mono ?_))
      rintro v167 w167 ⟨rfl, hw167⟩
      replace hw167 := hw167.symm
      subst hw167
      refine WL.c rfl (o_ne rfl rfl ?_)
      refine WL.nil ?_
      refine W.condF' rfl (by simp) ?_
      refine W.skip ?_
      refine W.seq ?_
      refine W.seq ?_
      refine W.region ?_
      refine WL.c rfl (o_mvh h4 ?_)
      refine WL.c rfl (o_lenR TI23 rfl hYw ?_)
      refine WL.c rfl (o_gt rfl rfl ?_)
      refine WL.nil ?_
      refine W.cut (fun e1 w1 => ∃ (zv : Value) (zs : List UInt8), zs.length ≤ 3000 ∧ e1 4 = zv ∧ By w1 zv zs ∧ Ext w40 w1) ?_ ?_
      · -- both ways
        refine W.cond rfl (fun c171 => ?_) (fun c171 => ?_)
        · try simp only [decide_eq_true_eq, decide_eq_false_iff_not, Bool.not_eq_true', Bool.not_eq_false', Bool.and_eq_true, Bool.or_eq_true, Bool.and_eq_false_iff, Bool.or_eq_false_iff] at c171
          refine W.region ?_
          refine WL.c rfl (o_mvh h4 ?_)
          refine WL.c rfl (o_sl TI23 TI5 rfl hYw Lo.n (Hi.s (h := 3000) rfl) (by omega) (by omega) ?_)
          intro v173 hb173 hS173
          refine WL.c rfl (o_ash (by first | exact (show _ = Value.slice _ _ _ from rfl) | exact rfl) ?_)
          refine WL.nil ?_
          first
            | (have e18 : ((ys.map bv).drop (0 * 1)).take ((3000 - 0) * 1) = (ys.take 3000).map bv := by rw [Nat.zero_mul, List.drop_zero, List.map_take]
               have hl18 : (ys.take 3000).length = 3000 := by rw [List.length_take]; omega
               rw [e18] at hS173
               refine ⟨v173, ys.take 3000, by omega, rfl, ?_, hy⟩
               show Sl _ 1 v173 (ys.take 3000).length _
               rw [hl18]; exact hS173)
            | exact ⟨yv, ys, by omega, h4, hYw, hy⟩
        · try simp only [decide_eq_true_eq, decide_eq_false_iff_not, Bool.not_eq_true', Bool.not_eq_false', Bool.and_eq_true, Bool.or_eq_true, Bool.and_eq_false_iff, Bool.or_eq_false_iff] at c171
          refine W.skip ?_
          first
            | (have e18 : ((ys.map bv).drop (0 * 1)).take ((3000 - 0) * 1) = (ys.take 3000).map bv := by rw [Nat.zero_mul, List.drop_zero, List.map_take]
               have hl18 : (ys.take 3000).length = 3000 := by rw [List.length_take]; omega
               rw [e18] at hS173
               refine ⟨v173, ys.take 3000, by omega, rfl, ?_, hy⟩
               show Sl _ 1 v173 (ys.take 3000).length _
               rw [hl18]; exact hS173)
            | exact ⟨yv, ys, by omega, h4, hYw, hy⟩
      rintro e w ⟨zv, zs, hzl, h4, hZ, hy⟩
      refine W.seq ?_
      rcases hz : rdS zs with ⟨s, a⟩ | ⟨e1, a⟩
      · skip
        skip
        refine W.region ?_
        refine WL.c rfl (o_mvh h4 ?_)
        refine WL.c rfl (o_call Try.call9 (lc rfl ln) ((load_spec zv zs _ hZ (by omega)).mono ?_))
        rintro v176 w176 ⟨hok, -⟩
        obtain ⟨q2, l2, V2, rfl, hq2, hx176⟩ := hok _ _ hz
        obtain ⟨hb1, hb2, hb3, hb4, hb5, hb6⟩ := rdS_back hz
        have hZ2 := Sl.ext hZ hx176
        replace hy := hy.tr hx176
        refine WL.c rfl (o_mvh (by first | exact (show _ = Value.tuple _ from rfl) | exact rfl) ?_)
        refine WL.c rfl (o_ext rfl rfl ?_)
        refine WL.c rfl (o_ext rfl rfl ?_)
        refine WL.c rfl (o_alB TI31 ?_)
        intro w27 hC27 hx27 hs27
        have hy27 := hy.size
        replace hq2 := hq2.ext hx27
        replace hy := hy.tr hx27
        replace hZ2 := Sl.ext hZ2 hx27
        refine WL.c rfl (o_ash (by first | exact (show _ = Value.pointer _ from rfl) | exact rfl) ?_)
        refine WL.u (o_stA TI31 rfl (show _ = Value.agg #[.int .i64 0, .int .i64 0] from rfl) rfl rfl hC27 rfl ?_)
        intro w29 hB27 ho27 hs29
        have hx29 : Ext w176 w29 := hx27.trans' ho27 (fun _ h => h) (fun k hk he => by omega)
        replace hy := hy.trans' ho27 (fun _ h => h) (fun k hk he => by omega)
        replace hq2 := hq2.only ho27 (fun k hk he => by subst he; rcases hk with hk | hk | ⟨j, hj, hk⟩; rw [hk] at hC27; exact absurd (cells_ty hq2.cell hC27) (by decide); exact own_off hq2.rows.row hC27 (by decide) hk; exact own_off (hq2.rows.tabs.row j hj) hC27 (by decide) hk)
        replace hZ2 := Sl.ext hZ (hx176.tr hx29)
        refine WL.nil ?_
        refine W.seq ?_
        obtain ⟨wd, hwd⟩ : ∃ wd, wd = w29.drew := ⟨_, rfl⟩
        have hxd : Ext w29 wd := hwd ▸ Only.drew w29
        replace hB27 := hxd.blk hB27 (fun h => h)
        refine W.draw (Ext) [(4, fun v _ => v = _), (26, fun v _ => v = _), (27, fun v _ => v = _)] rfl (by kernel_rfl) (Only.refl No) (fun _ _ _ h k => h.trans k) ⟨Mono.eq, Mono.eq, Mono.eq, trivial⟩ ⟨h4, rfl, rfl, trivial⟩ ?_
        refine WD.p rfl (fun e w hR hh => by obtain ⟨h27, -⟩ := hh; exact SG.n (o_fa 0 TI31 rfl TI29 rfl h27 ⟨rfl, Only.refl No _⟩)) ?_
        refine WD.p rfl (fun e w hR hh => by obtain ⟨h179, -⟩ := hh; rw [← hwd] at hR; exact SG.n (o_ld TI29 rfl h179 (cell_of (hR.blk hB27 (fun h => h)) rfl) ⟨rfl, Only.refl No _⟩)) ?_
        refine WD.p rfl (fun e w hR hh => by obtain ⟨h180, -⟩ := hh; exact SG.n (o_call Try.call10 (lc h180 ln) ((num_spec _ _).mono (fun v w' ⟨h1, h2⟩ => ⟨h1, by rw [h2]; exact Only.refl No _⟩)))) ?_
        refine WD.p rfl (fun e w hR hh => by obtain ⟨h181, -⟩ := hh; exact SG.n (o_ne h181 rfl ⟨rfl, Only.refl No _⟩)) ?_
        refine WD.p rfl (fun e w hR hh => by obtain ⟨h182, -⟩ := hh; exact SG.n (o_mvh h182 ⟨rfl, Only.refl No _⟩)) ?_
        refine WD.p rfl (fun e w hR hh => by obtain ⟨h183, h26, -⟩ := hh; exact SG.s h183 (by simp) ⟨rfl, Only.refl No _⟩) ?_
        refine WD.p rfl (fun e w hR hh => by obtain ⟨h184, h183, -⟩ := hh; exact SG.s h183 (by simp) ⟨rfl, Only.refl No _⟩) ?_
        refine WD.p rfl (fun e w hR hh => by obtain ⟨h185, h183, -⟩ := hh; exact SG.n (o_pickF h183 (by simp) ⟨rfl, Only.refl No _⟩)) ?_
        refine WD.p rfl (fun e w hR hh => by obtain ⟨h186, -⟩ := hh; exact SG.n (o_mvh h186 ⟨rfl, Only.refl No _⟩)) ?_
        refine WD.p rfl (fun e w hR hh => by obtain ⟨h187, h27, -⟩ := hh; exact SG.g h187 (rfl) (o_fa 0 TI31 rfl TI29 rfl h27 ⟨rfl, Only.refl No _⟩)) ?_
        refine WD.p rfl (fun e w hR hh => by obtain ⟨h188, h187, -⟩ := hh; rw [← hwd] at hR; exact SG.g h187 (rfl) (o_ld TI29 rfl h188 (cell_of (hR.blk hB27 (fun h => h)) rfl) ⟨rfl, Only.refl No _⟩)) ?_
        refine WD.p rfl (fun e w hR hh => by obtain ⟨h189, h187, -⟩ := hh; exact SG.g h187 (rfl) (o_call Try.call10 (lc h189 ln) ((num_spec _ _).mono (fun v w' ⟨h1, h2⟩ => ⟨h1, by rw [h2]; exact Only.refl No _⟩)))) ?_
        refine WD.p rfl (fun e w hR hh => by obtain ⟨h190, h187, -⟩ := hh; exact SG.g h187 (rfl) (o_eq h190 rfl ⟨rfl, Only.refl No _⟩)) ?_
        refine WD.p rfl (fun e w hR hh => by obtain ⟨h191, h187, -⟩ := hh; exact SG.g h187 (rfl) (o_mvh h191 ⟨rfl, Only.refl No _⟩)) ?_
        refine WD.p rfl (fun e w hR hh => by obtain ⟨h192, h26, -⟩ := hh; exact SG.g h192 (by simp) (o_mvh h26 ⟨rfl, Only.refl No _⟩)) ?_
        refine WD.p rfl (fun e w hR hh => by obtain ⟨h193, h192, -⟩ := hh; exact SG.g h192 (by simp) (o_neN (p := some ⟨q2, 0, none⟩) TI25 h193 rfl ⟨rfl, Only.refl No _⟩)) ?_
        refine WD.p rfl (fun e w hR hh => by obtain ⟨h194, h192, h187, -⟩ := hh; exact SG.g h187 (rfl) (o_pickA h192 h194 ⟨rfl, Only.refl No _⟩)) ?_
        refine WD.p rfl (fun e w hR hh => by obtain ⟨h195, h187, -⟩ := hh; exact SG.g h187 (rfl) (o_mvh h195 ⟨rfl, Only.refl No _⟩)) ?_
        refine WD.p rfl (fun e w hR hh => by obtain ⟨h196, h26, -⟩ := hh; exact SG.g h196 (by simp) (o_mvh h26 ⟨rfl, Only.refl No _⟩)) ?_
        refine WD.q (fun v w => By w v zs) (fun v w w2 hR hh => Sl.ext hh hR) rfl (fun e w hR hh => by obtain ⟨h197, h196, -⟩ := hh; rw [← hwd] at hR; exact SG.g h196 (by simp) (o_call Try.call8 (lc h197 ln) ((save_spec' _ q2 s.most s.high s.L l2 V2 w (hq2.ext (hxd.tr hR)) hb6 (by omega) zs hb1.symm).mono (fun v w' hh => by obtain ⟨g, cap, h1, h2, h3, h4⟩ := hh; exact ⟨h3, h4⟩)))) ?_
        refine WD.p rfl (fun e w hR hh => by obtain ⟨h198, h196, -⟩ := hh; exact SG.g h196 (by simp) (o_cvBS TI23 TI5 TI9 rfl h198 ⟨rfl, Only.refl No _⟩)) ?_
        refine WD.p rfl (fun e w hR hh => by obtain ⟨h196, h4, -⟩ := hh; exact SG.g h196 (by simp) (o_mvh h4 ⟨rfl, Only.refl No _⟩)) ?_
        refine WD.p rfl (fun e w hR hh => by obtain ⟨h200, h196, -⟩ := hh; rw [← hwd] at hR; exact SG.g h196 (by simp) (o_cvBS TI23 TI5 TI9 h200 (Sl.ext hZ2 (hxd.tr hR)) ⟨rfl, Only.refl No _⟩)) ?_
        refine WD.p rfl (fun e w hR hh => by obtain ⟨h201, h199, h196, -⟩ := hh; exact SG.g h196 (by simp) (o_eqT h199 h201 ⟨rfl, Only.refl No _⟩)) ?_
        refine WD.p rfl (fun e w hR hh => by obtain ⟨h202, h196, h187, -⟩ := hh; exact SG.g h187 (rfl) (o_pickA h196 h202 ⟨rfl, Only.refl No _⟩)) ?_
        refine WD.p rfl (fun e w hR hh => by obtain ⟨h203, h187, -⟩ := hh; exact SG.n (o_pickO h187 h203 ⟨rfl, Only.refl No _⟩)) ?_
        refine WD.p rfl (fun e w hR hh => by obtain ⟨h204, -⟩ := hh; exact SG.n (o_ash h204 ⟨rfl, Only.refl No _⟩)) ?_
        rintro e w hR ⟨h10, h204, h203, h202, h201, h200, h199, h198, h197, h196, h195, h194, h193, h192, h191, h190, h189, h188, h187, h186, h185, h184, h183, h182, h181, h180, h179, h4, h26, h27, -⟩
        refine W.ret ?_
        refine ret1v rfl h10 ?_
        exact ⟨congrArg Value.bool (by simp), hx28.tr ((hy.tr hxd).tr (hwd ▸ hR))⟩
      · skip
        skip
        refine W.region ?_
        refine WL.c rfl (o_mvh h4 ?_)
        refine WL.c rfl (o_call Try.call9 (lc rfl ln) ((load_spec zv zs _ hZ (by omega)).mono ?_))
        rintro v176 w176 ⟨-, hbad⟩
        obtain ⟨rfl, hx176⟩ := hbad _ _ hz
        have hne := rdS_bad_ne hz
        replace hy := hy.tr hx176
        refine WL.c rfl (o_mvh (by first | exact (show _ = Value.tuple _ from rfl) | exact rfl) ?_)
        refine WL.c rfl (o_ext rfl rfl ?_)
        refine WL.c rfl (o_ext rfl rfl ?_)
        refine WL.c rfl (o_alB TI31 ?_)
        intro w27 hC27 hx27 hs27
        have hy27 := hy.size
        replace hy := hy.tr hx27
        refine WL.c rfl (o_ash (by first | exact (show _ = Value.pointer _ from rfl) | exact rfl) ?_)
        refine WL.u (o_stA TI31 rfl (show _ = Value.agg #[.int .i64 (e1 : Int), .int .i64 (a : Int)] from rfl) rfl rfl hC27 rfl ?_)
        intro w29 hB27 ho27 hs29
        replace hy := hy.trans' ho27 (fun _ h => h) (fun k hk he => by omega)
        refine WL.nil ?_
        refine W.seq ?_
        obtain ⟨wd, hwd⟩ : ∃ wd, wd = w29.drew := ⟨_, rfl⟩
        have hxd : Ext w29 wd := hwd ▸ Only.drew w29
        replace hB27 := hxd.blk hB27 (fun h => h)
        refine W.draw (Ext) [(4, fun v _ => v = _), (26, fun v _ => v = _), (27, fun v _ => v = _)] rfl (by kernel_rfl) (Only.refl No) (fun _ _ _ h k => h.trans k) ⟨Mono.eq, Mono.eq, Mono.eq, trivial⟩ ⟨h4, rfl, rfl, trivial⟩ ?_
        refine WD.p rfl (fun e w hR hh => by obtain ⟨h27, -⟩ := hh; exact SG.n (o_fa 0 TI31 rfl TI29 rfl h27 ⟨rfl, Only.refl No _⟩)) ?_
        refine WD.p rfl (fun e w hR hh => by obtain ⟨h179, -⟩ := hh; rw [← hwd] at hR; exact SG.n (o_ld TI29 rfl h179 (cell_of (hR.blk hB27 (fun h => h)) rfl) ⟨rfl, Only.refl No _⟩)) ?_
        refine WD.p rfl (fun e w hR hh => by obtain ⟨h180, -⟩ := hh; exact SG.n (o_call Try.call10 (lc h180 ln) ((num_spec _ _).mono (fun v w' ⟨h1, h2⟩ => ⟨h1, by rw [h2]; exact Only.refl No _⟩)))) ?_
        refine WD.p rfl (fun e w hR hh => by obtain ⟨h181, -⟩ := hh; exact SG.n (o_ne h181 rfl ⟨rfl, Only.refl No _⟩)) ?_
        refine WD.p rfl (fun e w hR hh => by obtain ⟨h182, -⟩ := hh; exact SG.n (o_mvh h182 ⟨rfl, Only.refl No _⟩)) ?_
        refine WD.p rfl (fun e w hR hh => by obtain ⟨h183, h26, -⟩ := hh; exact SG.g h183 (by simp; omega) (o_mvh h26 ⟨rfl, Only.refl No _⟩)) ?_
        refine WD.p rfl (fun e w hR hh => by obtain ⟨h184, h183, -⟩ := hh; exact SG.g h183 (by simp; omega) (o_eqN (p := none) TI25 h184 rfl ⟨rfl, Only.refl No _⟩)) ?_
        refine WD.p rfl (fun e w hR hh => by obtain ⟨h185, h183, -⟩ := hh; exact SG.n (o_pickA h183 h185 ⟨rfl, Only.refl No _⟩)) ?_
        refine WD.p rfl (fun e w hR hh => by obtain ⟨h186, -⟩ := hh; exact SG.n (o_mvh h186 ⟨rfl, Only.refl No _⟩)) ?_
        refine WD.p rfl (fun e w hR hh => by obtain ⟨h187, h27, -⟩ := hh; exact SG.s h187 (by simp; omega) ⟨rfl, Only.refl No _⟩) ?_
        refine WD.p rfl (fun e w hR hh => by obtain ⟨h188, h187, -⟩ := hh; rw [← hwd] at hR; exact SG.s h187 (by simp; omega) ⟨rfl, Only.refl No _⟩) ?_
        refine WD.p rfl (fun e w hR hh => by obtain ⟨h189, h187, -⟩ := hh; exact SG.s h187 (by simp; omega) ⟨rfl, Only.refl No _⟩) ?_
        refine WD.p rfl (fun e w hR hh => by obtain ⟨h190, h187, -⟩ := hh; exact SG.s h187 (by simp; omega) ⟨rfl, Only.refl No _⟩) ?_
        refine WD.p rfl (fun e w hR hh => by obtain ⟨h191, h187, -⟩ := hh; exact SG.s h187 (by simp; omega) ⟨rfl, Only.refl No _⟩) ?_
        refine WD.p rfl (fun e w hR hh => by obtain ⟨h192, h26, -⟩ := hh; exact SG.z h192 ⟨rfl, Only.refl No _⟩) ?_
        refine WD.p rfl (fun e w hR hh => by obtain ⟨h193, h192, -⟩ := hh; exact SG.z h192 ⟨rfl, Only.refl No _⟩) ?_
        refine WD.p rfl (fun e w hR hh => by obtain ⟨h194, h192, h187, -⟩ := hh; exact SG.s h187 (by simp; omega) ⟨rfl, Only.refl No _⟩) ?_
        refine WD.p rfl (fun e w hR hh => by obtain ⟨h195, h187, -⟩ := hh; exact SG.s h187 (by simp; omega) ⟨rfl, Only.refl No _⟩) ?_
        refine WD.p rfl (fun e w hR hh => by obtain ⟨h196, h26, -⟩ := hh; exact SG.z h196 ⟨rfl, Only.refl No _⟩) ?_
        refine WD.p rfl (fun e w hR hh => by obtain ⟨h197, h196, -⟩ := hh; exact SG.z h196 ⟨rfl, Only.refl No _⟩) ?_
        refine WD.p rfl (fun e w hR hh => by obtain ⟨h198, h196, -⟩ := hh; exact SG.z h196 ⟨rfl, Only.refl No _⟩) ?_
        refine WD.p rfl (fun e w hR hh => by obtain ⟨h196, h4, -⟩ := hh; exact SG.z h196 ⟨rfl, Only.refl No _⟩) ?_
        refine WD.p rfl (fun e w hR hh => by obtain ⟨h200, h196, -⟩ := hh; exact SG.z h196 ⟨rfl, Only.refl No _⟩) ?_
        refine WD.p rfl (fun e w hR hh => by obtain ⟨h201, h199, h196, -⟩ := hh; exact SG.z h196 ⟨rfl, Only.refl No _⟩) ?_
        refine WD.p rfl (fun e w hR hh => by obtain ⟨h202, h196, h187, -⟩ := hh; exact SG.s h187 (by simp; omega) ⟨rfl, Only.refl No _⟩) ?_
        refine WD.p rfl (fun e w hR hh => by obtain ⟨h203, h187, -⟩ := hh; exact SG.n (o_pickT h187 (by simp; omega) ⟨rfl, Only.refl No _⟩)) ?_
        refine WD.p rfl (fun e w hR hh => by obtain ⟨h204, -⟩ := hh; exact SG.n (o_ash h204 ⟨rfl, Only.refl No _⟩)) ?_
        rintro e w hR ⟨h10, h204, h203, h202, h201, h200, h199, h198, h197, h196, h195, h194, h193, h192, h191, h190, h189, h188, h187, h186, h185, h184, h183, h182, h181, h180, h179, h4, h26, h27, -⟩
        refine W.ret ?_
        refine ret1v rfl h10 ?_
        exact ⟨rfl, hx28.tr ((hy.tr hxd).tr (hwd ▸ hR))⟩

open Go.ChangeShapes Go.WideShapes
theorem seven_cells {cs : List Value} (h : cs.length = 7) : ∃ a b c d e f g, cs = [a, b, c, d, e, f, g] := by
  match cs, h with
  | [a, b, c, d, e, f, g], _ => exact ⟨a, b, c, d, e, f, g, rfl⟩
abbrev FrD := Fr × Value
def frV (o : FrD) : List Value := fcells o.1 o.2
theorem open_intl {H : Type} {enc : TypeId × Value → H} {P : Program} {W : World} {held : Bool} {t e : TypeId} (hu : P.underlying t = some (.slice e)) (he : P.underlying e = some (.int .i64)) (hs : P.cellsOf e = 1) {fuel : Nat} {v : Value} {x : DataW H × List MemPlace}
    (h : DataW.trod enc P W 0 (fun _ => true) held fuel t [v] = some x) : ∃ xs : List Int, xs.length ≤ 9223372036854775807 ∧ Sl W 1 v xs.length (ints xs) := by
  rcases open_ints hu he hs h with ⟨hcs, hd, _⟩ | ⟨a, l, c, zs, hcs, -, hl, hm, hzl, hd, hcell, hwz⟩
  · simp only [List.cons.injEq, and_true] at hcs
    subst hcs
    exact ⟨[], by decide, Sl.nil _ _⟩
  · simp only [List.cons.injEq, and_true] at hcs
    subst hcs
    obtain ⟨ys, h1, -, h2, h4⟩ := ints_row (w := W) (k := .i64) (.inr ⟨_, rfl, hl, hm, hzl, hcell⟩)
    exact ⟨ys, by rw [h1]; exact h2, h4⟩
theorem open_frame {H : Type} {enc : TypeId × Value → H} {W : World} {held : Bool} {n : Nat} {cs : List Value} {y : DataW H × List MemPlace} (h : DataW.trod enc Try.prog W 0 (fun _ => true) held n 39 cs = some y) (hz : Small Try.prog 39 y.1) : ∃ o : FrD, cs = frV o ∧ In W o.2 o.1.tab := by
  have hl := open_struct_len (s := 7) Try.underlying39 (by kernel_rfl) h
  obtain ⟨a, b, c, d, e, f, g, rfl⟩ := seven_cells hl
  obtain ⟨n0, y0, h0, -⟩ := open_field 0 0 1 Try.underlying39 rfl rfl rfl (by kernel_rfl) h hz
  obtain ⟨n1, y1, h1, -⟩ := open_field 1 1 1 Try.underlying39 rfl rfl rfl (by kernel_rfl) h hz
  obtain ⟨n2, y2, h2, -⟩ := open_field 2 2 1 Try.underlying39 rfl rfl rfl (by kernel_rfl) h hz
  obtain ⟨n3, y3, h3, -⟩ := open_field 3 3 1 Try.underlying39 rfl rfl rfl (by kernel_rfl) h hz
  obtain ⟨n4, y4, h4, -⟩ := open_field 4 4 1 Try.underlying39 rfl rfl rfl (by kernel_rfl) h hz
  obtain ⟨n5, y5, h5, -⟩ := open_field 5 5 1 Try.underlying39 rfl rfl rfl (by kernel_rfl) h hz
  obtain ⟨n6, y6, h6, -⟩ := open_field 6 6 1 Try.underlying39 rfl rfl rfl (by kernel_rfl) h hz
  obtain ⟨k0, e0, -, -⟩ := DataW.trod_int Try.underlying3 h0
  obtain ⟨k1, e1, -, -⟩ := DataW.trod_int Try.underlying3 h1
  obtain ⟨k2, e2, -, -⟩ := DataW.trod_int Try.underlying3 h2
  obtain ⟨k3, e3, -, -⟩ := DataW.trod_int Try.underlying3 h3
  obtain ⟨k4, e4, -, -⟩ := DataW.trod_int Try.underlying3 h4
  obtain ⟨k5, e5, -, -⟩ := DataW.trod_int Try.underlying3 h5
  obtain ⟨xs, -, hS⟩ := open_intl Try.underlying37 Try.underlying3 (by kernel_rfl) h6
  simp only [List.drop_zero, List.drop_succ_cons, List.take_succ_cons, List.take_zero, List.cons.injEq, and_true] at e0 e1 e2 e3 e4 e5
  exact ⟨(⟨k0, k1, k2, k3, k4, k5, xs⟩, g), by rw [e0, e1, e2, e3, e4, e5]; rfl, hS⟩
theorem flatMap_getD {α β : Type} (f : α → List β) (d : α) (l : List α) : l.flatMap f = (List.range l.length).flatMap (fun j => f (l.getD j d)) := by
  have h : l = (List.range l.length).map (fun j => l.getD j d) := by
    apply List.ext_getElem
    · simp
    · intro i h1 h2; simp [List.getD_eq_getElem?_getD, h1]
  conv => lhs; rw [h]
  rw [List.flatMap_map]
theorem Fs.open {w : World} {v : Value} {os : List FrD} (h : Sl w 7 v os.length (os.flatMap frV)) (ht : ∀ o ∈ os, In w o.2 o.1.tab) : Fs w v (os.map Prod.fst) (fun j => (os.getD j (Fr.nil, undef)).2) := by
  have hg : ∀ j, j < os.length → (os.map Prod.fst).getD j Fr.nil = (os.getD j (Fr.nil, undef)).1 := fun j hj => by simp [List.getD_eq_getElem?_getD, hj]
  refine ⟨?_, fun j hj => ?_⟩
  · rw [List.length_map]
    have : frows (os.map Prod.fst) (fun j => (os.getD j (Fr.nil, undef)).2) = os.flatMap frV := by
      rw [flatMap_getD frV (Fr.nil, undef) os, frows, List.length_map]
      refine fm_congr fun j hj => ?_
      rw [hg j (List.mem_range.1 hj)]; rfl
    rw [this]; exact h
  · rw [List.length_map] at hj
    have hm : os.getD j (Fr.nil, undef) = os[j] := by simp [List.getD_eq_getElem?_getD, hj]
    rw [tabl, hg j hj]
    show In w (os.getD j (Fr.nil, undef)).2 _
    rw [hm]
    exact ht _ (List.getElem_mem hj)
theorem back_walk' (w0 : World) (v : Value) (os : List FrD) (hol : os.length ≤ maxLen) (hS : Sl w0 7 v os.length (os.flatMap frV)) (ht : ∀ o ∈ os, In w0 o.2 o.1.tab) (gone : Int) (_ : -9223372036854775808 ≤ gone ∧ gone ≤ 9223372036854775807) (at_ : Int) (_ : -9223372036854775808 ≤ at_ ∧ at_ ≤ 9223372036854775807) (mv : Value) (xs : List UInt8) (hxl : xs.length ≤ 140737488351232) (hX : By w0 mv xs) (yv : Value) (ys : List UInt8) (hyl : ys.length ≤ 140737488351232) (hY : By w0 yv ys) :
    Ca Try.prog 3 #[v, .int .i64 gone, .int .i64 at_, mv, yv] w0 (fun r w' => r = .bool true ∧ Ext w0 w') :=
  back_walk w0 v _ _ (Fs.open hS ht) gone at_ mv xs hxl hX yv ys hyl hY

end Go.Proofs.Ytdiaeafjjffjmaa
